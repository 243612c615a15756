/- Messages: letters, and what is wrong with a part. -/
import Derived.Test.YtaknkbbjimielaaYMs2
import Derived.Test.YtaknkbbjimielaaYConfV
namespace Go.Proofs.Ytaknkbbjimielaa
structure bdEPair (x : EPair) : Prop where
 key : bdStr x.key
 val : bdStr x.val

structure bdEMsg (x : EMsg) : Prop where
 k : inI x.k
 epoch : inI x.epoch
 req : inI x.req
 serial : inI x.serial
 flag : bdT x.flag
 at_ : inU x.at_
 last : inU x.last
 n : inI x.n
 m : inI x.m
 p : inI x.p
 e : inI x.e
 key : bdStr x.key
 to_ : bdStr x.to_
 conf : bdEConf x.conf
 batch : bdEBatch x.batch
 entries : (bdSl bdEEntry) x.entries
 stamps : (bdSl inU) x.stamps
 pairs : (bdSl bdEPair) x.pairs

/-- a loop whose rounds all go on, up to the last one -/
theorem iter_ex {σ R : Type} {body : (σ → Option R) → σ → Option R} (μ : σ → Nat) (P : σ → Prop) (Q : R → Prop)
  (h : ∀ rc s, P s → (∃ s', P s' ∧ μ s' < μ s ∧ body rc s = rc s') ∨ (∃ r, body rc s = some r ∧ Q r)) : ∀ n s, P s → μ s < n → ∃ r, iter body n s = some r ∧ Q r
 | 0, s, _, hn => by omega
 | n + 1, s, hp, hn => by
  rcases h (iter body n) s hp with ⟨s', h1, h2, h3⟩ | ⟨r, h1, h2⟩
  ·obtain ⟨r, e, q⟩ := iter_ex μ P Q h n s' h1 (by omega)
   exact ⟨r, h3.trans e, q⟩
  ·exact ⟨r, h1, h2⟩

theorem lt_FU {n : Nat} (h : n ≤ bdM) : n < FU := by unfold FU; unfold bdM at h; omega

def lettersK (k : Int) : List Nat :=
 if k = 1 then [67, 97] else if k = 2 then [101, 115, 102, 97, 108] else if k = 3 then [101, 110, 109, 112, 114, 97, 69] else if k = 4 then [101, 110, 109, 112, 83] else if k = 5 then [101, 66] else if k = 6 then [114, 97] else if k = 7 then [114, 120, 101, 110] else if k = 8 then [114, 107, 97] else if k = 9 then [114, 107, 116, 97, 110] else if k = 10 then [114, 107, 97, 102, 82] else if k = 11 then [114, 97] else if k = 12 then [114, 110] else if k = 13 then [114, 110] else if k = 14 then [114, 110] else []

def okLt : List Nat := [101, 115, 114, 110, 109, 112, 120, 97, 108, 102, 107, 116, 67, 66, 69, 83, 82]

def Ltr (p : ByteArray) (L : List Nat) : Prop := p.size = L.length ∧ L.length ≤ 7 ∧ (∀ k, k < L.length → runeAt p k = (L.getD k 0 : Nat) ∧ nxP p k = k + 1 ∧ byteAt p k = L.getD k 0)

def ltrB (p : ByteArray) (L : List Nat) : Bool := decide (p.size = L.length) && decide (L.length ≤ 7) && (List.range L.length).all fun k => decide (runeAt p k = (L.getD k 0 : Nat)) && decide (nxP p k = k + 1) && decide (byteAt p k = L.getD k 0)

theorem ltr_of {p : ByteArray} {L : List Nat} (h : ltrB p L = true) : Ltr p L := by
 simp only [ltrB, Bool.and_eq_true, decide_eq_true_eq, List.all_eq_true, List.mem_range] at h
 exact ⟨h.1.1, h.1.2, fun k hk => ⟨(h.2 k hk).1.1, (h.2 k hk).1.2, (h.2 k hk).2⟩⟩

theorem parts_yes {k : Int} (h : 1 ≤ k ∧ k ≤ 15) : ∃ p, F_mess_parts k = some (p, true) ∧ F_ref09_parts k = some p ∧ seqB p ⟨#[63]⟩ = false ∧ Ltr p (lettersK k) ∧ ∀ c ∈ lettersK k, c ∈ okLt := by
 have : k = 1 ∨ k = 2 ∨ k = 3 ∨ k = 4 ∨ k = 5 ∨ k = 6 ∨ k = 7 ∨ k = 8 ∨ k = 9 ∨ k = 10 ∨ k = 11 ∨ k = 12 ∨ k = 13 ∨ k = 14 ∨ k = 15 := by omega
 rcases this with rfl | rfl | rfl | rfl | rfl | rfl | rfl | rfl | rfl | rfl | rfl | rfl | rfl | rfl | rfl <;>
  exact ⟨_, rfl, rfl, by kernel_rfl, ltr_of (by kernel_rfl), by decide⟩

theorem parts_no {k : Int} (h : ¬ (1 ≤ k ∧ k ≤ 15)) : F_mess_parts k = some (⟨#[]⟩, false) ∧ F_ref09_parts k = some ⟨#[63]⟩ := by
 constructor
 ·unfold F_mess_parts; rw [if_pos (by simp only [Bool.or_eq_true, decide_eq_true_eq]; omega)]
 ·have e : ∀ j : Int, 1 ≤ j → j ≤ 15 → (k == j) = false := fun j h1 h2 => beq_eq_false_iff_ne.2 (by omega)
  simp only [F_ref09_parts, F_ref09_parts_k1, F_ref09_parts_k2, e 1 (by decide) (by decide), e 2 (by decide) (by decide), e 3 (by decide) (by decide), e 4 (by decide) (by decide), e 5 (by decide) (by decide), e 6 (by decide) (by decide), e 7 (by decide) (by decide), e 8 (by decide) (by decide), e 9 (by decide) (by decide), e 10 (by decide) (by decide), e 11 (by decide) (by decide), e 12 (by decide) (by decide), e 13 (by decide) (by decide), e 14 (by decide) (by decide), e 15 (by decide) (by decide), Bool.false_eq_true, if_false]

-- what is wrong
def rng (n : Int) : Int := if n < 0 ∨ n > 1073741824 then 5 else 0

def firstBad {α : Type} (f : α → Int) : List α → Int
 | [] => 0
 | a :: l => if f a ≠ 0 then f a else firstBad f l

def pairBad (p : EPair) : Int := if p.key.size < 1 ∨ p.key.size > 8 then 10 else if p.val.size > 8 then 3 else 0

def wrongC (m : EMsg) : Nat → Int
 | 101 => rng m.epoch | 115 => rng m.serial | 114 => rng m.req | 110 => rng m.n | 109 => rng m.m | 112 => rng m.p
 | 120 => if m.e < 0 ∨ m.e > 21 then 1 else 0
 | 107 => if m.key.size > 8 then 3 else 0
 | 116 => if m.to_.size > 8 then 3 else 0
 | 67 => confCheck m.conf
 | 66 => batchCheck m.batch
 | 69 => if m.entries.length > 4 then 6 else firstBad (fun e => batchCheck e.batch) m.entries
 | 83 => if m.stamps.length > 8 then 6 else 0
 | 82 => if m.pairs.length > 32 then 6 else firstBad pairBad m.pairs
 | _ => 0

theorem bad_loop {α : Type} [Inhabited α] (f : α → Int) (l : List α) (hl : l.length ≤ bdM) {body : (Int → Option Int) → Int → Option Int}
  (h : ∀ rc (k : Nat), body rc (k : Int) = if k < l.length then (if f (l.getD k default) ≠ 0 then some (f (l.getD k default)) else rc ((k : Int) + 1)) else some 0) : iter body FU 0 = some (firstBad f l) := by
 refine (iter_up l.length (fun k => some (firstBad f (l.drop k))) hl fun rc k hk hrc => ?_).trans (by rw [List.drop_zero])
 rw [h]
 split
 ·rename_i h1
  rw [drop_cons (d := default) h1, firstBad]
  split
  ·rfl
  ·exact hrc h1
 ·rw [List.drop_eq_nil_of_le (by omega)]; rfl

theorem mess_entries (l : List EEntry) (hl : l.length ≤ bdM) : F_mess_entries l = some (firstBad (fun e => batchCheck e.batch) l) := by
 unfold F_mess_entries
 refine bad_loop _ l hl fun rc k => ?_
 unfold bdM at hl
 simp only [F_mess_entries_l1, decide_eq_true_eq, toNat_cast]
 by_cases hk : k < l.length
 ·rw [if_pos (by omega), if_pos hk, chk_t (by omega), item_Check, Option.bind_some]
  simp only [bne_iff_ne]
  split
  ·rfl
  ·rw [chk_t (by unfold inI; omega)]
 ·rw [if_neg (by omega), if_neg hk]

theorem mess_pairs (l : List EPair) (hl : l.length ≤ bdM) : F_mess_pairs l = some (firstBad pairBad l) := by
 unfold F_mess_pairs
 refine bad_loop _ l hl fun rc k => ?_
 unfold bdM at hl
 simp only [F_mess_pairs_l1, decide_eq_true_eq, toNat_cast]
 by_cases hk : k < l.length
 ·rw [if_pos (by omega), if_pos hk, chk_t (by omega), keys_Check, Option.bind_some, pairBad]
  by_cases h1 : (l.getD k default).key.size < 1 ∨ (l.getD k default).key.size > 8
  ·rw [if_pos h1, if_pos h1]; rfl
  rw [if_neg h1, if_neg h1, if_neg (by decide), F_mess_long]
  by_cases h2 : (l.getD k default).val.size > 8
  ·rw [if_pos (by simp only [decide_eq_true_eq]; omega), if_pos h2]; rfl
  rw [if_neg (by simp only [decide_eq_true_eq]; omega), if_neg h2, Option.bind_some, if_neg (by decide), chk_t (by unfold inI; omega), if_neg (by decide)]
 ·rw [if_neg (by omega), if_neg hk]

theorem mess_wrong_num {m : EMsg} {c : Int} {o : Nat} {x : Int} (h : F_mess_number c = some (some o)) (hs : selI [(1, m.epoch), (2, m.req), (3, m.serial), (7, m.n), (8, m.m), (9, m.p)] (some o) = some x) : F_mess_wrong m c = some (rng x) := by
 unfold F_mess_wrong
 rw [h, Option.bind_some, if_pos (show (!(some o).isNone) = true from rfl), chk_t (show (some o).isSome = true from rfl), hs, Option.bind_some, chk_t (show (!decide (x < 0)) = true → (some o).isSome = true from fun _ => rfl), gif_some, Option.bind_some]
 unfold rng
 by_cases h1 : x < 0
 ·rw [if_pos (by simp [h1]), if_pos (.inl h1)]
 ·by_cases h2 : x > 1073741824
  ·rw [if_pos (by simp [h1, h2]), if_pos (.inr h2)]
  ·rw [if_neg (by simp [h1, h2]), if_neg (by omega)]

theorem two_bad (b c : Prop) [Decidable b] [Decidable c] (x y : Option Int) : (if (decide b || decide c) = true then x else y) = if b ∨ c then x else y := by
 by_cases h : b <;> by_cases h2 : c <;> simp [h, h2]

theorem some_if (p : Prop) [Decidable p] (a b : Int) : (if p then some a else some b) = some (if p then a else b) := by split <;> rfl

theorem mess_wrong (m : EMsg) (hE : m.entries.length ≤ bdM) (hP : m.pairs.length ≤ bdM) (c : Nat) (h : c ∈ okLt) : F_mess_wrong m (c : Int) = some (wrongC m c) := by
 simp only [okLt, List.mem_cons, List.not_mem_nil, or_false] at h
 rcases h with rfl | rfl | rfl | rfl | rfl | rfl | rfl | rfl | rfl | rfl | rfl | rfl | rfl | rfl | rfl | rfl | rfl
 ·exact mess_wrong_num (o := 1) rfl rfl
 ·exact mess_wrong_num (o := 3) rfl rfl
 ·exact mess_wrong_num (o := 2) rfl rfl
 ·exact mess_wrong_num (o := 7) rfl rfl
 ·exact mess_wrong_num (o := 8) rfl rfl
 ·exact mess_wrong_num (o := 9) rfl rfl
 ·show (if (decide (m.e < 0) || decide (m.e > 21)) = true then some (1 : Int) else F_mess_wrong_k1) = _
  rw [two_bad, F_mess_wrong_k1, some_if]; rfl
 ·rfl
 ·rfl
 ·rfl
 ·show ((F_mess_long m.key 8).bind fun l => some l) = _
  rw [F_mess_long, some_if, Option.bind_some]; simp only [decide_eq_true_eq]
  show some (if (m.key.size : Int) > 8 then (3 : Int) else 0) = some (if m.key.size > 8 then 3 else 0)
  congr 1; split <;> split <;> first | rfl | omega
 ·show ((F_mess_long m.to_ 8).bind fun l => some l) = _
  rw [F_mess_long, some_if, Option.bind_some]; simp only [decide_eq_true_eq]
  show some (if (m.to_.size : Int) > 8 then (3 : Int) else 0) = some (if m.to_.size > 8 then 3 else 0)
  congr 1; split <;> split <;> first | rfl | omega
 ·show ((F_conf_Check m.conf).bind fun l => some l) = _
  rw [conf_Check]; rfl
 ·show ((F_ops_Check m.batch).bind fun l => some l) = _
  rw [ops_Check]; rfl
 ·show ((F_mess_full (m.entries.length : Int) 4).bind fun f => ((F_mess_or__mess_wrong_1 f m).bind fun x0 => some x0)) = some (if m.entries.length > 4 then 6 else firstBad (fun e => batchCheck e.batch) m.entries)
  rw [F_mess_full]
  by_cases h4 : m.entries.length > 4
  ·rw [if_pos (by simp only [decide_eq_true_eq]; omega), if_pos h4]; rfl
  ·rw [if_neg (by simp only [decide_eq_true_eq]; omega), if_neg h4, Option.bind_some, F_mess_or__mess_wrong_1, if_neg (by decide), F_mess_wrong_1, mess_entries _ hE]; rfl
 ·show ((F_mess_full (m.stamps.length : Int) 8).bind fun f => some f) = some (if m.stamps.length > 8 then 6 else 0)
  rw [F_mess_full]
  by_cases h4 : m.stamps.length > 8
  ·rw [if_pos (by simp only [decide_eq_true_eq]; omega), if_pos h4]; rfl
  ·rw [if_neg (by simp only [decide_eq_true_eq]; omega), if_neg h4]; rfl
 ·show ((F_mess_full (m.pairs.length : Int) 32).bind fun f => ((F_mess_or__mess_wrong_2 f m).bind fun x0 => some x0)) = some (if m.pairs.length > 32 then 6 else firstBad pairBad m.pairs)
  rw [F_mess_full]
  by_cases h4 : m.pairs.length > 32
  ·rw [if_pos (by simp only [decide_eq_true_eq]; omega), if_pos h4]; rfl
  ·rw [if_neg (by simp only [decide_eq_true_eq]; omega), if_neg h4, Option.bind_some, F_mess_or__mess_wrong_2, if_neg (by decide), F_mess_wrong_2, mess_pairs _ hP]; rfl

def msgCheck (m : EMsg) : Int := if 1 ≤ m.k ∧ m.k ≤ 15 then firstBad (wrongC m) (lettersK m.k) else 11

theorem mess_Check (m : EMsg) (hE : m.entries.length ≤ bdM) (hP : m.pairs.length ≤ bdM) : F_mess_Check m = some (msgCheck m) := by
 unfold F_mess_Check msgCheck
 by_cases hk : 1 ≤ m.k ∧ m.k ≤ 15
 ·obtain ⟨p, h1, _, _, ⟨h4, h5, h6⟩, h7⟩ := parts_yes hk
  rw [h1, if_pos hk, Option.bind_some, if_neg (show ¬ (!(p, true).2) = true from Bool.false_ne_true)]
  generalize lettersK m.k = L at *
  have := iter_rule (body := F_mess_Check_l1 m (p, true)) (fun s => L.length - s) (fun s => some (firstBad (wrongC m) (L.drop s))) (fun s => s ≤ L.length) (fun rc k hk hrc => by
   simp only [F_mess_Check_l1, decide_eq_true_eq, h4]
   by_cases hk1 : k < L.length
   ·obtain ⟨e1, e2, e3⟩ := h6 k hk1
    have hm : L.getD k 0 ∈ okLt := h7 _ (by rw [getD_lt hk1]; exact List.getElem_mem _)
    rw [if_pos hk1, chk_t hk1, e1, mess_wrong m hE hP _ hm, Option.bind_some, e2, drop_cons (d := 0) hk1, firstBad]
    simp only [bne_iff_ne]
    split
    ·rfl
    ·exact hrc _ (by omega) (by omega)
   ·rw [if_neg hk1, List.drop_eq_nil_of_le (by omega)]; rfl) FU 0 (by omega) (lt_FU (by unfold bdM; omega))
  rw [this, List.drop_zero]
 ·rw [(parts_no hk).1, if_neg hk]; rfl

end Go.Proofs.Ytaknkbbjimielaa
