/- Adopting: the laws, plain. -/
import Derived.Test.YtdofpehcojboeaaYAdS
import Derived.Test.YtdofpehcojboeaaYAdWPlays
namespace Go.Proofs.Ytdofpehcojboeaa

theorem awake18 : F_law18_awake = some true := by kernel_rfl

-- what is the same as itself
theorem sameOps_refl (l : List EOp) (h : l.length ≤ 1000) : F_ref06_SameOps l l = some true := by
 unfold F_ref06_SameOps
 rw [if_neg (by rw [bne_self_eq_false]; decide)]
 refine iter_up l.length (fun _ => some true) (by unfold bdM; omega) fun rc i hi hrc => ?_
 simp only [F_ref06_SameOps_l1, toNat_cast]
 by_cases c : i < l.length
 ·rw [if_pos (by rw [decide_eq_true (by omega)]; rfl), chk_t (by omega), chk_t (by omega), if_neg (by rw [eqEOp_iff.2 rfl]; decide), chk_t (by unfold inI; omega)]
  exact hrc c
 ·rw [if_neg (by rw [decide_eq_false (by omega)]; decide)]

theorem same08_refl (e : EEntry) (h : e.batch.ops.length ≤ 1000) : F_ref08_Same e e = some true := by
 unfold F_ref08_Same F_ref06_Same
 rw [beq_self_eq_true, beq_self_eq_true, beq_self_eq_true, gif_true, show (true && true) = true from rfl, gif_true, sameOps_refl _ h]
 rfl

theorem same10_refl (n : Nat) (e : EEntry) (h : e.batch.ops.length ≤ 1000) : F_ref10_Same (noteE n e) (noteE n e) = some true := by
 have h7 : F_ref07_Same (noteE n e).conf (noteE n e).conf = some true := by kernel_rfl
 have hi : F_ref10_SameInts (noteE n e).legit (noteE n e).legit = some true := by kernel_rfl
 have he : F_ref08_Same (noteE n e).entry (noteE n e).entry = some true := same08_refl e h
 unfold F_ref10_Same
 rw [beq_self_eq_true, beq_self_eq_true, beq_self_eq_true, show ((true && true) && true) = true from rfl, gif_true, h7, Option.bind_some, show (true && true) = true from rfl, gif_true, hi, Option.bind_some, show (true && true) = true from rfl, gif_true, he, Option.bind_some, eqEPin_iff.2 rfl, eqEAnswer_iff.2 rfl]
 rfl

theorem runT_notes : ∀ (l L : List EEntry) (n : Nat) (x : ENote), (∀ e ∈ L, e.batch.ops.length ≤ 1000) → (∀ e ∈ l, e.batch.ops.length ≤ 1000) → x ∈ (runT L n l).2.1 → ∃ m e, x = noteE m e ∧ n ≤ m ∧ e.batch.ops.length ≤ 1000
 | [], _, _, _, _, _, h => by cases h
 | e :: r, L, n, x, hL, hl, h => by
  by_cases c : here L n (oneS L n e)
  ·rw [runT_here c] at h
   obtain ⟨m, y, h1, h2, h3⟩ := runT_notes r L (n + 1) x hL (fun z hz => hl z (by simp [hz])) h
   exact ⟨m, y, h1, by omega, h3⟩
  ·by_cases c2 : setC L n (oneS L n e) = 0
   ·rw [runT_put c c2] at h
    have hop : (oneS L n e).batch.ops.length ≤ 4 := (batchCheck_ok (setC_ok.1 c2).chk).2.2.2.2.1
    rcases List.mem_cons.1 h with rfl | h
    ·exact ⟨n, _, rfl, Nat.le_refl _, by omega⟩
    ·have hP : ∀ z ∈ putE L n (oneS L n e), z.batch.ops.length ≤ 1000 := by
      intro z hz
      unfold putE at hz
      split at hz
      ·split at hz
       ·exact hL z hz
       ·rename_i q _
        rcases List.mem_append.1 hz with hz | hz
        ·exact hL z (List.mem_of_mem_take hz)
        ·rcases List.mem_cons.1 hz with rfl | hz
         ·exact hL (L.getD n default) (by rw [getD_lt q.1]; exact List.getElem_mem _)
         ·obtain ⟨y, y1, rfl⟩ := List.mem_map.1 hz
          exact hL y (List.mem_of_mem_drop y1)
      ·rcases List.mem_append.1 hz with hz | hz
       ·exact hL z (List.mem_of_mem_take hz)
       ·obtain rfl := List.mem_singleton.1 hz; omega
     obtain ⟨m, y, h1, h2, h3⟩ := runT_notes r _ (n + 1) x hP (fun z hz => hl z (by simp [hz])) h
     exact ⟨m, y, h1, by omega, h3⟩
   ·rw [runT_stop c c2] at h; cases h

theorem notes_refl (l : List ENote) (hl : l.length ≤ 1000) (h : ∀ x ∈ l, ∃ m e, x = noteE m e ∧ e.batch.ops.length ≤ 1000) : F_law18_notes l l = some true := by
 unfold F_law18_notes
 rw [if_neg (by rw [bne_self_eq_false]; decide)]
 refine iter_up l.length (fun _ => some true) (by unfold bdM; omega) fun rc i hi hrc => ?_
 unfold F_law18_notes_l1
 dsimp only
 rw [toNat_cast]
 by_cases c : i < l.length
 ·obtain ⟨m, e, h1, h2⟩ := h (l.getD i default) (by rw [getD_lt c]; exact List.getElem_mem c)
  rw [if_pos (by rw [decide_eq_true (by omega)]; rfl), chk_t (by omega), chk_t (by omega)]
  show (F_ref10_Same (l.getD i default) (l.getD i default)).bind _ = _
  rw [h1, same10_refl m e h2, Option.bind_some, if_neg (by decide), chk_t (by unfold inI; omega)]
  exact hrc c
 ·rw [if_neg (by rw [decide_eq_false (by omega)]; decide)]

-- how far two logs are twins
def baseS : List EEntry → List EEntry → Nat
 | a :: x, b :: y => if tw a b = true then baseS x y + 1 else 0
 | _, _ => 0

theorem base_at {own other : List EEntry} {k : Nat} (h1 : k < own.length) (h2 : k < other.length) : baseS (own.drop k) (other.drop k) = if tw (own.getD k default) (other.getD k default) = true then baseS (own.drop (k + 1)) (other.drop (k + 1)) + 1 else 0 := by
 rw [drop_cons (d := default) h1, drop_cons (d := default) h2]; rfl

theorem base_end {own other : List EEntry} {k : Nat} (h : ¬ (k < own.length ∧ k < other.length)) : baseS (own.drop k) (other.drop k) = 0 := by
 by_cases c : k < own.length
 ·rw [show other.drop k = [] from List.drop_eq_nil_of_le (by omega), drop_cons (d := default) c]; rfl
 ·rw [show own.drop k = [] from List.drop_eq_nil_of_le (by omega)]; rfl

theorem adopt_Base (own other : List EEntry) (h1 : own.length ≤ 1000) (h2 : other.length ≤ 1000) : F_adopt_Base own other = some (baseS own other : Int) := by
 unfold F_adopt_Base
 refine (iter_up (min own.length other.length) (fun k => some ((k + baseS (own.drop k) (other.drop k) : Nat) : Int)) (by unfold bdM; omega) fun rc k hk hrc => ?_).trans (by simp)
 unfold F_adopt_Base_l1
 dsimp only
 rw [toNat_cast]
 by_cases c : k < own.length ∧ k < other.length
 ·rw [if_pos (decide_eq_true (by omega)), chk_t (by omega), chk_t (by omega)]
  show (F_item_Twins (own.getD k default) (other.getD k default)).bind _ = _
  rw [item_Twins, Option.bind_some, base_at c.1 c.2]
  by_cases t : tw (own.getD k default) (other.getD k default) = true
  ·rw [if_neg (by rw [t]; decide), if_pos t, chk_t (by unfold inI; omega), hrc (by omega)]
   congr 1; omega
  ·rw [if_pos (by simpa using t), if_neg t]; rfl
 ·rw [if_neg (by rw [decide_eq_false (by omega)]; decide), base_end c]
  congr 1; omega

theorem ref_Base (own other : List EEntry) (h1 : own.length ≤ 1000) (h2 : other.length ≤ 1000) : F_ref18_Base own other = some (baseS own other : Int) := by
 unfold F_ref18_Base
 refine (iter_up (min own.length other.length) (fun k => some ((k + baseS (own.drop k) (other.drop k) : Nat) : Int)) (by unfold bdM; omega) fun rc k hk hrc => ?_).trans (by simp)
 unfold F_ref18_Base_l1
 dsimp only
 rw [toNat_cast]
 by_cases c : k < own.length ∧ k < other.length
 ·have e : (decide ((k : Int) < (own.length : Int)) && decide ((k : Int) < (other.length : Int))) = true := by rw [decide_eq_true (show (k : Int) < (own.length : Int) by omega), decide_eq_true (show (k : Int) < (other.length : Int) by omega)]; rfl
  rw [e, chk_t (fun _ => by omega), chk_t (fun _ => by omega), gif_true]
  show (F_ref08_Twins (own.getD k default) (other.getD k default)).bind _ = _
  rw [ref08_Twins, Option.bind_some, base_at c.1 c.2, Bool.true_and]
  by_cases t : tw (own.getD k default) (other.getD k default) = true
  ·rw [if_pos t, if_pos t, chk_t (by unfold inI; omega), hrc (by omega)]
   congr 1; omega
  ·rw [if_neg t, if_neg t]; rfl
 ·have e : (decide ((k : Int) < (own.length : Int)) && decide ((k : Int) < (other.length : Int))) = false := by
   rw [Bool.and_eq_false_iff, decide_eq_false_iff_not, decide_eq_false_iff_not]; omega
  rw [e, chk_t (fun h => by cases h), chk_t (fun h => by cases h), gif_false, Option.bind_some, Bool.false_and, if_neg (by decide), base_end c]
  rfl

-- how much there is
theorem much_ok (l : List EEntry) (hl : bdSl bdEEntry l) (h : (l.length + muchS l 0 : Nat) ≤ 80) : l.length ≤ 80 ∧ ∀ e ∈ l, e.batch.ops.length ≤ 80 := by
 refine ⟨by omega, fun e he => ?_⟩
 have h2 : muchS l 0 = (l.map fun e => e.batch.ops.length).sum := by
  unfold muchS; rw [List.drop_zero, List.take_of_length_le (by omega)]
 have h3 : ∀ (l : List EEntry), e ∈ l → e.batch.ops.length ≤ (l.map fun e => e.batch.ops.length).sum := by
  intro l
  induction l with
  | nil => intro h; cases h
  | cons a r ih =>
   intro h
   rw [List.map_cons, List.sum_cons]
   rcases List.mem_cons.1 h with rfl | h
   ·omega
   ·have := ih h; omega
 have := h3 l he
 omega

theorem Plays_loop (own other : List EEntry) (good : Int) (ho : ∀ e ∈ own, e.batch.ops.length ≤ 80) (hl : other.length ≤ 80) (ho2 : ∀ e ∈ other, e.batch.ops.length ≤ 80) (hown : own.length ≤ 80) (t : List ENote × Int) (ht : F_law18_notes t.1 t.1 = some true) : iter (F_law18_AdoptPlays_l1 own other good t t) FU (true, 0) = some true := by
 refine iter_rule (fun s : Bool × Int => other.length - s.2.toNat) (fun _ => some true) (fun s => s.1 = true ∧ 0 ≤ s.2 ∧ s.2 ≤ (other.length : Int)) ?_ FU _ ⟨rfl, by simp, by simp⟩ (by unfold FU; simp only; omega)
 rintro rc ⟨ok, i⟩ ⟨h1, h2, h3⟩ hrc
 simp only at h1 h2 h3 hrc
 subst h1
 obtain ⟨k, rfl⟩ := Int.eq_ofNat_of_zero_le h2
 unfold F_law18_AdoptPlays_l1
 dsimp only
 rw [toNat_cast]
 by_cases c : k < other.length
 ·rw [if_pos (decide_eq_true (by omega)), if_pos rfl, chk_t (by omega)]
  show (F_adopt_One own good (other.getD k default)).bind _ = _
  rw [adopt_One, Option.bind_some, chk_t (by omega)]
  show (F_ref18_One own good (other.getD k default)).bind _ = _
  have hx : (oneS own good (other.getD k default)).batch.ops.length ≤ 1000 := by
   unfold oneS
   split
   ·rename_i q
    have : (own.getD good.toNat default).batch.ops.length ≤ 80 := ho _ (by rw [getD_lt (by omega)]; exact List.getElem_mem _)
    split
    ·show (own.getD good.toNat default).batch.ops.length ≤ 1000; omega
    ·omega
   ·have : (other.getD k default).batch.ops.length ≤ 80 := ho2 _ (by rw [getD_lt c]; exact List.getElem_mem c)
    omega
  rw [ref_One, Option.bind_some, same08_refl _ hx, Option.bind_some, chk_t (by unfold inI; omega)]
  exact hrc (true, (k : Int) + 1) ⟨rfl, by simp only; omega, by simp only; omega⟩ (by simp only [toNat_cast1, toNat_cast]; omega)
 ·rw [if_neg (by rw [decide_eq_false (by omega)]; decide), gif_true, ht, Option.bind_some, beq_self_eq_true, show ((true && true) && true) = true from rfl, gif_true, adopt_Base _ _ (by omega) (by omega), Option.bind_some, gif_true, ref_Base _ _ (by omega) (by omega), Option.bind_some, beq_self_eq_true, show (true && true) = true from rfl, gif_true, awake18]
  rfl

theorem pure_AdoptPlays (own other : List EEntry) (good fr : Int) (h1 : bdSl bdEEntry own) (h2 : bdSl bdEEntry other) (_ : inI good) (_ : inI fr) : F_law18_AdoptPlays own other good fr = some true := by
 unfold F_law18_AdoptPlays
 rw [law08_Much own h1, Option.bind_some, law08_Much other h2, gif_some, Option.bind_some]
 by_cases c : (own.length + muchS own 0 ≤ 80 ∧ other.length + muchS other 0 ≤ 80) ∧ fr ≤ 1000
 ·obtain ⟨⟨c1, c2⟩, c3⟩ := c
  obtain ⟨a1, a2⟩ := much_ok own h1 c1
  obtain ⟨b1, b2⟩ := much_ok other h2 c2
  have e1 : decide (((own.length + muchS own 0 : Nat) : Int) > 80) = false := decide_eq_false (by omega)
  have e2 : decide (((other.length + muchS other 0 : Nat) : Int) > 80) = false := decide_eq_false (by omega)
  have e3 : decide (fr > 1000) = false := decide_eq_false (by omega)
  rw [e1, show (!false) = true from rfl, if_pos rfl, e2, e3, if_neg (by decide), prog_Take (by omega) (by omega) (by omega), Option.bind_some, ref_Take (by omega) (fun e he => by have := a2 e he; omega) (by omega) (by omega), Option.bind_some]
  refine Plays_loop own other good a2 b1 b2 a1 _ (notes_refl _ ?_ fun x hx => ?_)
  ·unfold takeS
   split
   ·exact Nat.zero_le _
   ·have := (runT_len (other.drop (good - max fr 0).toNat) own good.toNat).1
    rw [List.length_drop] at this
    simp only; omega
  ·unfold takeS at hx
   split at hx
   ·cases hx
   ·obtain ⟨m, e, q1, _, q3⟩ := runT_notes _ _ _ x (fun e he => by have := a2 e he; omega) (fun e he => by have := b2 e (List.mem_of_mem_drop he); omega) hx
    exact ⟨m, e, q1, q3⟩
 ·rw [if_pos, awake18]
  ·rfl
  ·by_cases d1 : own.length + muchS own 0 ≤ 80
   ·rw [decide_eq_false (show ¬ ((own.length + muchS own 0 : Nat) : Int) > 80 by omega), show (!false) = true from rfl, if_pos rfl, Bool.false_or, Bool.or_eq_true, decide_eq_true_eq, decide_eq_true_eq]
    omega
   ·rw [decide_eq_true (show ((own.length + muchS own 0 : Nat) : Int) > 80 by omega)]; rfl

end Go.Proofs.Ytdofpehcojboeaa
