/- Adopting where two logs agree, plain. -/
import Derived.Test.YtdofpehcojboeaaYAdU
import Derived.Test.YtdofpehcojboeaaYAdWAgreed
namespace Go.Proofs.Ytdofpehcojboeaa

/-- the first k entries agree -/
def Ag (own other : List EEntry) (k : Nat) : Prop := k ≤ own.length ∧ k ≤ other.length ∧ ∀ j, j < k → tw (own.getD j default) (other.getD j default) = true ∧ (own.getD j default).ts = (other.getD j default).ts

theorem run_agree {own other : List EEntry} : ∀ k, Ag own other k → runT own 0 other = runT own k (other.drop k)
 | 0, _ => by rw [List.drop_zero]
 | k + 1, h => by
  have hk := h.2.2 k (by omega)
  have h1 := h.1
  have h2 := h.2.1
  rw [run_agree k ⟨by omega, by omega, fun j hj => h.2.2 j (by omega)⟩, drop_cons (d := default) (show k < other.length by omega)]
  refine runT_here ?_
  rcases one_x (L := own) (n := k) (other.getD k default) with ⟨_, hx⟩ | ⟨g1, g2, g3, hx⟩ | ⟨g1, g2, g3, hx⟩
  ·exact absurd ⟨by omega, hk.1⟩ hx
  ·rw [hx]; exact ⟨g1, by rw [tw_stamp2]; exact tw_self _, hk.2⟩
  ·rw [hx]; exact ⟨g1, tw_self _, rfl⟩

theorem run_take : ∀ (l L : List EEntry) (n k : Nat), k ≤ n → (runT L n l).1.take k = L.take k
 | [], _, _, _, _ => rfl
 | e :: r, L, n, k, hk => by
  by_cases c : here L n (oneS L n e)
  ·rw [runT_here c]; exact run_take r L (n + 1) k (by omega)
  ·by_cases c2 : setC L n (oneS L n e) = 0
   ·rw [runT_put c c2]
    show (runT (putE L n (oneS L n e)) (n + 1) r).1.take k = _
    rw [run_take r _ (n + 1) k (by omega), put_take (by have := (setC_ok.1 c2).le; omega) k hk]
   ·rw [runT_stop c c2]

theorem sameAll_refl (l : List EEntry) (hl : l.length ≤ 1000) (h : ∀ e ∈ l, e.batch.ops.length ≤ 1000) : F_ref08_SameAll l l = some true := by
 unfold F_ref08_SameAll
 rw [if_neg (by rw [bne_self_eq_false]; decide)]
 refine iter_up l.length (fun _ => some true) (by unfold bdM; omega) fun rc i hi hrc => ?_
 unfold F_ref08_SameAll_l1
 dsimp only
 rw [toNat_cast]
 by_cases c : i < l.length
 ·rw [if_pos (by rw [decide_eq_true (by omega)]; rfl), chk_t (by omega), chk_t (by omega)]
  show (F_ref08_Same (l.getD i default) (l.getD i default)).bind _ = _
  rw [same08_refl _ (h _ (by rw [getD_lt c]; exact List.getElem_mem c)), Option.bind_some, if_neg (by decide), chk_t (by unfold inI; omega)]
  exact hrc c
 ·rw [if_neg (by rw [decide_eq_false (by omega)]; decide)]

theorem Agreed_fin {own other : List EEntry} (hR : Rt own) (hO : Rt other) (hw : own.length ≤ 60) (ho : other.length ≤ 60) {k : Nat} (hk : Ag own other k) : (F_adopt_Take own 0 0 other).bind (fun t_2 => iter (F_law18_AdoptAgreed_l2 own other (k : Int) t_2) FU 0) = some true := by
 obtain ⟨r1, r2, r3, r4⟩ := run_ad hO ho other own 0 hR hw ⟨Nat.zero_le _, fun j hj => by omega⟩ (by omega) (fun j _ => by rw [Nat.zero_add])
 rw [Nat.zero_add] at r3
 have hlen := (runT_len other own 0).1
 have hn : ∀ x ∈ (runT own 0 other).2.1, (k : Int) ≤ x.n := fun x hx => by
  rw [run_agree k hk] at hx
  obtain ⟨m, e, q1, q2, _⟩ := runT_notes _ _ _ x (fun e he => by have := (hR.ops he).2; omega) (fun e he => by have := (hO.ops (List.mem_of_mem_drop he)).2; omega) hx
  rw [q1]
  show (k : Int) ≤ (m : Int)
  omega
 have ht : (runT own 0 other).1.take k = own.take k := by rw [run_agree k hk]; exact run_take _ _ _ _ (Nat.le_refl _)
 have hko := hk.1
 have hkt := hk.2.1
 have hkl : k ≤ (runT own 0 other).1.length := by have := r3.1; omega
 rw [prog_Take (by omega) (by omega) (by decide), Option.bind_some, show takeS own 0 0 other = takeS own ((0 : Nat) : Int) ((0 : Nat) : Int) other from rfl, takeS_run hR (Nat.zero_le _) (Nat.le_refl _), Nat.sub_self, List.drop_zero]
 refine iter_up (runT own 0 other).2.1.length (fun _ => some true) (by unfold bdM; omega) fun rc i hi hrc => ?_
 unfold F_law18_AdoptAgreed_l2
 dsimp only
 rw [toNat_cast]
 by_cases c : i < (runT own 0 other).2.1.length
 ·have := hn ((runT own 0 other).2.1.getD i default) (by rw [getD_lt c]; exact List.getElem_mem c)
  rw [if_pos (decide_eq_true (by omega)), chk_t (by omega), if_neg (by rw [decide_eq_false (by omega)]; decide), chk_t (by unfold inI; omega)]
  exact hrc c
 ·rw [if_neg (by rw [decide_eq_false (by omega)]; decide), laid_ok hR (by omega) (by omega), Option.bind_some]
  dsimp only
  rw [chk_t (by omega), chk_t (by omega), toNat_cast, ht, decide_eq_true (show ((runT own 0 other).1.length : Int) ≥ (k : Int) by omega), show (true && true) = true from rfl, gif_true, sameAll_refl _ (by rw [List.length_take]; omega) (fun e he => by have := (hR.ops (List.mem_of_mem_take he)).2; omega), Option.bind_some, show (true && true) = true from rfl, gif_true, adopt_Base _ _ (by omega) (by omega), Option.bind_some,
   base_ge k hko hkt (fun j hj => (hk.2.2 j hj).1), decide_eq_true (show ((k + baseS (own.drop k) (other.drop k) : Nat) : Int) ≥ (k : Int) by omega), awake18]
  rfl

theorem pure_AdoptAgreed (own other : List EEntry) (h1 : bdSl bdEEntry own) (h2 : bdSl bdEEntry other) : F_law18_AdoptAgreed own other = some true := by
 unfold F_law18_AdoptAgreed
 rw [law08_Much own h1, law08_Much other h2, ref08_Right own h1.1, ref08_Right other h2.1]
 refine guard_gen awake18 fun a b c d => ?_
 have hR := (right_iff own).1 c
 have hO := (right_iff other).1 d
 have ho : other.length ≤ 60 := by omega
 have hw : own.length ≤ 60 := by omega
 refine iter_rule (fun s : Int => own.length - s.toNat) (fun _ => some true) (fun s => ∃ k : Nat, s = (k : Int) ∧ Ag own other k) ?_ FU _ ⟨0, rfl, Nat.zero_le _, Nat.zero_le _, fun j hj => by omega⟩ (by unfold FU; omega)
 rintro rc s ⟨k, rfl, hk⟩ hrc
 have hko := hk.1
 have hkt := hk.2.1
 unfold F_law18_AdoptAgreed_l1
 dsimp only
 rw [toNat_cast]
 by_cases e : k < own.length ∧ k < other.length
 ·rw [decide_eq_true (show (k : Int) < (own.length : Int) by omega), decide_eq_true (show (k : Int) < (other.length : Int) by omega), chk_t (fun _ => by omega), chk_t (fun _ => by omega), show (true && true) = true from rfl, gif_true]
  show (F_ref08_Twins (own.getD k default) (other.getD k default)).bind _ = _
  rw [ref08_Twins, Option.bind_some, chk_t (fun _ => by omega), chk_t (fun _ => by omega), Bool.true_and]
  by_cases t : tw (own.getD k default) (other.getD k default) = true ∧ (own.getD k default).ts = (other.getD k default).ts
  ·rw [if_pos (by rw [t.1, t.2, beq_self_eq_true]; rfl), chk_t (by unfold inI; omega)]
   refine hrc _ ⟨k + 1, rfl, by omega, by omega, fun j hj => ?_⟩ (by omega)
   by_cases q : j = k
   ·rw [q]; exact t
   ·exact hk.2.2 j (by omega)
  ·rw [if_neg (fun hh => by rw [Bool.and_eq_true, beq_iff_eq] at hh; exact t hh)]
   exact Agreed_fin hR hO hw ho hk
 ·have ec : (decide ((k : Int) < (own.length : Int)) && decide ((k : Int) < (other.length : Int))) = false := by
   rw [Bool.and_eq_false_iff, decide_eq_false_iff_not, decide_eq_false_iff_not]; omega
  rw [ec, chk_t (fun h => by cases h), chk_t (fun h => by cases h), gif_false, Option.bind_some, Bool.false_and, chk_t (fun h => by cases h), chk_t (fun h => by cases h), Bool.false_and, if_neg (by decide)]
  exact Agreed_fin hR hO hw ho hk

end Go.Proofs.Ytdofpehcojboeaa
