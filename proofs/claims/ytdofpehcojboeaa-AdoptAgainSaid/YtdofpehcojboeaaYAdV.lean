/- Adopting again, plain. -/
import Derived.Test.YtdofpehcojboeaaYAdU
import Derived.Test.YtdofpehcojboeaaYAdWAgain
namespace Go.Proofs.Ytdofpehcojboeaa

theorem run_same {L other : List EEntry} : ∀ (l : List EEntry) (n : Nat), Ad L other (n + l.length) → (∀ j, j < l.length → l.getD j default = other.getD (n + j) default) → runT L n l = (L, [], n + l.length)
 | [], _, _, _ => rfl
 | e :: r, n, h, hj => by
  rw [List.length_cons] at h hj
  have he : e = other.getD n default := hj 0 (by omega)
  have hr : ∀ j, j < r.length → r.getD j default = other.getD (n + 1 + j) default := fun j h2 => by
   have := hj (j + 1) (by omega)
   rw [show n + (j + 1) = n + 1 + j by omega] at this
   exact this
  have hA := h.2 n (by omega)
  rw [← he] at hA
  have hn := h.1
  have c : here L n (oneS L n e) := by
   rcases one_x (L := L) (n := n) e with ⟨_, hx⟩ | ⟨g1, g2, g3, hx⟩ | ⟨g1, g2, g3, hx⟩
   ·exact absurd ⟨by omega, hA.1⟩ hx
   ·rw [hx]; exact ⟨g1, by rw [tw_stamp2]; exact tw_self _, hA.2 g3⟩
   ·rw [hx]; exact ⟨g1, tw_self _, rfl⟩
  rw [runT_here c, List.length_cons, show n + (r.length + 1) = n + 1 + r.length by omega]
  exact run_same r (n + 1) (by rw [show n + 1 + r.length = n + (r.length + 1) by omega]; exact h) hr

theorem Ad_self (L : List EEntry) : Ad L L L.length := ⟨Nat.le_refl _, fun j _ => ⟨tw_self _, fun _ => rfl⟩⟩

theorem pure_AdoptAgain (own other : List EEntry) (from_ : Int) (h1 : bdSl bdEEntry own) (h2 : bdSl bdEEntry other) (h3 : inB from_) : F_law18_AdoptAgain own other from_ = some true := by
 unfold F_law18_AdoptAgain
 rw [law08_Much own h1, law08_Much other h2, ref08_Right own h1.1, ref08_Right other h2.1]
 refine guard_gen awake18 fun a b c d => ?_
 have hR := (right_iff own).1 c
 have hO := (right_iff other).1 d
 have ho : other.length ≤ 60 := by omega
 obtain ⟨r1, r2, r3, r4⟩ := run_ad hO ho other own 0 hR (by omega) ⟨Nat.zero_le _, fun j hj => by omega⟩ (by omega) (fun j _ => by rw [Nat.zero_add])
 rw [Nat.zero_add] at r3 r4
 generalize eL : (runT own 0 other).1 = L at r1 r2 r3
 have t1 : F_adopt_Take own 0 0 other = some ((runT own 0 other).2.1, (other.length : Int)) := by
  rw [prog_Take (by omega) (by omega) (by decide), show takeS own 0 0 other = takeS own ((0 : Nat) : Int) ((0 : Nat) : Int) other from rfl, takeS_run hR (Nat.zero_le _) (Nat.le_refl _), Nat.sub_self, List.drop_zero, r4]
 have t2 : F_adopt_Take L 0 0 other = some ([], (other.length : Int)) := by
  rw [prog_Take (by omega) (by omega) (by decide), show takeS L 0 0 other = takeS L ((0 : Nat) : Int) ((0 : Nat) : Int) other from rfl, takeS_run r1 (Nat.zero_le _) (Nat.le_refl _), Nat.sub_self, List.drop_zero, run_same (other := other) other 0 (by rw [Nat.zero_add]; exact r3) (fun j _ => by rw [Nat.zero_add]), Nat.zero_add]
 have t4 : F_adopt_Take own 0 0 own = some ([], (own.length : Int)) := by
  rw [prog_Take (by omega) (by omega) (by decide), show takeS own 0 0 own = takeS own ((0 : Nat) : Int) ((0 : Nat) : Int) own from rfl, takeS_run hR (Nat.zero_le _) (Nat.le_refl _), Nat.sub_self, List.drop_zero, run_same (other := own) own 0 (by rw [Nat.zero_add]; exact Ad_self own) (fun j _ => by rw [Nat.zero_add]), Nat.zero_add]
 unfold inB at h3
 have m1 := Int.tmod_nonneg (a := from_) ((other.length : Int) + 1) h3.1
 have m2 := Int.tmod_lt_of_pos from_ (show (0 : Int) < (other.length : Int) + 1 by omega)
 obtain ⟨f, hf⟩ := Int.eq_ofNat_of_zero_le m1
 have t3 : F_adopt_Take L (other.length : Int) (f : Int) (other.drop f) = some ([], (other.length : Int)) := by
  rw [prog_Take (by omega) (by rw [List.length_drop]; omega) (by omega), takeS_run r1 r3.1 (by omega), List.drop_drop, List.drop_eq_nil_of_le (by omega)]; rfl
 rw [t1, Option.bind_some]
 dsimp only
 rw [laid_ok hR (by omega) (by omega), Option.bind_some, eL]
 dsimp only
 rw [if_neg (by rw [bne_self_eq_false]; decide), chk_t (by unfold inI; omega), chk_t (by unfold inI; omega), chk_t (by omega), t2, Option.bind_some, hf, chk_t (by omega), toNat_cast, t3, Option.bind_some, t4, Option.bind_some]
 dsimp only
 rw [beq_self_eq_true, beq_self_eq_true, awake18]
 rfl

end Go.Proofs.Ytdofpehcojboeaa
