/- Adopting piece by piece, plain. -/
import Derived.Test.YtdofpehcojboeaaYAdT
import Derived.Test.YtdofpehcojboeaaYAdWAll
namespace Go.Proofs.Ytdofpehcojboeaa

theorem guard_gen {m m2 r r2 : Int} {A B : Option Bool} (hA : A = some true) (hB : m ≤ 60 → m2 ≤ 60 → r = 0 → r2 = 0 → B = some true) :
  ((some m).bind fun m => ((gif (!(decide (m > 60))) (some m2) default).bind fun m_2 => ((gif (!((decide (m > 60)) || (decide (m_2 > 60)))) (some r) default).bind fun r0 => ((gif (!(((decide (m > 60)) || (decide (m_2 > 60))) || (r0 != 0))) (some r2) default).bind fun r0_2 => (if ((((decide (m > 60)) || (decide (m_2 > 60))) || (r0 != 0)) || (r0_2 != 0)) = true then (A.bind fun a0 => (some a0)) else B))))) = some true := by
 rw [Option.bind_some, hA, gif_some, Option.bind_some, gif_some, Option.bind_some, gif_some, Option.bind_some]
 by_cases c1 : m > 60
 ·rw [decide_eq_true c1]; rfl
 rw [decide_eq_false c1, show (!false) = true from rfl, if_pos rfl]
 by_cases c2 : m2 > 60
 ·rw [decide_eq_true c2]; rfl
 rw [decide_eq_false c2, show (!(false || false)) = true from rfl, if_pos rfl, show (false || false) = false from rfl, Bool.false_or]
 by_cases c3 : r = 0
 ·rw [show (r != 0) = false from by rw [c3]; rfl, show (!false) = true from rfl, if_pos rfl, Bool.false_or]
  by_cases c4 : r2 = 0
  ·rw [show (r2 != 0) = false from by rw [c4]; rfl, if_neg (by decide)]
   exact hB (by omega) (by omega) c3 c4
  ·rw [if_pos (bne_iff_ne.2 c4)]; rfl
 ·rw [bne_iff_ne.2 c3]; rfl

-- a log behind the notes
theorem laid_at (m : List ENote) (hm : m.length ≤ 1000) : ∀ (l L : List EEntry) (n k N : Nat), Rt L → L.length ≤ 100 → k ≤ m.length → m.length - k < N → m.drop k = (runT L n l).2.1 → iter (F_law18_laid_l1 m) N ((k : Int), ⟨L⟩) = some ((runT L n l).1, true) := by
 have fin : ∀ (L : List EEntry) (k N : Nat), m.length - k < N → k ≤ m.length → m.drop k = [] → iter (F_law18_laid_l1 m) N ((k : Int), ⟨L⟩) = some (L, true) := fun L k N h0 h1 h2 => by
  cases N with
  | zero => omega
  | succ N =>
   have : m.length ≤ k := List.drop_eq_nil_iff.1 h2
   show F_law18_laid_l1 m (iter (F_law18_laid_l1 m) N) ((k : Int), ⟨L⟩) = _
   generalize iter (F_law18_laid_l1 m) N = rc
   unfold F_law18_laid_l1
   dsimp only
   rw [if_neg (by rw [decide_eq_false (by omega)]; decide)]
 intro l
 induction l with
 | nil => intro L n k N _ _ h1 h0 h2; exact fin L k N h0 h1 h2
 | cons e r ih =>
  intro L n k N hR hL hk hN hm2
  by_cases c : here L n (oneS L n e)
  ·rw [runT_here c] at hm2 ⊢
   exact ih L (n + 1) k N hR hL hk hN hm2
  ·by_cases c2 : setC L n (oneS L n e) = 0
   ·rw [runT_put c c2] at hm2 ⊢
    simp only at hm2 ⊢
    have hkl : k < m.length := by
     have := congrArg List.length hm2
     rw [List.length_drop, List.length_cons] at this; omega
    rw [drop_cons (d := default) hkl] at hm2
    injection hm2 with q1 q2
    cases N with
    | zero => omega
    | succ N =>
     have hc := setC_ok.1 c2
     have hp := put_right hR hc
     rw [toNat_cast] at hp
     have hpl := (put_len (e := oneS L n e) (show n ≤ L.length by have := hc.le; omega)).2
     have hlt := hc.lt
     show F_law18_laid_l1 m (iter (F_law18_laid_l1 m) N) ((k : Int), ⟨L⟩) = _
     generalize e0 : iter (F_law18_laid_l1 m) N = rc
     unfold F_law18_laid_l1
     dsimp only
     rw [if_pos (decide_eq_true (by omega)), chk_t (by omega), chk_t (by omega), toNat_cast, q1]
     show (F_ref17_Log_Set ⟨L⟩ (n : Int) (oneS L n e)).bind _ = _
     rw [ref_Set (by omega) (fun e he => by have := (hR.ops he).2; omega), Option.bind_some, c2]
     dsimp only
     rw [if_neg (by decide), chk_t (by unfold inI; omega), if_pos rfl, toNat_cast, ← e0]
     exact ih (putE L n (oneS L n e)) (n + 1) (k + 1) N hp (by omega) (by omega) (by omega) q2
   ·rw [runT_stop c c2] at hm2 ⊢
    exact fin L k N hN hk hm2

theorem laid_ok {own : List EEntry} (hR : Rt own) (hL : own.length ≤ 100) {l : List EEntry} (hl : l.length ≤ 1000) (n : Nat) : F_law18_laid own (runT own n l).2.1 = some ((runT own n l).1, true) := by
 unfold F_law18_laid
 rw [Copy_eq own (by omega) (fun e he => by have := (hR.ops he).2; omega), Option.bind_some]
 have := (runT_len l own n).1
 exact laid_at _ (by omega) l own n 0 FU hR hL (Nat.zero_le _) (by unfold FU; omega) rfl

-- a log that has another's batches ahead
def Ad (L other : List EEntry) (n : Nat) : Prop := n ≤ L.length ∧ ∀ j, j < n → tw (L.getD j default) (other.getD j default) = true ∧ ((other.getD j default).ts ≠ 0 → (L.getD j default).ts = (other.getD j default).ts)

theorem one_x {L : List EEntry} {n : Nat} (e : EEntry) : (oneS L n e = e ∧ ¬ (n < L.length ∧ tw (L.getD n default) e = true)) ∨ (n < L.length ∧ tw (L.getD n default) e = true ∧ e.ts ≠ 0 ∧ oneS L n e = stampT (L.getD n default) e.ts) ∨ (n < L.length ∧ tw (L.getD n default) e = true ∧ e.ts = 0 ∧ oneS L n e = L.getD n default) := by
 unfold oneS
 rw [toNat_cast]
 by_cases c : n < L.length ∧ tw (L.getD n default) e = true
 ·rw [if_pos ⟨by omega, by omega, c.2⟩]
  by_cases z : e.ts = 0
  ·exact .inr (.inr ⟨c.1, c.2, z, if_neg fun h => h z⟩)
  ·exact .inr (.inl ⟨c.1, c.2, z, if_pos z⟩)
 ·exact .inl ⟨if_neg fun h => c ⟨by have := h.2.1; omega, h.2.2⟩, c⟩

theorem tw_stamp (a b : EEntry) (t : Int) : tw (stampT a t) b = tw a b := rfl

theorem tw_stamp2 (a b : EEntry) (t : Int) : tw b (stampT a t) = tw b a := rfl

theorem tw_sym {a b : EEntry} (h : tw a b = true) : tw b a = true := (tw_who _ _).2 ((tw_who _ _).1 h).symm

theorem tw_trans {a b c : EEntry} (h : tw a b = true) (h2 : tw b c = true) : tw a c = true := (tw_who _ _).2 (((tw_who _ _).1 h).trans ((tw_who _ _).1 h2))

theorem one_tw {L : List EEntry} {n : Nat} (e : EEntry) : tw (oneS L n e) e = true ∧ (e.ts ≠ 0 → (oneS L n e).ts = e.ts) := by
 rcases one_x (L := L) (n := n) e with ⟨h, _⟩ | ⟨_, h2, h3, h⟩ | ⟨_, h2, h3, h⟩
 ·rw [h]; exact ⟨tw_self e, fun _ => rfl⟩
 ·rw [h, tw_stamp]; exact ⟨h2, fun _ => rfl⟩
 ·rw [h]; exact ⟨h2, fun hh => absurd h3 hh⟩

theorem one_can {L other : List EEntry} (hR : Rt L) (hO : Rt other) {n : Nat} (hn : n < other.length) (h1 : n < 100) (h : Ad L other n) : canSet L (n : Int) (oneS L n (other.getD n default)) := by
 have q := hO n hn
 have q2 : ∀ j, j < n → tw (L.getD j default) (other.getD n default) = false := fun j hj => by
  cases t : tw (L.getD j default) (other.getD n default) with
  | false => rfl
  | true =>
   have := tw_trans (tw_sym (h.2 j hj).1) t
   rw [q.tw j hj] at this; cases this
 have q3 : 0 < n → (other.getD n default).ts ≠ 0 → (L.getD (n - 1) default).ts ≠ 0 ∧ (L.getD (n - 1) default).ts < (other.getD n default).ts := fun h0 hz => by
  have a := q.fol h0 hz
  have b := (h.2 (n - 1) (by omega)).2 a.1
  rw [b]; exact a
 have hi : ((n : Int) - 1).toNat = n - 1 := by omega
 have hle := h.1
 rcases one_x (L := L) (n := n) (other.getD n default) with ⟨hx, _⟩ | ⟨g1, g2, g3, hx⟩ | ⟨g1, g2, g3, hx⟩
 ·rw [hx]
  exact ⟨by omega, by omega, q.chk, by omega, fun j hj => q2 j (by omega), fun h0 hz => by rw [hi]; exact q3 (by omega) hz⟩
 ·rw [hx]
  refine ⟨by omega, by omega, (hR n g1).chk, by omega, fun j hj => ?_, fun h0 hz => ?_⟩
  ·rw [tw_stamp2]; exact (hR n g1).tw j (by omega)
  ·rw [hi]; exact q3 (by omega) g3
 ·rw [hx]
  refine ⟨by omega, by omega, (hR n g1).chk, by omega, fun j hj => (hR n g1).tw j (by omega), fun h0 hz => ?_⟩
  rw [hi]; exact (hR n g1).fol (by omega) hz

theorem ad_here {L other : List EEntry} {n : Nat} (h : Ad L other n) (c : here L n (oneS L n (other.getD n default))) : Ad L other (n + 1) := by
 refine ⟨by have := c.1; omega, fun j hj => ?_⟩
 by_cases e : j = n
 ·subst e
  have o := one_tw (L := L) (n := j) (other.getD j default)
  exact ⟨tw_trans c.2.1 o.1, fun hz => by rw [c.2.2]; exact o.2 hz⟩
 ·exact h.2 j (by omega)

theorem ad_put {L other : List EEntry} {n : Nat} (h : Ad L other n) : Ad (putE L n (oneS L n (other.getD n default))) other (n + 1) := by
 have hl := put_len (e := oneS L n (other.getD n default)) h.1
 refine ⟨by omega, fun j hj => ?_⟩
 by_cases e : j = n
 ·subst e
  have o := one_tw (L := L) (n := j) (other.getD j default)
  have a := put_at (e := oneS L j (other.getD j default)) h.1
  exact ⟨tw_trans a.1 o.1, fun hz => by rw [a.2]; exact o.2 hz⟩
 ·rw [put_get h.1 j (by omega)]
  exact h.2 j (by omega)

theorem run_ad {other : List EEntry} (hO : Rt other) (ho : other.length ≤ 60) : ∀ (l L : List EEntry) (n : Nat), Rt L → L.length ≤ 60 → Ad L other n → n + l.length ≤ other.length → (∀ j, j < l.length → l.getD j default = other.getD (n + j) default) →
  Rt (runT L n l).1 ∧ (runT L n l).1.length ≤ 60 ∧ Ad (runT L n l).1 other (n + l.length) ∧ (runT L n l).2.2 = n + l.length
 | [], L, n, hR, hL, h, _, _ => ⟨hR, hL, h, rfl⟩
 | e :: r, L, n, hR, hL, h, hn, hj => by
  rw [List.length_cons] at hn hj
  have he : e = other.getD n default := hj 0 (by omega)
  have hr : ∀ j, j < r.length → r.getD j default = other.getD (n + 1 + j) default := fun j h2 => by
   have := hj (j + 1) (by omega)
   rw [show n + (j + 1) = n + 1 + j by omega] at this
   exact this
  rw [List.length_cons, show n + (r.length + 1) = n + 1 + r.length by omega]
  by_cases c : here L n (oneS L n e)
  ·rw [runT_here c]
   rw [he] at c
   exact run_ad hO ho r L (n + 1) hR hL (ad_here h c) (by omega) hr
  ·have hc := one_can hR hO (n := n) (by omega) (by omega) h
   rw [← he] at hc
   rw [runT_put c (setC_ok.2 hc)]
   have hp := put_right hR hc
   rw [toNat_cast] at hp
   have hl := (put_len (e := oneS L n e) h.1).2
   have ha := ad_put h
   rw [← he] at ha
   exact run_ad hO ho r _ (n + 1) hp (by omega) ha (by omega) hr

theorem takeS_run {own : List EEntry} (hR : Rt own) {g f : Nat} (h1 : g ≤ own.length) (h2 : f ≤ g) (l : List EEntry) : takeS own (g : Int) (f : Int) l = ((runT own g (l.drop (g - f))).2.1, ((runT own g (l.drop (g - f))).2.2 : Int)) := by
 unfold takeS
 rw [if_neg (by
  rintro (hh | hh | hh | hh)
  ·exact hh ((right_iff own).2 hR)
  ·omega
  ·omega
  ·omega), toNat_cast, show ((g : Int) - max (f : Int) 0).toNat = g - f by omega]

end Go.Proofs.Ytdofpehcojboeaa
