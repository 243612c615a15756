/- To and fro, plain: timestamps put into a log. -/
import Derived.Test.YtmdoimpeacndaaaYAdS
namespace Go.Proofs.Ytmdoimpeacndaaa

-- how much there is
-- a log that has another's batches ahead
def Ad (L other : List EEntry) (n : Nat) : Prop := n ≤ L.length ∧ ∀ j, j < n → tw (L.getD j default) (other.getD j default) = true ∧ ((other.getD j default).ts ≠ 0 → (L.getD j default).ts = (other.getD j default).ts)

theorem one_x {L : List EEntry} {n : Nat} (e : EEntry) : (oneS L n e = e ∧ ¬ (n < L.length ∧ tw (L.getD n default) e = true)) ∨ (n < L.length ∧ tw (L.getD n default) e = true ∧ e.ts ≠ 0 ∧ oneS L n e = stampT (L.getD n default) e.ts) ∨ (n < L.length ∧ tw (L.getD n default) e = true ∧ e.ts = 0 ∧ oneS L n e = L.getD n default) := by
 unfold oneS
 rw [toNat_cast]
 by_cases c : n < L.length ∧ tw (L.getD n default) e = true
 ·rw [if_pos ⟨by omega, by omega, c.2⟩]
  by_cases z : e.ts = 0
  ·exact .inr (.inr ⟨c.1, c.2, z, if_neg fun h => h z⟩)
  ·exact .inr (.inl ⟨c.1, c.2, z, if_pos z⟩)
 ·exact .inl ⟨if_neg fun h => c ⟨by have := h.2.1; omega, h.2.2⟩, c⟩

theorem tw_stamp (a b : EEntry) (t : Int) : tw (stampT a t) b = tw a b := rfl

theorem tw_stamp2 (a b : EEntry) (t : Int) : tw b (stampT a t) = tw b a := rfl

theorem tw_sym {a b : EEntry} (h : tw a b = true) : tw b a = true := (tw_who _ _).2 ((tw_who _ _).1 h).symm

theorem tw_trans {a b c : EEntry} (h : tw a b = true) (h2 : tw b c = true) : tw a c = true := (tw_who _ _).2 (((tw_who _ _).1 h).trans ((tw_who _ _).1 h2))

theorem one_tw {L : List EEntry} {n : Nat} (e : EEntry) : tw (oneS L n e) e = true ∧ (e.ts ≠ 0 → (oneS L n e).ts = e.ts) := by
 rcases one_x (L := L) (n := n) e with ⟨h, _⟩ | ⟨_, h2, h3, h⟩ | ⟨_, h2, h3, h⟩
 ·rw [h]; exact ⟨tw_self e, fun _ => rfl⟩
 ·rw [h, tw_stamp]; exact ⟨h2, fun _ => rfl⟩
 ·rw [h]; exact ⟨h2, fun hh => absurd h3 hh⟩

theorem one_can {L other : List EEntry} (hR : Rt L) (hO : Rt other) {n : Nat} (hn : n < other.length) (h1 : n < 100) (h : Ad L other n) : canSet L (n : Int) (oneS L n (other.getD n default)) := by
 have q := hO n hn
 have q2 : ∀ j, j < n → tw (L.getD j default) (other.getD n default) = false := fun j hj => by
  cases t : tw (L.getD j default) (other.getD n default) with
  | false => rfl
  | true =>
   have := tw_trans (tw_sym (h.2 j hj).1) t
   rw [q.tw j hj] at this; cases this
 have q3 : 0 < n → (other.getD n default).ts ≠ 0 → (L.getD (n - 1) default).ts ≠ 0 ∧ (L.getD (n - 1) default).ts < (other.getD n default).ts := fun h0 hz => by
  have a := q.fol h0 hz
  have b := (h.2 (n - 1) (by omega)).2 a.1
  rw [b]; exact a
 have hi : ((n : Int) - 1).toNat = n - 1 := by omega
 have hle := h.1
 rcases one_x (L := L) (n := n) (other.getD n default) with ⟨hx, _⟩ | ⟨g1, g2, g3, hx⟩ | ⟨g1, g2, g3, hx⟩
 ·rw [hx]
  exact ⟨by omega, by omega, q.chk, by omega, fun j hj => q2 j (by omega), fun h0 hz => by rw [hi]; exact q3 (by omega) hz⟩
 ·rw [hx]
  refine ⟨by omega, by omega, (hR n g1).chk, by omega, fun j hj => ?_, fun h0 hz => ?_⟩
  ·rw [tw_stamp2]; exact (hR n g1).tw j (by omega)
  ·rw [hi]; exact q3 (by omega) g3
 ·rw [hx]
  refine ⟨by omega, by omega, (hR n g1).chk, by omega, fun j hj => (hR n g1).tw j (by omega), fun h0 hz => ?_⟩
  rw [hi]; exact (hR n g1).fol (by omega) hz

theorem ad_here {L other : List EEntry} {n : Nat} (h : Ad L other n) (c : here L n (oneS L n (other.getD n default))) : Ad L other (n + 1) := by
 refine ⟨by have := c.1; omega, fun j hj => ?_⟩
 by_cases e : j = n
 ·subst e
  have o := one_tw (L := L) (n := j) (other.getD j default)
  exact ⟨tw_trans c.2.1 o.1, fun hz => by rw [c.2.2]; exact o.2 hz⟩
 ·exact h.2 j (by omega)

theorem ad_put {L other : List EEntry} {n : Nat} (h : Ad L other n) : Ad (putE L n (oneS L n (other.getD n default))) other (n + 1) := by
 have hl := put_len (e := oneS L n (other.getD n default)) h.1
 refine ⟨by omega, fun j hj => ?_⟩
 by_cases e : j = n
 ·subst e
  have o := one_tw (L := L) (n := j) (other.getD j default)
  have a := put_at (e := oneS L j (other.getD j default)) h.1
  exact ⟨tw_trans a.1 o.1, fun hz => by rw [a.2]; exact o.2 hz⟩
 ·rw [put_get h.1 j (by omega)]
  exact h.2 j (by omega)

theorem run_ad {other : List EEntry} (hO : Rt other) (ho : other.length ≤ 60) : ∀ (l L : List EEntry) (n : Nat), Rt L → L.length ≤ 60 → Ad L other n → n + l.length ≤ other.length → (∀ j, j < l.length → l.getD j default = other.getD (n + j) default) →
  Rt (runT L n l).1 ∧ (runT L n l).1.length ≤ 60 ∧ Ad (runT L n l).1 other (n + l.length) ∧ (runT L n l).2.2 = n + l.length
 | [], L, n, hR, hL, h, _, _ => ⟨hR, hL, h, rfl⟩
 | e :: r, L, n, hR, hL, h, hn, hj => by
  rw [List.length_cons] at hn hj
  have he : e = other.getD n default := hj 0 (by omega)
  have hr : ∀ j, j < r.length → r.getD j default = other.getD (n + 1 + j) default := fun j h2 => by
   have := hj (j + 1) (by omega)
   rw [show n + (j + 1) = n + 1 + j by omega] at this
   exact this
  rw [List.length_cons, show n + (r.length + 1) = n + 1 + r.length by omega]
  by_cases c : here L n (oneS L n e)
  ·rw [runT_here c]
   rw [he] at c
   exact run_ad hO ho r L (n + 1) hR hL (ad_here h c) (by omega) hr
  ·have hc := one_can hR hO (n := n) (by omega) (by omega) h
   rw [← he] at hc
   rw [runT_put c (setC_ok.2 hc)]
   have hp := put_right hR hc
   rw [toNat_cast] at hp
   have hl := (put_len (e := oneS L n e) h.1).2
   have ha := ad_put h
   rw [← he] at ha
   exact run_ad hO ho r _ (n + 1) hp (by omega) ha (by omega) hr

theorem takeS_run {own : List EEntry} (hR : Rt own) {g f : Nat} (h1 : g ≤ own.length) (h2 : f ≤ g) (l : List EEntry) : takeS own (g : Int) (f : Int) l = ((runT own g (l.drop (g - f))).2.1, ((runT own g (l.drop (g - f))).2.2 : Int)) := by
 unfold takeS
 rw [if_neg (by
  rintro (hh | hh | hh | hh)
  ·exact hh ((right_iff own).2 hR)
  ·omega
  ·omega
  ·omega), toNat_cast, show ((g : Int) - max (f : Int) 0).toNat = g - f by omega]

-- timestamps of a log that is right
def maxT : Int := 18446744073709551615

theorem stampF_zero : ∀ (l : List EEntry), stampF l < l.length → (l.getD (stampF l) default).ts = 0
 | [], h => by simp at h
 | e :: r, h => by
  by_cases c : e.ts = 0
  ·have : stampF (e :: r) = 0 := by unfold stampF; rw [if_pos c]
   rw [this]; exact c
  ·have e1 : stampF (e :: r) = stampF r + 1 := by rw [stampF, if_neg c]
   rw [e1] at h ⊢
   rw [List.getD_cons_succ]
   exact stampF_zero r (by rw [List.length_cons] at h; omega)

theorem Rt.down {L : List EEntry} (h : Rt L) : ∀ j i, i ≤ j → j < L.length → (L.getD j default).ts ≠ 0 → (L.getD i default).ts ≠ 0
 | 0, i, h1, _, h3 => by rw [show i = 0 by omega]; exact h3
 | j + 1, i, h1, h2, h3 => by
  by_cases e : i = j + 1
  ·subst e; exact h3
  ·exact h.down j i (by omega) (by omega) ((h (j + 1) h2).fol (by omega) h3).1

theorem Rt.zero {L : List EEntry} (h : Rt L) {j : Nat} (h1 : stampF L ≤ j) (h2 : j < L.length) : (L.getD j default).ts = 0 := by
 by_cases c : (L.getD j default).ts = 0
 ·exact c
 ·exact absurd (stampF_zero L (by omega)) (h.down j _ h1 h2 c)

theorem Rt.lt {L : List EEntry} (h : Rt L) {j : Nat} (h2 : j < L.length) (h3 : (L.getD j default).ts ≠ 0) : j < stampF L := by
 by_cases c : j < stampF L
 ·exact c
 ·exact absurd (h.zero (by omega) h2) h3

theorem stampF_is {L : List EEntry} (hR : Rt L) {k : Nat} (hk : k ≤ L.length) (h1 : ∀ j, j < k → (L.getD j default).ts ≠ 0) (h2 : k < L.length → (L.getD k default).ts = 0) : stampF L = k := by
 have hl := stampF_le L
 by_cases c : stampF L < k
 ·exact absurd (stampF_zero L (by omega)) (h1 _ c)
 ·by_cases d : k < stampF L
  ·exact absurd (h2 (by omega)) (stampF_pos L k d)
  ·omega

theorem getD_set {L : List EEntry} {i : Nat} {x : EEntry} (hi : i < L.length) (j : Nat) : (L.set i x).getD j default = if i = j then x else L.getD j default := by
 by_cases c : j < L.length
 ·rw [getD_lt (by rw [List.length_set]; exact c), List.getElem_set]
  by_cases e : i = j
  ·rw [if_pos e, if_pos e]
  ·rw [if_neg e, if_neg e, getD_lt c]
 ·rw [List.getD_eq_getElem?_getD, List.getElem?_eq_none (by rw [List.length_set]; omega), if_neg (by omega), List.getD_eq_getElem?_getD, List.getElem?_eq_none (by omega)]

/-- a timestamp at a place -/
def setTs (L : List EEntry) (i : Nat) (t : Int) : List EEntry := L.set i (stampT (L.getD i default) t)

theorem setTs_get {L : List EEntry} {i : Nat} (hi : i < L.length) (t : Int) (j : Nat) : (setTs L i t).getD j default = if i = j then stampT (L.getD i default) t else L.getD j default := getD_set hi j

theorem setTs_batch {L : List EEntry} {i : Nat} (hi : i < L.length) (t : Int) (j : Nat) : ((setTs L i t).getD j default).batch = (L.getD j default).batch := by
 rw [setTs_get hi]
 by_cases e : i = j
 ·rw [if_pos e, e]; rfl
 ·rw [if_neg e]

theorem setTs_ok {L : List EEntry} (hR : Rt L) {i : Nat} (hi : i < L.length) (hs : stampF L = i) {t : Int} (h0 : 0 ≤ lastF L) (ht : lastF L < t) :
  Rt (setTs L i t) ∧ (setTs L i t).length = L.length ∧ stampF (setTs L i t) = i + 1 ∧ lastF (setTs L i t) = t := by
 have hlen : (setTs L i t).length = L.length := List.length_set
 have hl : 0 < i → (L.getD (i - 1) default).ts ≠ 0 ∧ (L.getD (i - 1) default).ts < t := fun h => by
  refine ⟨stampF_pos L _ (by omega), ?_⟩
  unfold lastF at ht
  rw [if_neg (by omega), hs] at ht; exact ht
 have hR2 : Rt (setTs L i t) := fun k hk => by
  rw [hlen] at hk
  have q := hR k hk
  refine ⟨by rw [setTs_batch hi]; exact q.chk, fun j hj => ?_, fun k0 kz => ?_⟩
  ·have := q.tw j hj
   unfold tw at this ⊢
   rw [setTs_batch hi, setTs_batch hi]; exact this
  ·rw [setTs_get hi] at kz ⊢
   rw [setTs_get hi]
   by_cases e : i = k
   ·subst e
    rw [if_pos rfl, if_neg (by omega)]
    exact hl k0
   ·rw [if_neg e] at kz ⊢
    have := hR.lt hk kz
    rw [if_neg (by omega)]; exact q.fol k0 kz
 have hst : stampF (setTs L i t) = i + 1 := stampF_is hR2 (by omega) (fun j hj => by
   rw [setTs_get hi]
   by_cases e : i = j
   ·rw [if_pos e]; show t ≠ 0; omega
   ·rw [if_neg e]; exact stampF_pos L j (by omega)) (fun h => by
   rw [setTs_get hi, if_neg (by omega)]
   exact hR.zero (by omega) (by omega))
 refine ⟨hR2, hlen, hst, ?_⟩
 unfold lastF
 rw [hst, if_neg (by omega), show i + 1 - 1 = i by omega, setTs_get hi, if_pos rfl]; rfl

/-- timestamps from a place on -/
def putTs : List EEntry → Nat → List Int → List EEntry
 | L, _, [] => L
 | L, i, t :: r => putTs (setTs L i t) (i + 1) r

def okTs : Int → List Int → Prop
 | _, [] => True
 | a, t :: r => a < t ∧ okTs t r

def lastD : Int → List Int → Int
 | a, [] => a
 | _, t :: r => lastD t r

theorem okTs.ge : ∀ {l : List Int} {a : Int}, okTs a l → ∀ t ∈ l, a < t
 | [], a, _, t, h => by cases h
 | x :: r, a, h, t, ht => by
  rcases List.mem_cons.1 ht with rfl | ht
  ·exact h.1
  ·have := okTs.ge h.2 t ht; have := h.1; omega

theorem putTs_ok : ∀ (ts : List Int) {L : List EEntry} {i : Nat}, Rt L → stampF L = i → i + ts.length ≤ L.length → okTs (lastF L) ts → 0 ≤ lastF L →
  Rt (putTs L i ts) ∧ (putTs L i ts).length = L.length ∧ stampF (putTs L i ts) = i + ts.length ∧ lastF (putTs L i ts) = lastD (lastF L) ts ∧
   ∀ j, (putTs L i ts).getD j default = if i ≤ j ∧ j < i + ts.length then stampT (L.getD j default) (ts.getD (j - i) 0) else L.getD j default
 | [], L, i, hR, hs, _, _, _ => ⟨hR, rfl, hs, rfl, fun j => by rw [if_neg (by rintro ⟨a, b⟩; simp at b; omega)]; rfl⟩
 | t :: r, L, i, hR, hs, hl, ho, h0 => by
  rw [List.length_cons] at hl
  obtain ⟨a1, a2, a3, a4⟩ := setTs_ok hR (by omega) hs h0 ho.1
  obtain ⟨b1, b2, b3, b4, b5⟩ := putTs_ok r a1 a3 (by omega) (by rw [a4]; exact ho.2) (by rw [a4]; have := ho.1; omega)
  refine ⟨b1, by rw [← a2]; exact b2, by rw [List.length_cons]; show stampF (putTs (setTs L i t) (i + 1) r) = _; omega, by rw [a4] at b4; exact b4, fun j => ?_⟩
  show (putTs (setTs L i t) (i + 1) r).getD j default = _
  rw [b5 j, setTs_get (by omega), List.length_cons]
  by_cases e : i = j
  ·subst e
   rw [if_neg (by omega), if_pos rfl, if_pos (by omega), Nat.sub_self]; rfl
  ·rw [if_neg e]
   by_cases c : i + 1 ≤ j ∧ j < i + 1 + r.length
   ·rw [if_pos c, if_pos (by omega), show j - i = (j - (i + 1)) + 1 by omega]; rfl
   ·rw [if_neg c, if_neg (by omega)]

/-- the range of timestamps -/
def Us (L : List EEntry) : Prop := ∀ j, j < L.length → 0 ≤ (L.getD j default).ts ∧ (L.getD j default).ts ≤ maxT

theorem Us.last {L : List EEntry} (h : Us L) : 0 ≤ lastF L ∧ lastF L ≤ maxT := by
 unfold lastF
 have := stampF_le L
 split
 ·unfold maxT; omega
 ·exact h _ (by omega)

theorem Us.put {L : List EEntry} (h : Us L) {i : Nat} {ts : List Int} (hR : Rt L) (hs : stampF L = i) (hl : i + ts.length ≤ L.length) (ho : okTs (lastF L) ts) (hm : ∀ t ∈ ts, t ≤ maxT) : Us (putTs L i ts) := by
 obtain ⟨_, b2, _, _, b5⟩ := putTs_ok ts hR hs hl ho h.last.1
 intro j hj
 rw [b2] at hj
 rw [b5]
 by_cases c : i ≤ j ∧ j < i + ts.length
 ·rw [if_pos c]
  have e : ts.getD (j - i) 0 ∈ ts := by rw [getD_lt (by omega)]; exact List.getElem_mem _
  have := ho.ge _ e
  have := h.last.1
  exact ⟨by show 0 ≤ ts.getD (j - i) 0; omega, hm _ e⟩
 ·rw [if_neg c]; exact h j hj

theorem Us.run : ∀ (l L : List EEntry) (n : Nat), Us L → (∀ e ∈ l, 0 ≤ e.ts ∧ e.ts ≤ maxT) → n ≤ L.length → Us (runT L n l).1
 | [], L, n, h, _, _ => h
 | e :: r, L, n, h, hl, hn => by
  have he := hl e List.mem_cons_self
  by_cases c : here L n (oneS L n e)
  ·rw [runT_here c]; exact Us.run r L (n + 1) h (fun x hx => hl x (List.mem_cons_of_mem _ hx)) c.1
  ·by_cases c2 : setC L n (oneS L n e) = 0
   ·rw [runT_put c c2]
    have hb : 0 ≤ (oneS L n e).ts ∧ (oneS L n e).ts ≤ maxT := by
     rcases one_x (L := L) (n := n) e with ⟨x, _⟩ | ⟨_, _, _, x⟩ | ⟨g, _, _, x⟩
     ·rw [x]; exact he
     ·rw [x]; exact he
     ·rw [x]; exact h n g
    have hp := put_len (e := oneS L n e) hn
    refine Us.run r _ (n + 1) (fun j hj => ?_) (fun x hx => hl x (List.mem_cons_of_mem _ hx)) (by omega)
    by_cases j1 : j < n
    ·rw [put_get hn j j1]; exact h j (by omega)
    ·by_cases j2 : j = n
     ·subst j2; rw [(put_at hn).2]; exact hb
     ·have hlt : (L.take n).length = n := by rw [List.length_take]; omega
      unfold putE at hj ⊢
      split at hj
      ·rename_i c3
       rw [if_pos c3]
       split at hj
       ·rename_i c4; rw [if_pos c4]; exact h j hj
       ·rename_i c4
        rw [if_neg c4]
        obtain ⟨p, rfl⟩ : ∃ p, j = n + 1 + p := ⟨j - n - 1, by omega⟩
        rw [getD_lt hj, List.getElem_append_right (by omega)]
        simp only [hlt, show n + 1 + p - n = p + 1 by omega, List.getElem_cons_succ, List.getElem_map]
        show 0 ≤ (0 : Int) ∧ (0 : Int) ≤ maxT
        unfold maxT; omega
      ·rw [List.length_append, List.length_cons, List.length_nil] at hj; omega
   ·rw [runT_stop c c2]; exact h

end Go.Proofs.Ytmdoimpeacndaaa
