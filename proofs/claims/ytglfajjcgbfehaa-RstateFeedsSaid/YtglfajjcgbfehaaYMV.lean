/- A key's versions: what the program's and the document's functions come to. -/
import Derived.Test.YtglfajjcgbfehaaYMv1
import Derived.Test.YtglfajjcgbfehaaYMP
namespace Go.Proofs.Ytglfajjcgbfehaa

def Ris (l : List ECell) : Prop := l.Pairwise fun a b => a.ts < b.ts

structure okL (m : Int) (l : List ECell) : Prop where
 ris : Ris l
 pos : ∀ c ∈ l, 0 < c.ts ∧ c.ts ≤ m

/-- so many are not above a time -/
def cnt (t : Int) : List ECell → Nat
 | [] => 0
 | c :: l => if c.ts ≤ t then cnt t l + 1 else 0

section
variable {t : Int}
theorem cnt_t {c : ECell} {l : List ECell} (h : c.ts ≤ t) : cnt t (c :: l) = cnt t l + 1 := if_pos h

theorem cnt_f {c : ECell} {l : List ECell} (h : ¬ c.ts ≤ t) : cnt t (c :: l) = 0 := if_neg h

theorem cnt_le : ∀ l : List ECell, cnt t l ≤ l.length
 | [] => Nat.le_refl _
 | c :: l => by
  by_cases h : c.ts ≤ t
  ·rw [cnt_t h, List.length_cons]; have := cnt_le l; omega
  ·rw [cnt_f h]; omega

theorem cnt_lt : ∀ (l : List ECell) (i : Nat), i < cnt t l → (l.getD i default).ts ≤ t
 | [], i, h => by simp only [cnt] at h; omega
 | c :: l, i, h => by
  by_cases g : c.ts ≤ t
  ·rw [cnt_t g] at h
   cases i with
   | zero => exact g
   | succ i => exact cnt_lt l i (by omega)
  ·rw [cnt_f g] at h; omega

theorem ris_get : ∀ {l : List ECell}, Ris l → ∀ i j, i < j → j < l.length → (l.getD i default).ts < (l.getD j default).ts := by
 intro l h i j hij hj
 rw [getD_lt (by omega), getD_lt hj]
 exact List.pairwise_iff_getElem.1 h i j (by omega) hj hij

theorem cnt_ge : ∀ {l : List ECell}, Ris l → ∀ i, cnt t l ≤ i → i < l.length → t < (l.getD i default).ts
 | [], _, i, _, h => by simp only [List.length_nil] at h; omega
 | c :: l, hr, i, h1, h2 => by
  obtain ⟨r1, r2⟩ := List.pairwise_cons.1 hr
  by_cases g : c.ts ≤ t
  ·rw [cnt_t g] at h1
   cases i with
   | zero => omega
   | succ i => exact cnt_ge r2 i (by omega) (by simpa using h2)
  ·cases i with
   | zero => exact Int.not_le.1 g
   | succ i =>
    have : i < l.length := by simpa using h2
    have e : ((c :: l).getD (i + 1) default) = l[i] := getD_lt (l := l) this
    rw [e]
    have := r1 l[i] (List.getElem_mem this)
    omega

/-- a place that parts the list is the count -/
theorem cnt_at {l : List ECell} (hr : Ris l) {n : Nat} (hn : n ≤ l.length) (h1 : ∀ i, i < n → (l.getD i default).ts ≤ t) (h2 : ∀ i, n ≤ i → i < l.length → t < (l.getD i default).ts) : cnt t l = n := by
 have := cnt_le (t := t) l
 rcases Nat.lt_trichotomy (cnt t l) n with h | h | h
 ·have a := h1 _ h; have b := cnt_ge (t := t) hr (cnt t l) (Nat.le_refl _) (by omega); omega
 ·exact h
 ·have a := cnt_lt l n h; have b := h2 n (Nat.le_refl _) (by omega); omega

end
def atL (l : List ECell) (t : Int) : ByteArray × Bool := if cnt t l = 0 then (⟨#[]⟩, false) else if (l.getD (cnt t l - 1) default).del = true then (⟨#[]⟩, false) else ((l.getD (cnt t l - 1) default).val, true)

section
variable {m : Int} {l : List ECell} (hl : okL m l) (hz : l.length ≤ big)
include hl hz
theorem right_ok : F_vers_Right l = some true := by
 unfold F_vers_Right
 unfold big at hz
 refine iter_rule (fun s : Int × Int => l.length - s.2.toNat) (fun _ => some true) (fun s => 0 ≤ s.2 ∧ s.2 ≤ (l.length : Int) ∧ ∀ i, s.2.toNat ≤ i → i < l.length → s.1 < (l.getD i default).ts) ?_ FU _ ⟨by simp, by simp, fun i _ hi => ?_⟩ (by unfold FU; simp only; omega)
 ·rintro rc ⟨a, i⟩ ⟨h1, h2, h3⟩ hrc
  simp only at h1 h2 h3 hrc
  obtain ⟨j, rfl⟩ := Int.eq_ofNat_of_zero_le h1
  simp only [F_vers_Right_l1, toNat_cast] at *
  by_cases c : j < l.length
  ·rw [if_pos (decide_eq_true (by omega)), chk_t (by omega), if_neg (by rw [decide_eq_false (by have := h3 j (Nat.le_refl _) c; omega)]; decide), chk_t (by unfold inI; omega)]
   exact hrc (_, (j : Int) + 1) ⟨by simp only; omega, by simp only; omega, fun i hi hi2 => ris_get hl.ris j i (by simp only [toNat_cast1] at hi; omega) hi2⟩ (by simp only [toNat_cast1]; omega)
  ·rw [if_neg (by rw [decide_eq_false (by omega)]; decide)]
 ·rw [getD_lt hi]; exact (hl.pos _ (List.getElem_mem _)).1

theorem upto_ok (t : Int) : F_vers_upto l t = some (cnt t l : Int) := by
 unfold F_vers_upto
 rw [right_ok hl hz, Option.bind_some, if_neg (by decide)]
 have hc := cnt_le (t := t) l
 unfold big at hz
 refine iter_rule (fun s : Int × Int => (s.2 - s.1).toNat) (fun _ => some (cnt t l : Int)) (fun s => 0 ≤ s.1 ∧ s.1 ≤ (cnt t l : Int) ∧ (cnt t l : Int) ≤ s.2 ∧ s.2 ≤ (l.length : Int)) ?_ FU _ ⟨by simp, by simp, by simp only; omega, by simp⟩ (by unfold FU; simp only; omega)
 rintro rc ⟨a, b⟩ ⟨h1, h2, h3, h4⟩ hrc
 simp only at h1 h2 h3 h4 hrc
 obtain ⟨i, rfl⟩ := Int.eq_ofNat_of_zero_le h1
 obtain ⟨j, rfl⟩ := Int.eq_ofNat_of_zero_le (show 0 ≤ b by omega)
 simp only [F_vers_upto_l1, F_vers_upto_k2]
 by_cases c : i = j
 ·subst c
  rw [if_pos (beq_self_eq_true _)]
  congr 1; omega
 ·rw [if_neg (by rw [beq_iff_eq]; omega)]
  have e : ((j : Int) - (i : Int)).tdiv 2 = (((j - i) / 2 : Nat) : Int) := by
   rw [Int.tdiv_eq_ediv_of_nonneg (by omega)]; omega
  have hq : (j - i) / 2 < j - i := Nat.div_lt_self (by omega) (by decide)
  rw [e]
  generalize (j - i) / 2 = q at *
  rw [chk_t (by unfold inI; omega), chk_t (by unfold inI; omega), chk_t (by unfold inI; omega), chk_t (by omega)]
  have e2 : ((i : Int) + (q : Int)).toNat = i + q := by omega
  rw [e2]
  by_cases g : (l.getD (i + q) default).ts > t
  ·rw [if_pos (decide_eq_true g)]
   refine hrc (_, _) ⟨by simp only; omega, by simp only; omega, ?_, by simp only; omega⟩ (by simp only; omega)
   simp only
   by_cases k : cnt t l ≤ i + q
   ·omega
   ·have := cnt_lt (t := t) l (i + q) (by omega); omega
  ·rw [if_neg (by rw [decide_eq_false g]; decide), chk_t (by unfold inI; omega)]
   refine hrc (_, _) ⟨by simp only; omega, ?_, by simp only; omega, by simp only; omega⟩ (by simp only; omega)
   simp only
   by_cases k : i + q < cnt t l
   ·omega
   ·have := cnt_ge (t := t) hl.ris (i + q) (by omega) (by omega); omega

theorem at_ok (t : Int) : F_vers_At l t = some (atL l t) := by
 have hc := cnt_le (t := t) l
 unfold F_vers_At
 rw [upto_ok hl hz, Option.bind_some]
 unfold big at hz
 unfold atL
 by_cases c : cnt t l = 0
 ·rw [c, chk_t (by intro h; cases h), chk_t (by intro h; cases h), if_pos (by rfl), if_pos rfl]
 ·have e : ((cnt t l : Int) - 1).toNat = cnt t l - 1 := by omega
  have e2 : ((cnt t l : Int) == 0) = false := by rw [beq_eq_false_iff_ne]; omega
  rw [e, e2, Bool.false_or, chk_t (fun _ => by unfold inI; omega), chk_t (fun _ => by omega), if_neg c]
  by_cases d : (l.getD (cnt t l - 1) default).del = true
  ·rw [if_pos d, if_pos d]
  ·rw [if_neg d, if_neg d, chk_t (by unfold inI; omega), chk_t (by omega)]

theorem vput_ok {c : ECell} (hm : 0 ≤ m) (hc : m < c.ts) : F_vers_Put l c = some (l ++ [c], 0) := by
 unfold F_vers_Put F_slices_Clone_api_Cell_api_Cell
 unfold big at hz
 rw [if_neg (by rw [beq_iff_eq]; omega), chk_t (fun _ => by unfold inI; omega), chk_t (fun h => by have := of_decide_eq_true h; omega), if_neg ?_, chk_t (by simp only [List.length_nil]; omega), Option.bind_some, chk_t (by simp only [List.length_cons, List.length_nil]; omega)]
 intro h
 rw [Bool.and_eq_true] at h
 have h1 := of_decide_eq_true h.1; have h2 := of_decide_eq_true h.2
 have e : ((l.length : Int) - 1).toNat = l.length - 1 := by omega
 rw [e, getD_lt (by omega)] at h2
 have := (hl.pos _ (List.getElem_mem (show l.length - 1 < l.length by omega))).2
 omega

end
theorem okL.snoc {m : Int} {l : List ECell} (hl : okL m l) {c : ECell} (hm : 0 ≤ m) (hc : m < c.ts) : okL c.ts (l ++ [c]) := by
 refine ⟨List.pairwise_append.2 ⟨hl.ris, List.pairwise_singleton _ _, fun a ha b hb => ?_⟩, fun x hx => ?_⟩
 ·obtain rfl := List.mem_singleton.1 hb
  have := (hl.pos a ha).2; omega
 ·rcases List.mem_append.1 hx with hx | hx
  ·have := hl.pos x hx; omega
  ·obtain rfl := List.mem_singleton.1 hx; omega

theorem okL.mono {m m' : Int} {l : List ECell} (hl : okL m l) (h : m ≤ m') : okL m' l := ⟨hl.ris, fun c hc => ⟨(hl.pos c hc).1, Int.le_trans (hl.pos c hc).2 h⟩⟩

theorem okL.nil {m : Int} : okL m [] := ⟨List.Pairwise.nil, fun c hc => by cases hc⟩

-- one more; fewer
theorem cnt_snoc {m t : Int} {l : List ECell} (hl : okL m l) {c : ECell} (hm : 0 ≤ m) (hc : m < c.ts) : cnt t (l ++ [c]) = if c.ts ≤ t then l.length + 1 else cnt t l := by
 have hr := (hl.snoc hm hc).ris
 have hle := cnt_le (t := t) l
 have g1 : ∀ i, i < l.length → (l ++ [c]).getD i default = l.getD i default := fun i hi => by rw [getD_lt (by simp; omega), getD_lt hi, List.getElem_append_left hi]
 have g2 : (l ++ [c]).getD l.length default = c := by rw [getD_lt (by simp)]; simp
 split
 ·rename_i h
  refine cnt_at hr (by simp) (fun i hi => ?_) (fun i h1 h2 => by simp at h2; omega)
  by_cases q : i = l.length
  ·rw [q, g2]; exact h
  ·rw [g1 i (by omega), getD_lt (by omega)]
   have := (hl.pos _ (List.getElem_mem (show i < l.length by omega))).2
   omega
 ·rename_i h
  refine cnt_at hr (by simp; omega) (fun i hi => ?_) (fun i h1 h2 => ?_)
  ·rw [g1 i (by omega)]; exact cnt_lt l i hi
  ·by_cases q : i = l.length
   ·rw [q, g2]; omega
   ·rw [g1 i (by simp at h2; omega)]
    exact cnt_ge hl.ris i h1 (by simp at h2; omega)

theorem at_snoc {m t : Int} {l : List ECell} (hl : okL m l) {c : ECell} (hm : 0 ≤ m) (hc : m < c.ts) : atL (l ++ [c]) t = if c.ts ≤ t then (if c.del = true then (⟨#[]⟩, false) else (c.val, true)) else atL l t := by
 have e := cnt_snoc (t := t) hl hm hc
 have hle := cnt_le (t := t) l
 unfold atL
 by_cases h : c.ts ≤ t
 ·rw [if_pos h] at e
  rw [if_pos h, e, if_neg (by omega), show l.length + 1 - 1 = l.length by omega, getD_lt (by simp), show (l ++ [c])[l.length]'(by simp) = c by simp]
 ·rw [if_neg h] at e
  rw [if_neg h, e]
  by_cases q : cnt t l = 0
  ·rw [if_pos q, if_pos q]
  ·rw [if_neg q, if_neg q]
   have g1 : (l ++ [c]).getD (cnt t l - 1) default = l.getD (cnt t l - 1) default := by rw [getD_lt (by simp; omega), getD_lt (by omega), List.getElem_append_left]
   rw [g1]

end Go.Proofs.Ytglfajjcgbfehaa
