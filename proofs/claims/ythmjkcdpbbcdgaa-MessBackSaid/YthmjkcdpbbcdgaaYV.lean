/- Numbers, texts and flags there and back: what is written is read so, what is read is written so. No program is named here. -/
import Derived.Test.YthmjkcdpbbcdgaaWire1
import Derived.Test.YthmjkcdpbbcdgaaYP
namespace Go.Proofs.Ythmjkcdpbbcdgaa

/-- a text's bytes -/
def bL (s : ByteArray) : List Nat := s.data.toList.map UInt8.toNat

theorem bL_len (s : ByteArray) : (bL s).length = s.size := by rw [bL, List.length_map, Array.length_toList]; rfl

theorem bL_lt (s : ByteArray) : ∀ b ∈ bL s, b < 256 := fun b h => by
 obtain ⟨u, _, rfl⟩ := List.mem_map.1 h
 exact UInt8.toNat_lt _

theorem bL_inj {s t : ByteArray} (h : bL s = bL t) : s = t := by
 unfold bL at h
 have h2 : s.data.toList = t.data.toList := by
  refine List.map_inj_right (f := UInt8.toNat) (fun a b hab => ?_) |>.1 h
  exact UInt8.toNat_inj.1 hab
 cases s; cases t
 simp only at h2
 congr 1
 exact Array.toList_inj.1 h2

theorem bL_app (s t : ByteArray) : bL (s ++ t) = bL s ++ bL t := by simp [bL, ByteArray.data_append, Array.toList_append]

theorem bL_strB {l : List Nat} (h : ∀ b ∈ l, b < 256) : bL (strB l) = l := by
 unfold bL strB
 simp only [List.map_map]
 conv => rhs; rw [← List.map_id l]
 refine List.map_congr_left fun b hb => ?_
 show (UInt8.ofNat b).toNat = b
 rw [UInt8.toNat_ofNat']; exact Nat.mod_eq_of_lt (h b hb)

theorem bL_extract (s : ByteArray) (i j : Nat) : bL (s.extract i j) = ((bL s).drop i).take (j - i) := by
 unfold bL
 rw [ByteArray.data_extract, Array.toList_extract, List.extract_eq_take_drop, List.map_take, List.map_drop]

theorem byteAt_bL (s : ByteArray) (j : Nat) : byteAt s j = (bL s).getD j 0 := by
 unfold byteAt bL
 rw [List.getD_eq_getElem?_getD, List.getD_eq_getElem?_getD, List.getElem?_map]
 cases s.data.toList[j]? <;> rfl

/-- bytes as a number -/
def beF (l : List Nat) : Nat := l.foldl (fun n b => n * 256 + b) 0

theorem beV_beF (s : ByteArray) (off : Nat) : ∀ i, off + i ≤ s.size → beV s off i = beF (((bL s).drop off).take i)
 | 0, _ => rfl
 | i + 1, h => by
  have hl : i < ((bL s).drop off).length := by rw [List.length_drop, bL_len]; omega
  rw [beV, beV_beF s off i (by omega), take_snoc (d := 0) hl, beF, beF, List.foldl_append]
  simp only [List.foldl_cons, List.foldl_nil]
  rw [byteAt_bL, List.getD_eq_getElem?_getD, List.getD_eq_getElem?_getD, List.getElem?_drop]

theorem beF_beL (n : Nat) : ∀ k m, (beL n k).foldl (fun n b => n * 256 + b) m = m * 256 ^ k + n % 256 ^ k
 | 0, m => by simp [beL, Nat.mod_one]
 | k + 1, m => by
  rw [beL, List.foldl_cons, beF_beL n k, bytK, Nat.pow_succ]
  have h1 : n % (256 ^ k * 256) = n % 256 ^ k + 256 ^ k * (n / 256 ^ k % 256) := Nat.mod_mul
  rw [h1, Nat.add_mul, Nat.mul_assoc m 256, Nat.mul_comm 256 (256 ^ k), Nat.mul_comm (n / 256 ^ k % 256)]
  omega

theorem beL_of : ∀ (l : List Nat), (∀ b ∈ l, b < 256) → beL (beF l) l.length = l := by
 intro l
 have key : ∀ (l : List Nat) (m : Nat), (∀ b ∈ l, b < 256) → beL (l.foldl (fun n b => n * 256 + b) m) l.length = l ∧ l.foldl (fun n b => n * 256 + b) m / 256 ^ l.length = m := by
  intro l
  induction l with
  | nil => intro m _; exact ⟨rfl, by simp⟩
  | cons b r ih =>
   intro m h
   have hb : b < 256 := h b (by simp)
   obtain ⟨h1, h2⟩ := ih (m * 256 + b) fun x hx => h x (by simp [hx])
   rw [List.foldl_cons, List.length_cons]
   refine ⟨?_, ?_⟩
   ·rw [beL, h1, bytK, h2]
    congr 1; omega
   ·rw [Nat.pow_succ, ← Nat.div_div_eq_div_mul, h2]; omega
 intro h
 exact (key l 0 h).1

theorem beF_beL0 (n k : Nat) (h : n < 256 ^ k) : beF (beL n k) = n := by
 have := beF_beL n k 0
 rw [Nat.zero_mul, Nat.zero_add, Nat.mod_eq_of_lt h] at this
 exact this

theorem beL_lt (n : Nat) : ∀ k, ∀ b ∈ beL n k, b < 256
 | 0, b, h => by cases h
 | k + 1, b, h => by
  rcases List.mem_cons.1 h with rfl | h
  ·unfold bytK; exact Nat.mod_lt _ (by decide)
  ·exact beL_lt n k b h

theorem needsF_bound : ∀ f n, n < 256 ^ f → n < 256 ^ needsF f n
 | 0, n, h => h
 | f + 1, n, h => by
  rw [Nat.pow_succ] at h
  unfold needsF
  split
  ·have : n / 256 = 0 := by assumption
   rw [Nat.pow_one]; clear h; omega
  ·have := needsF_bound f (n / 256) ((Nat.div_lt_iff_lt_mul (by decide)).2 h)
   rw [show 1 + needsF f (n / 256) = needsF f (n / 256) + 1 from Nat.add_comm _ _, Nat.pow_succ]; exact (Nat.div_lt_iff_lt_mul (by decide)).1 this

theorem vputL_lt (n : Nat) : ∀ b ∈ vputL n, b < 256 := by
 unfold vputL
 have := needsN_le n
 split
 ·intro b hb; simp at hb; omega
 ·intro b hb
  rcases List.mem_cons.1 hb with rfl | hb
  ·omega
  ·exact beL_lt _ _ b hb

theorem bL_vput (n : Nat) : bL (vput n) = vputL n := bL_strB (vputL_lt n)

/-- a number ahead of other bytes -/
def vgetL : List Nat → Option (Nat × List Nat)
 | [] => none
 | b :: r => if b < 248 then some (b, r) else if r.length < b - 247 then none else if beF (r.take (b - 247)) < 248 ∨ needsN (beF (r.take (b - 247))) ≠ b - 247 then none else some (beF (r.take (b - 247)), r.drop (b - 247))

theorem vgetL_cons (b : Nat) (r : List Nat) : vgetL (b :: r) = if b < 248 then some (b, r) else if r.length < b - 247 then none else if beF (r.take (b - 247)) < 248 ∨ needsN (beF (r.take (b - 247))) ≠ b - 247 then none else some (beF (r.take (b - 247)), r.drop (b - 247)) := rfl

theorem vgetL_put (n : Nat) (l : List Nat) (h : n < 18446744073709551616) : vgetL (vputL n ++ l) = some (n, l) := by
 unfold vputL
 have h1 := needsN_pos n
 split
 ·rename_i h2; show vgetL (n :: l) = _; rw [vgetL_cons, if_pos h2]
 ·rename_i h2
  show vgetL ((247 + needsN n) :: (beL n (needsN n) ++ l)) = _
  rw [vgetL_cons]
  have e : 247 + needsN n - 247 = needsN n := by omega
  have e2 : (beL n (needsN n) ++ l).take (needsN n) = beL n (needsN n) := by rw [List.take_append_of_le_length (by rw [beL_len]; exact Nat.le_refl _), List.take_of_length_le (by rw [beL_len]; exact Nat.le_refl _)]
  have e3 : (beL n (needsN n) ++ l).drop (needsN n) = l := by rw [List.drop_append_of_le_length (by rw [beL_len]; exact Nat.le_refl _), List.drop_eq_nil_of_le (by rw [beL_len]; exact Nat.le_refl _)]; rfl
  have e4 : beF (beL n (needsN n)) = n := beF_beL0 n _ (needsF_bound 8 n (by simpa using h))
  rw [if_neg (by omega), e, e2, e3, e4, if_neg (by rw [List.length_append, beL_len]; omega), if_neg (by omega)]

theorem vgetL_back {l l' : List Nat} {n : Nat} (hl : ∀ b ∈ l, b < 256) (h : vgetL l = some (n, l')) : l = vputL n ++ l' := by
 cases l with
 | nil => cases h
 | cons b r =>
  rw [vgetL_cons] at h
  split at h
  ·rename_i h1
   simp only [Option.some.injEq, Prod.mk.injEq] at h
   obtain ⟨rfl, rfl⟩ := h
   unfold vputL; rw [if_pos h1]; rfl
  ·split at h; · cases h
   split at h; · cases h
   rename_i h1 h2 h3
   simp only [Option.some.injEq, Prod.mk.injEq] at h
   obtain ⟨h4, rfl⟩ := h
   rw [h4] at h3
   have hk : (r.take (b - 247)).length = b - 247 := by rw [List.length_take]; omega
   have h5 := beL_of (r.take (b - 247)) fun x hx => hl x (by simp [List.mem_of_mem_take hx])
   rw [h4, hk] at h5
   unfold vputL
   rw [if_neg (by omega), show needsN n = b - 247 by omega, h5, show 247 + (b - 247) = b by omega, List.cons_append, List.take_append_drop]

theorem vget_L {s : ByteArray} {k : Nat} (hk : k ≤ s.size) : (∀ n l', vgetL ((bL s).drop k) = some (n, l') → ∃ j : Nat, vget s k = (n, (j : Int), 0) ∧ j ≤ s.size ∧ (bL s).drop j = l') ∧ (vgetL ((bL s).drop k) = none → (vget s k).2.2 ≠ 0) := by
 by_cases he : k = s.size
 ·subst he
  rw [List.drop_eq_nil_of_le (by rw [bL_len]; exact Nat.le_refl _), vget_end rfl]
  exact ⟨fun n l' h => absurd h (by intro h; cases h), fun _ => by decide⟩
 ·have hk' : k < s.size := by omega
  have hc : (bL s).drop k = byteAt s k :: (bL s).drop (k + 1) := by rw [byteAt_bL]; exact drop_cons (by rw [bL_len]; exact hk')
  have g1 : ¬ ((k : Int) < 0 ∨ (s.size : Int) < (k : Int)) := by omega
  have g2 : (k : Int) ≠ (s.size : Int) := by omega
  have hlen : ((bL s).drop (k + 1)).length = s.size - (k + 1) := by rw [List.length_drop, bL_len]
  rw [hc, vgetL_cons]
  by_cases h1 : byteAt s k < 248
  ·rw [if_pos h1, vget_one g1 g2 h1]
   refine ⟨fun n l' h => ?_, fun h => by cases h⟩
   simp only [Option.some.injEq, Prod.mk.injEq] at h
   exact ⟨k + 1, by rw [toNat_cast, h.1]; rfl, by omega, h.2⟩
  ·rw [if_neg h1, hlen]
   by_cases h2 : s.size - (k + 1) < byteAt s k - 247
   ·rw [if_pos h2, vget_few g1 g2 h1 h2]
    exact ⟨fun n l' h => (by cases h), fun _ => by decide⟩
   ·rw [if_neg h2]
    have hv := beV_beF s (k + 1) (byteAt s k - 247) (by omega)
    rw [← hv]
    by_cases h3 : beV s (k + 1) (byteAt s k - 247) < 248 ∨ needsN (beV s (k + 1) (byteAt s k - 247)) ≠ byteAt s k - 247
    ·rw [if_pos h3, vget_form g1 g2 h1 h2 rfl h3]
     exact ⟨fun n l' h => (by cases h), fun _ => by decide⟩
    ·rw [if_neg h3, vget_many g1 g2 h1 h2 rfl h3]
     refine ⟨fun n l' h => ?_, fun h => by cases h⟩
     simp only [Option.some.injEq, Prod.mk.injEq] at h
     refine ⟨k + 1 + (byteAt s k - 247), ?_, by omega, ?_⟩
     ·rw [toNat_cast, h.1]; rfl
     ·rw [← h.2, List.drop_drop]

/-- no error as yet, and what is left -/
def Rd (r : DReaderR) (l : List Nat) : Prop := r.e = 0 ∧ r.s.size ≤ maxLen ∧ ∃ k : Nat, r.at_ = (k : Int) ∧ k ≤ r.s.size ∧ (bL r.s).drop k = l

theorem Rd.ok {r : DReaderR} {l : List Nat} (h : Rd r l) : rdOk r := by
 obtain ⟨h1, h2, k, h3, h4, _⟩ := h
 exact ⟨by omega, by omega, h2, by omega, by omega⟩

theorem Rd.start (s : ByteArray) (h : s.size ≤ maxLen) : Rd ⟨s, 0, 0⟩ (bL s) := ⟨rfl, h, 0, rfl, Nat.zero_le _, rfl⟩

theorem Rd.lt {r : DReaderR} {l : List Nat} (h : Rd r l) : ∀ b ∈ l, b < 256 := by
 obtain ⟨_, _, k, _, _, rfl⟩ := h
 exact fun b hb => bL_lt _ b (List.mem_of_mem_drop hb)

theorem Rd.e {r : DReaderR} {l : List Nat} (h : Rd r l) : r.e = 0 := h.1

theorem rBig_at {r : DReaderR} {n : Nat} {j : Int} (h : r.e = 0) (h2 : vget r.s r.at_ = (n, j, 0)) : rBigV r = n ∧ rBig r = { r with at_ := j } := by
 unfold rBigV rBig
 rw [h2]
 simp [h]

theorem Rd.big {r : DReaderR} {n : Nat} {l : List Nat} (h : Rd r (vputL n ++ l)) (hn : n < 18446744073709551616) : rBigV r = n ∧ Rd (rBig r) l := by
 obtain ⟨h1, h2, k, h3, h4, h5⟩ := h
 obtain ⟨j, hj, hj2, hj3⟩ := (vget_L h4).1 n l (by rw [h5]; exact vgetL_put n l hn)
 obtain ⟨e1, e2⟩ := rBig_at h1 (by rw [h3]; exact hj)
 rw [e2]
 exact ⟨e1, h1, h2, j, rfl, hj2, hj3⟩

theorem Rd.big_back {r : DReaderR} {l : List Nat} (h : Rd r l) (he : (rBig r).e = 0) : ∃ l', l = vputL (rBigV r) ++ l' ∧ Rd (rBig r) l' := by
 have hlt := h.lt
 obtain ⟨h1, h2, k, h3, h4, h5⟩ := h
 cases hg : vgetL l with
 | none =>
  have := (vget_L h4).2 (by rw [h5]; exact hg)
  unfold rBig at he
  rw [if_neg (by omega), h3, if_pos this] at he
  exact absurd he this
 | some x =>
  obtain ⟨n, l'⟩ := x
  obtain ⟨j, hj, hj2, hj3⟩ := (vget_L h4).1 n l' (by rw [h5]; exact hg)
  obtain ⟨e1, e2⟩ := rBig_at h1 (by rw [h3]; exact hj)
  rw [e2, e1]
  exact ⟨l', vgetL_back hlt hg, h1, h2, j, rfl, hj2, hj3⟩

theorem rNum_of {r : DReaderR} {most : Int} (h : (rNum r most).e = 0) : (rBig r).e = 0 ∧ 0 ≤ most ∧ (rBigV r : Int) ≤ most ∧ rNum r most = rBig r ∧ rNumV r most = rBigV r := by
 have hv : rNumV r most = rBigV r := by unfold rNumV; rw [if_neg (by omega)]
 unfold rNum at h ⊢
 split at h
 ·cases h
 ·rename_i h1
  rw [if_neg h1]
  exact ⟨h, by omega, by omega, rfl, hv⟩

theorem Rd.num {r : DReaderR} {n : Nat} {l : List Nat} {most : Int} (h : Rd r (vputL n ++ l)) (hn : (n : Int) ≤ most) (hm : most < 18446744073709551616) : rNumV r most = n ∧ Rd (rNum r most) l := by
 obtain ⟨h1, h2⟩ := h.big (by omega)
 have e : rNum r most = rBig r := by unfold rNum; rw [if_neg (by rw [h1]; omega)]
 rw [e]
 refine ⟨?_, h2⟩
 unfold rNumV; rw [e, if_neg (by have := h2.1; omega), h1]

theorem Rd.num_back {r : DReaderR} {l : List Nat} {most : Int} (h : Rd r l) (he : (rNum r most).e = 0) : ∃ (n : Nat) (l' : List Nat), rNumV r most = n ∧ (n : Int) ≤ most ∧ l = vputL n ++ l' ∧ Rd (rNum r most) l' := by
 obtain ⟨h1, h2, h3, h4, h5⟩ := rNum_of he
 obtain ⟨l', h6, h7⟩ := h.big_back h1
 exact ⟨rBigV r, l', h5, h3, h6, by rw [h4]; exact h7⟩

theorem Rd.text {r : DReaderR} {t : ByteArray} {l : List Nat} {most : Int} (h : Rd r (vputL t.size ++ (bL t ++ l))) (hn : (t.size : Int) ≤ most) (hm : most < 18446744073709551616) : rTextV r most = t ∧ Rd (rText r most) l := by
 obtain ⟨h1, h2⟩ := h.big (by omega)
 obtain ⟨e1, e2, k, e3, e4, e5⟩ := h2
 have hlen : ((rBig r).s.size : Int) - (rBig r).at_ = ((bL t ++ l).length : Int) := by rw [← e5, List.length_drop, bL_len, e3]; omega
 rw [List.length_append, bL_len] at hlen
 have e : rText r most = { rBig r with at_ := (rBig r).at_ + (t.size : Int) } := by
  unfold rText
  rw [if_neg (by omega), h1, if_neg (by omega), if_neg (by omega)]
 rw [e]
 refine ⟨?_, e1, e2, k + t.size, by rw [e3]; rfl, by show k + t.size ≤ (rBig r).s.size; omega, ?_⟩
 ·unfold rTextV
  rw [e, if_neg (by show ¬ (rBig r).e ≠ 0; omega), h1, e3, toNat_cast]
  refine bL_inj ?_
  rw [bL_extract, e5, Nat.add_sub_cancel_left, List.take_append_of_le_length (by rw [bL_len]; exact Nat.le_refl _), List.take_of_length_le (by rw [bL_len]; exact Nat.le_refl _)]
 ·show (bL (rBig r).s).drop (k + t.size) = l
  rw [← List.drop_drop, e5, List.drop_append_of_le_length (by rw [bL_len]; exact Nat.le_refl _), List.drop_eq_nil_of_le (by rw [bL_len]; exact Nat.le_refl _)]; rfl

theorem Rd.text_back {r : DReaderR} {l : List Nat} {most : Int} (h : Rd r l) (he : (rText r most).e = 0) : ∃ l', l = vputL (rTextV r most).size ++ (bL (rTextV r most) ++ l') ∧ ((rTextV r most).size : Int) ≤ most ∧ Rd (rText r most) l' := by
 have hT : rTextV r most = (rBig r).s.extract (rBig r).at_.toNat ((rBig r).at_.toNat + rBigV r) := by unfold rTextV; rw [if_neg (by omega)]
 unfold rText at he
 split at he
 ·rename_i h1; exact absurd he h1
 ·rename_i h1
  split at he; · cases he
  split at he; · cases he
  rename_i h2 h3
  have e : rText r most = { rBig r with at_ := (rBig r).at_ + (rBigV r : Int) } := by
   unfold rText; rw [if_neg h1, if_neg h2, if_neg h3]
  obtain ⟨l1, h6, h7⟩ := h.big_back (Decidable.not_not.1 h1)
  obtain ⟨e1, e2, k, e3, e4, e5⟩ := h7
  have hsz : (rTextV r most).size = rBigV r := by rw [hT, ByteArray.size_extract, e3, toNat_cast]; omega
  have hb : bL (rTextV r most) = l1.take (rBigV r) := by rw [hT, bL_extract, e3, toNat_cast, e5, Nat.add_sub_cancel_left]
  refine ⟨l1.drop (rBigV r), ?_, by rw [hsz]; omega, ?_⟩
  ·rw [hsz, hb, List.take_append_drop]; exact h6
  ·rw [e]
   exact ⟨e1, e2, k + rBigV r, by rw [e3]; rfl, by show k + rBigV r ≤ (rBig r).s.size; omega, by show (bL (rBig r).s).drop (k + rBigV r) = _; rw [← List.drop_drop, e5]⟩

theorem Rd.flag {r : DReaderR} {b : Bool} {l : List Nat} (h : Rd r ((if b then 1 else 0) :: l)) : rFlagV r = b ∧ Rd (rFlag r) l := by
 obtain ⟨h1, h2, k, h3, h4, h5⟩ := h
 have hk : k < r.s.size := by
  have := congrArg List.length h5
  rw [List.length_drop, bL_len, List.length_cons] at this; omega
 have hb : byteAt r.s k = if b then 1 else 0 := by
  have h6 := drop_cons (d := 0) (l := bL r.s) (k := k) (by rw [bL_len]; exact hk)
  rw [h5, ← byteAt_bL] at h6
  exact (List.cons.inj h6).1.symm
 have h7 : (bL r.s).drop (k + 1) = l := by
  have h6 := drop_cons (d := 0) (l := bL r.s) (k := k) (by rw [bL_len]; exact hk)
  rw [h5] at h6
  exact (List.cons.inj h6).2.symm
 have hle : ¬ 1 < byteAt r.s k := by rw [hb]; cases b <;> simp
 have e : rFlag r = { r with at_ := r.at_ + 1 } := by
  unfold rFlag; rw [if_neg (by omega), if_neg (by omega), h3, toNat_cast, if_neg hle]
 rw [e]
 refine ⟨?_, h1, h2, k + 1, by rw [h3]; rfl, by show k + 1 ≤ r.s.size; omega, h7⟩
 unfold rFlagV
 rw [e, if_neg (by show ¬ r.e ≠ 0; omega), h3, toNat_cast, hb]
 cases b <;> rfl

theorem Rd.flag_back {r : DReaderR} {l : List Nat} (h : Rd r l) (he : (rFlag r).e = 0) : ∃ l', l = (if rFlagV r then 1 else 0) :: l' ∧ Rd (rFlag r) l' := by
 obtain ⟨h1, h2, k, h3, h4, h5⟩ := h
 unfold rFlag at he
 rw [if_neg (by omega)] at he
 split at he; · cases he
 split at he; · cases he
 rename_i h6 h7
 rw [h3, toNat_cast] at h7
 have hk : k < r.s.size := by omega
 have e : rFlag r = { r with at_ := r.at_ + 1 } := by
  unfold rFlag; rw [if_neg (by omega), if_neg h6, h3, toNat_cast, if_neg h7]
 have hv : rFlagV r = decide (byteAt r.s k = 1) := by
  unfold rFlagV; rw [e, if_neg (by show ¬ r.e ≠ 0; omega), h3, toNat_cast]
 refine ⟨(bL r.s).drop (k + 1), ?_, ?_⟩
 ·rw [← h5, drop_cons (d := 0) (by rw [bL_len]; exact hk), ← byteAt_bL, hv]
  congr 1
  by_cases hb : byteAt r.s k = 1
  ·rw [hb]; rfl
  ·rw [decide_eq_false hb]; show byteAt r.s k = 0; omega
 ·rw [e]
  exact ⟨h1, h2, k + 1, by rw [h3]; rfl, by show k + 1 ≤ r.s.size; omega, rfl⟩

theorem Rd.end {r : DReaderR} {l : List Nat} (h : Rd r l) : rEnd r = if l = [] then 0 else 4 := by
 obtain ⟨h1, h2, k, h3, h4, h5⟩ := h
 unfold rEnd
 by_cases hl : l = []
 ·have : r.s.size ≤ k := by have := congrArg List.length h5; rw [hl, List.length_drop, bL_len] at this; simp at this; omega
  rw [if_pos hl, if_neg (by omega), h1]
 ·have : k < r.s.size := by
   have h6 := congrArg List.length h5
   rw [List.length_drop, bL_len] at h6
   have : 0 < l.length := List.length_pos_iff.2 hl
   omega
  rw [if_neg hl, if_pos ⟨h1, by omega⟩]

theorem rEnd_e {r : DReaderR} (h : rEnd r = 0) : r.e = 0 := by
 unfold rEnd at h
 split at h
 ·cases h
 ·exact h

-- an error stays
theorem rBig_err {r : DReaderR} (h : r.e ≠ 0) : rBig r = r ∧ rBigV r = 0 := by unfold rBig rBigV; rw [if_pos h, if_pos h]; exact ⟨rfl, rfl⟩

theorem rNum_err {r : DReaderR} (most : Int) (h : r.e ≠ 0) : rNum r most = r ∧ rNumV r most = 0 := by
 have h1 := (rBig_err h).1
 have e : rNum r most = r := by unfold rNum; rw [h1, if_neg (fun x => h x.1)]
 exact ⟨e, by unfold rNumV; rw [e, if_pos h]⟩

theorem rText_err2 {r : DReaderR} (most : Int) (h : r.e ≠ 0) : rText r most = r ∧ rTextV r most = ByteArray.empty := by
 have h1 := (rBig_err h).1
 have e : rText r most = r := by unfold rText; rw [h1, if_pos h]
 exact ⟨e, by unfold rTextV; rw [e, if_pos h]⟩

theorem rFlag_err2 {r : DReaderR} (h : r.e ≠ 0) : rFlag r = r ∧ rFlagV r = false := by
 have e := rFlag_err h
 exact ⟨e, by unfold rFlagV; rw [e, if_pos h]⟩

/-- without an error now there was none -/
theorem rBig_e0 {r : DReaderR} (h : (rBig r).e = 0) : r.e = 0 := Decidable.by_contra fun x => x (by rw [(rBig_err x).1] at h; exact h)

theorem rNum_e0 {r : DReaderR} {most : Int} (h : (rNum r most).e = 0) : r.e = 0 := Decidable.by_contra fun x => x (by rw [(rNum_err most x).1] at h; exact h)

theorem rText_e0 {r : DReaderR} {most : Int} (h : (rText r most).e = 0) : r.e = 0 := Decidable.by_contra fun x => x (by rw [(rText_err2 most x).1] at h; exact h)

theorem rFlag_e0 {r : DReaderR} (h : (rFlag r).e = 0) : r.e = 0 := Decidable.by_contra fun x => x (by rw [(rFlag_err2 x).1] at h; exact h)

/-- a writer without an error, and what it wrote -/
def Wt (w : DWriterR) (l : List Nat) : Prop := w.e = 0 ∧ bL w.s = l

theorem Wt.put {w : DWriterR} {l : List Nat} (h : Wt w l) (t : ByteArray) : Wt (wPut w t) (l ++ bL t) := by
 rw [wPut_yes h.1]; exact ⟨h.1, by rw [bL_app, h.2]⟩

theorem Wt.num {w : DWriterR} {l : List Nat} (h : Wt w l) (n : Nat) : Wt (wNum w n) (l ++ vputL n) := by
 unfold wNum; rw [if_neg (by omega)]
 have := h.put (vput n); rw [bL_vput] at this; exact this

theorem Wt.num' {w : DWriterR} {l : List Nat} (h : Wt w l) {z : Int} (hz : 0 ≤ z) : Wt (wNum w z) (l ++ vputL z.toNat) := by
 obtain ⟨n, rfl⟩ := Int.eq_ofNat_of_zero_le hz
 exact h.num n

theorem Wt.text {w : DWriterR} {l : List Nat} (h : Wt w l) (t : ByteArray) : Wt (wText w t) (l ++ (vputL t.size ++ bL t)) := by
 have := h.put (vput t.size ++ t); rw [bL_app, bL_vput] at this; exact this

theorem Wt.flag {w : DWriterR} {l : List Nat} (h : Wt w l) (b : Bool) : Wt (wFlag w b) (l ++ [if b then 1 else 0]) := by
 have := h.put (vput (if b then 1 else 0)); rw [bL_vput] at this
 cases b <;> exact this

theorem Wt.done {w : DWriterR} {l : List Nat} (h : Wt w l) : bL (wDone w) = l := by unfold wDone; rw [if_pos h.1]; exact h.2

theorem Wt.size {w : DWriterR} {l : List Nat} (h : Wt w l) : w.s.size = l.length := by rw [← h.2, bL_len]

theorem vputL_len (n : Nat) : (vputL n).length ≤ 9 := by have := vput_le n; rw [← bL_len, bL_vput] at this; exact this

end Go.Proofs.Ythmjkcdpbbcdgaa
