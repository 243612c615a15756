/- Configurations as bytes: what is put, what is read, there and back. -/
import Derived.Test.YthmjkcdpbbcdgaaGreatYConfP
import Derived.Test.YthmjkcdpbbcdgaaGreatYWP
namespace Go.Proofs.YthmjkcdpbbcdgaaGreat

instance : DecidableEq EMember := fun _ _ => decidable_of_iff _ eqEMember_iff

theorem eqEMember_dec (x y : EMember) : eqEMember x y = decide (x = y) := by
 by_cases h : x = y
 ·rw [decide_eq_true h]; exact eqEMember_iff.2 h
 ·rw [decide_eq_false h, Bool.eq_false_iff]; exact fun e => h (eqEMember_iff.1 e)

def sameConf (a b : EConf) : Bool := decide (a.epoch = b.epoch ∧ a.floor = b.floor ∧ a.members = b.members)

theorem sameConf_self (a : EConf) : sameConf a a = true := decide_eq_true ⟨rfl, rfl, rfl⟩

theorem eqMems (l1 l2 : List EMember) (hl : l1.length = l2.length) (hb : l1.length ≤ bdM) (body : (Int → Option Bool) → Int → Option Bool)
  (h : ∀ rc (k : Nat), body rc (k : Int) = if k < l1.length then (if (!eqEMember (l1.getD k default) (l2.getD k default)) = true then some false else rc ((k : Int) + 1)) else some true) : iter body FU 0 = some (decide (l1 = l2)) := by
 refine (iter_up l1.length (fun k => some (decide (l1.drop k = l2.drop k))) hb fun rc k hk hrc => ?_).trans (by simp only [List.drop_zero])
 rw [h]
 split
 ·rename_i h1
  rw [drop_cons (d := default) h1, drop_cons (d := default) (l := l2) (by omega)]
  by_cases he : l1.getD k default = l2.getD k default
  ·rw [he, eqEMember_dec, decide_eq_true rfl, if_neg (by decide), hrc h1]
   congr 1
   exact decide_eq_decide.2 ⟨fun e => by rw [e], fun e => (List.cons.inj e).2⟩
  ·rw [eqEMember_dec, decide_eq_false he, if_pos (by decide)]
   congr 1
   exact (decide_eq_false fun e => he (List.cons.inj e).1).symm
 ·rw [List.drop_eq_nil_of_le (by omega), List.drop_eq_nil_of_le (by omega)]; rfl

theorem ref07_Same (a b : EConf) (ha : a.members.length ≤ bdM) : F_ref07_Same a b = some (sameConf a b) := by
 unfold F_ref07_Same sameConf
 simp only [Bool.or_eq_true, bne_iff_ne]
 split
 ·rename_i h
  congr 1
  exact (decide_eq_false fun e => by rw [e.1, e.2.1, e.2.2] at h; simp at h).symm
 ·rename_i h
  have h1 : a.epoch = b.epoch := Decidable.by_contra fun x => h (.inl (.inl x))
  have h2 : a.floor = b.floor := Decidable.by_contra fun x => h (.inl (.inr x))
  have h3 : a.members.length = b.members.length := by
   have : (a.members.length : Int) = b.members.length := Decidable.by_contra fun x => h (.inr x)
   omega
  rw [eqMems a.members b.members h3 ha _ fun rc k => ?_]
  ·simp only [h1, h2, true_and]
  ·simp only [F_ref07_Same_l1, Bool.and_eq_true, decide_eq_true_eq, toNat_cast]
   by_cases hk : k < a.members.length
   ·rw [if_pos ⟨by omega, by omega⟩, if_pos hk, chk_t (by omega), chk_t (by omega), chk_t (by unfold inI; unfold bdM at ha; omega)]
   ·rw [if_neg (by omega), if_neg hk]

theorem conf_Same (a b : EConf) (ha : a.members.length ≤ bdM) : F_conf_Same a b = some (sameConf a b) := by
 have key : F_slices_Equal_api_Member_api_Member a.members b.members = some (decide (a.members = b.members)) := by
  unfold F_slices_Equal_api_Member_api_Member
  simp only [bne_iff_ne]
  split
  ·rename_i h; congr 1; exact (decide_eq_false fun e => by rw [e] at h; simp at h).symm
  ·rename_i h
   have h3 : a.members.length = b.members.length := by
    have : (a.members.length : Int) = b.members.length := Decidable.not_not.1 h
    omega
   refine eqMems a.members b.members h3 ha _ fun rc k => ?_
   simp only [F_slices_Equal_api_Member_api_Member_l1, decide_eq_true_eq, toNat_cast]
   by_cases hk : k < a.members.length
   ·rw [if_pos (by omega), if_pos hk, chk_t (by omega), chk_t (by omega), chk_t (by unfold inI; unfold bdM at ha; omega)]
   ·rw [if_neg (by omega), if_neg hk]
 unfold F_conf_Same sameConf
 rw [key, gif_some, Option.bind_some]
 congr 1
 by_cases h1 : a.epoch = b.epoch <;> by_cases h2 : a.floor = b.floor <;> simp [h1, h2]

/-- members as bytes -/
def memB (m : EMember) : List Nat := vputL m.id.toNat ++ vputL m.serial.toNat

def memsB (l : List EMember) : List Nat := l.flatMap memB

def confB (c : EConf) : List Nat := vputL c.epoch.toNat ++ (vputL c.members.length ++ (memsB c.members ++ vputL c.floor.toNat))

theorem memB_len (m : EMember) : (memB m).length ≤ 18 := by
 have := vputL_len m.id.toNat; have := vputL_len m.serial.toNat
 unfold memB; rw [List.length_append]; omega

theorem memsB_len : ∀ l : List EMember, (memsB l).length ≤ 18 * l.length
 | [] => Nat.le_refl _
 | m :: r => by
  have := memsB_len r; have := memB_len m
  show (memB m ++ memsB r).length ≤ _
  rw [List.length_append, List.length_cons]; omega

theorem memsB_snoc (l : List EMember) (m : EMember) : memsB (l ++ [m]) = memsB l ++ memB m := by unfold memsB; rw [List.flatMap_append]; simp

theorem confB_len {c : EConf} (h : c.members.length ≤ 4) : (confB c).length ≤ 99 := by
 have := memsB_len c.members; have := vputL_len c.epoch.toNat; have := vputL_len c.members.length; have := vputL_len c.floor.toNat
 unfold confB; simp only [List.length_append]; omega

theorem conf_Put (c : EConf) (hb : bdEConf c) (h0 : confCheck c = 0) : ∃ s, bL s = confB c ∧ F_conf_Put c = some (s, 0) := by
 obtain ⟨c1, c2, c3, c4, cm, _⟩ := confCheck_ok h0
 have ha := vputL_len c.epoch.toNat
 have hb2 := vputL_len c.members.length
 obtain ⟨y1, e1, w1⟩ := wW_num (x := default) (z := c.epoch) Wt.w0 (by omega) hb.epoch (by simp)
 obtain ⟨y2, e2, w2⟩ := wW_num (z := (c.members.length : Int)) w1 (by omega) (by unfold inI; omega) (by simp only [List.nil_append]; omega)
 unfold F_conf_Put
 rw [conf_Check, h0, Option.bind_some, if_neg (by decide), F_wire_New, Option.bind_some, e1, Option.bind_some, e2, Option.bind_some]
 obtain ⟨s, hs⟩ : ∃ s : ByteArray, bL s = confB c := by
  refine ⟨strB (confB c), bL_strB fun b hb => ?_⟩
  unfold confB memsB memB at hb
  simp only [List.mem_append, List.mem_flatMap] at hb
  rcases hb with h | h | ⟨m, _, h | h⟩ | h <;> exact vputL_lt _ _ h
 refine ⟨s, hs, ?_⟩
 refine (iter_up2 (σ := Ewire_Writer) c.members.length (fun _ _ => some (s, 0)) (fun k y => Wt (toWw y) (vputL c.epoch.toNat ++ (vputL c.members.length ++ memsB (c.members.take k)))) (by unfold bdM; omega) (by simpa [memsB] using w2) fun rc k y hk hy hrc => ?_)
 simp only [F_conf_Put_l1, decide_eq_true_eq, toNat_cast]
 have hml := memsB_len (c.members.take k)
 rw [List.length_take] at hml
 split
 ·rename_i hk1
  have hk' : k < c.members.length := by omega
  have hm := cm (c.members.getD k default) (by rw [getD_lt hk']; exact List.getElem_mem hk')
  have hq := vputL_len (c.members.getD k default).id.toNat
  obtain ⟨y3, e3, w3⟩ := wW_num (z := (c.members.getD k default).id) hy (by omega) (by unfold inI; omega) (by simp only [List.length_append]; omega)
  obtain ⟨y4, e4, w4⟩ := wW_num (z := (c.members.getD k default).serial) w3 (by omega) (by unfold inI; omega) (by simp only [List.length_append]; omega)
  rw [chk_t (by omega), e3, Option.bind_some, e4, Option.bind_some, chk_t (by unfold inI; omega)]
  refine hrc y4 hk' ?_
  rw [take_snoc (d := default) hk', memsB_snoc, memB]
  simpa only [List.append_assoc] using w4
 ·rename_i hk1
  obtain ⟨y3, e3, w3⟩ := wW_big (z := c.floor) hy hb.floor (by simp only [List.length_append]; omega)
  obtain ⟨t, e4, w4⟩ := wW_done w3
  rw [e3, Option.bind_some, e4, Option.bind_some]
  rw [List.take_of_length_le (by omega)] at w4
  have : t = s := bL_inj (by rw [w4, hs, confB]; simp only [List.append_assoc])
  rw [this]

theorem ref07_Put (c : EConf) (hb : bdEConf c) (h0 : confCheck c = 0) : ∃ s, bL s = confB c ∧ F_ref07_Put c = some (s, 0) := by
 obtain ⟨c1, c2, c3, c4, cm, _⟩ := confCheck_ok h0
 have ha := vputL_len c.epoch.toNat
 have hb2 := vputL_len c.members.length
 obtain ⟨y1, e1, w1⟩ := w2_num (x := default) (z := c.epoch) Wt.r0 (by omega) hb.epoch (by simp)
 obtain ⟨y2, e2, w2⟩ := w2_num (z := (c.members.length : Int)) w1 (by omega) (by unfold inI; omega) (by simp only [List.nil_append]; omega)
 unfold F_ref07_Put
 rw [ref07_Check, h0, Option.bind_some, if_neg (by decide), e1, Option.bind_some, e2, Option.bind_some]
 obtain ⟨s, hs⟩ : ∃ s : ByteArray, bL s = confB c := by
  refine ⟨strB (confB c), bL_strB fun b hb => ?_⟩
  unfold confB memsB memB at hb
  simp only [List.mem_append, List.mem_flatMap] at hb
  rcases hb with h | h | ⟨m, _, h | h⟩ | h <;> exact vputL_lt _ _ h
 refine ⟨s, hs, ?_⟩
 refine (iter_up2 (σ := ByteArray × Int) c.members.length (fun _ _ => some (s, 0)) (fun k y => Wt ⟨y.1, y.2⟩ (vputL c.epoch.toNat ++ (vputL c.members.length ++ memsB (c.members.take k)))) (by unfold bdM; omega) (s0 := (y2.s, y2.e)) (by have := w2; rw [List.nil_append] at this; simpa [memsB, toW2] using this) fun rc k y hk hy hrc => ?_)
 obtain ⟨ys, ye⟩ := y
 simp only [F_ref07_Put_l1, decide_eq_true_eq, toNat_cast]
 have hml := memsB_len (c.members.take k)
 rw [List.length_take] at hml
 split
 ·rename_i hk1
  have hk' : k < c.members.length := by omega
  have hm := cm (c.members.getD k default) (by rw [getD_lt hk']; exact List.getElem_mem hk')
  have hq := vputL_len (c.members.getD k default).id.toNat
  obtain ⟨y3, e3, w3⟩ := w2_num (x := ⟨ys, ye⟩) (z := (c.members.getD k default).id) hy (by omega) (by unfold inI; omega) (by simp only [List.length_append]; omega)
  obtain ⟨y4, e4, w4⟩ := w2_num (z := (c.members.getD k default).serial) w3 (by omega) (by unfold inI; omega) (by simp only [List.length_append]; omega)
  rw [chk_t (by omega), e3, Option.bind_some, chk_t (by omega), e4, Option.bind_some, chk_t (by unfold inI; omega)]
  refine hrc (y4.s, y4.e) hk' ?_
  rw [take_snoc (d := default) hk', memsB_snoc, memB]
  have := w4
  simp only [List.append_assoc] at this ⊢
  exact this
 ·rename_i hk1
  obtain ⟨y3, e3, w3⟩ := w2_big (x := ⟨ys, ye⟩) (z := c.floor) hy hb.floor (by simp only [List.length_append]; omega)
  obtain ⟨t, e4, w4⟩ := w2_done w3
  rw [e3, Option.bind_some, e4, Option.bind_some]
  rw [List.take_of_length_le (by omega)] at w4
  have : t = s := bL_inj (by rw [w4, hs, confB]; simp only [List.append_assoc])
  rw [this]

/-- both put the same -/
theorem put_both (c : EConf) (hb : bdEConf c) : ∃ p, F_conf_Put c = some p ∧ F_ref07_Put c = some p ∧ p.2 = confCheck c ∧ (confCheck c = 0 → bL p.1 = confB c) := by
 by_cases h : confCheck c = 0
 ·obtain ⟨s, h1, h2⟩ := conf_Put c hb h
  obtain ⟨t, h3, h4⟩ := ref07_Put c hb h
  have : s = t := bL_inj (h1.trans h3.symm)
  subst this
  exact ⟨(s, 0), h2, h4, h.symm, fun _ => h1⟩
 ·have h1 : (confCheck c != 0) = true := by simpa using h
  refine ⟨(⟨#[]⟩, confCheck c), ?_, ?_, rfl, fun x => absurd x h⟩
  ·unfold F_conf_Put; rw [conf_Check, Option.bind_some, if_pos h1]
  ·unfold F_ref07_Put; rw [ref07_Check, Option.bind_some, if_pos h1]

-- there
-- back
end Go.Proofs.YthmjkcdpbbcdgaaGreat
