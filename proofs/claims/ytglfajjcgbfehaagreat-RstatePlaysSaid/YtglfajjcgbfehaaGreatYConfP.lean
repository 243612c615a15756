/- Configurations: what Check comes to. -/
import Derived.Test.YtglfajjcgbfehaaGreatYNote
import Derived.Test.YtglfajjcgbfehaaGreatYP
namespace Go.Proofs.YtglfajjcgbfehaaGreat
structure bdEMember (x : EMember) : Prop where
 id : inI x.id
 serial : inI x.serial

structure bdEConf (x : EConf) : Prop where
 epoch : inI x.epoch
 members : (bdSl bdEMember) x.members
 floor : inU x.floor

def memsCheck (ahead : List EMember) : List EMember → Int
 | [] => 0
 | m :: r => if m.id < 0 ∨ m.id ≥ 4 then 1 else if m.serial < 1 ∨ m.serial > 1073741824 then 5 else if ahead.any (fun x => x.id == m.id) = true then 18 else memsCheck (ahead ++ [m]) r

theorem memsCheck_cons (ahead : List EMember) (m : EMember) (r : List EMember) : memsCheck ahead (m :: r) = if m.id < 0 ∨ m.id ≥ 4 then 1 else if m.serial < 1 ∨ m.serial > 1073741824 then 5 else if ahead.any (fun x => x.id == m.id) = true then 18 else memsCheck (ahead ++ [m]) r := rfl

def confCheck (c : EConf) : Int := if c.epoch < 1 ∨ c.epoch > 1073741824 then 5 else if c.members.length = 0 then 7 else if c.members.length > 4 then 6 else memsCheck [] c.members

theorem ref07_Check_l2 (c : EConf) (i : Nat) (hi : i < c.members.length) (hl : c.members.length ≤ 4) (rc : Int → Option Int) : iter (F_ref07_Check_l2 c i rc) FU 0 = if (c.members.take i).any (fun x => x.id == (c.members.getD i default).id) = true then some 18 else rc ((i : Int) + 1) := by
 refine (iter_up i (fun k => if ((c.members.take i).drop k).any (fun x => x.id == (c.members.getD i default).id) = true then some 18 else rc ((i : Int) + 1)) (by unfold bdM; omega) fun rc2 k hk hrc => ?_).trans (by rw [List.drop_zero])
 simp only [F_ref07_Check_l2, decide_eq_true_eq, toNat_cast]
 split
 ·rename_i h
  have hk' : k < i := by omega
  have e : (c.members.take i).getD k default = c.members.getD k default := by rw [getD_lt (by rw [List.length_take]; omega), getD_lt (by omega), List.getElem_take]
  rw [chk_t (by omega), drop_cons (d := default) (by rw [List.length_take]; omega), e, List.any_cons]
  split
  ·rename_i h2; rw [if_pos (by rw [h2]; rfl)]
  ·rename_i h2
   rw [Bool.not_eq_true] at h2
   rw [chk_t (by unfold inI; omega), hrc hk', h2, Bool.false_or]
 ·rw [chk_t (by unfold inI; omega), List.drop_eq_nil_of_le (by rw [List.length_take]; omega)]; rfl

theorem ref07_Check (c : EConf) : F_ref07_Check c = some (confCheck c) := by
 unfold F_ref07_Check confCheck
 simp only [Bool.or_eq_true, decide_eq_true_eq, beq_iff_eq, Int.natCast_eq_zero]
 split; · rfl
 split; · rfl
 by_cases hl : c.members.length > 4
 ·rw [if_pos (by omega), if_pos hl]
 ·rw [if_neg (by omega), if_neg hl]
  refine (iter_up c.members.length (fun k => some (memsCheck (c.members.take k) (c.members.drop k))) (by unfold bdM; omega) fun rc k hk hrc => ?_).trans rfl
  simp only [F_ref07_Check_l1, decide_eq_true_eq, toNat_cast, Bool.or_eq_true]
  split
  ·rename_i h
   have hk' : k < c.members.length := by omega
   rw [chk_t (by omega), drop_cons (d := default) hk', ref07_Check_l2 c k hk' (by omega) rc, hrc hk', take_snoc (d := default) hk', memsCheck_cons]
   split; · rfl
   split; · rfl
   split <;> rfl
  ·rw [List.drop_eq_nil_of_le (by omega)]; rfl

theorem conf_anyId (l : List EMember) (m : EMember) (hl : l.length ≤ 4) : F_slices_ContainsFunc_api_Member_api_Member__conf_one_1 l m = some (l.any (fun x => x.id == m.id)) := by
 have key : F_slices_IndexFunc_api_Member_api_Member__conf_one_1 l m = some (match l.findIdx? (fun x => x.id == m.id) with | some i => (i : Int) | none => -1) := by
  refine (iter_up l.length (fun k => some (match (l.drop k).findIdx? (fun x => x.id == m.id) with | some i => ((k + i : Nat) : Int) | none => -1)) (by unfold bdM; omega) fun rc k hk hrc => ?_).trans (by simp)
  simp only [F_slices_IndexFunc_api_Member_api_Member__conf_one_1_l1, decide_eq_true_eq, toNat_cast, F_conf_one_1, Option.bind_some]
  split
  ·rename_i h
   have hk' : k < l.length := by omega
   rw [chk_t (by omega), drop_cons (d := default) hk', List.findIdx?_cons]
   split
   ·rfl
   ·rw [chk_t (by unfold inI; omega), hrc hk']
    cases List.findIdx? (fun x => x.id == m.id) (l.drop (k + 1)) with
    | none => rfl
    | some i => simp only [Option.map_some]; congr 2; omega
  ·rw [List.drop_eq_nil_of_le (by omega)]; rfl
 unfold F_slices_ContainsFunc_api_Member_api_Member__conf_one_1
 rw [key]
 cases h : l.findIdx? (fun x => x.id == m.id) with
 | none => rw [List.findIdx?_eq_none_iff] at h; rw [List.any_eq_false.2 (by simpa using h)]; rfl
 | some i =>
  rw [List.findIdx?_eq_some_iff_getElem] at h
  obtain ⟨hi, h1, _⟩ := h
  rw [List.any_eq_true.2 ⟨_, List.getElem_mem hi, h1⟩]
  simp

theorem conf_one (m : EMember) (l : List EMember) (hl : l.length ≤ 4) : F_conf_one m l = some (if m.id < 0 ∨ m.id ≥ 4 then 1 else if m.serial < 1 ∨ m.serial > 1073741824 then 5 else if l.any (fun x => x.id == m.id) = true then 18 else 0) := by
 unfold F_conf_one
 rw [conf_anyId _ _ hl, Option.bind_some]
 simp only [Bool.or_eq_true, decide_eq_true_eq]
 split; · rfl
 split; · rfl
 split <;> rfl

theorem conf_Check_l1 (c : EConf) (hl : ¬ c.members.length > 4) (rc : Int → Option Int) (k : Nat) (hk : k ≤ c.members.length) (hrc : k < c.members.length → rc (k + 1) = some (memsCheck (c.members.take (k + 1)) (c.members.drop (k + 1)))) : F_conf_Check_l1 c rc (k : Int) = some (memsCheck (c.members.take k) (c.members.drop k)) := by
  simp only [F_conf_Check_l1, decide_eq_true_eq, toNat_cast]
  split
  ·rename_i h
   have hk' : k < c.members.length := by omega
   rw [chk_t (by omega), chk_t (by omega), drop_cons (d := default) hk', memsCheck_cons, conf_one _ _ (by rw [List.length_take]; omega), Option.bind_some]
   split; · rfl
   split; · rfl
   split; · rfl
   rw [if_neg (by decide), chk_t (by unfold inI; omega), hrc hk', take_snoc (d := default) hk']
  ·rw [List.drop_eq_nil_of_le (by omega)]; rfl

theorem conf_Check (c : EConf) : F_conf_Check c = some (confCheck c) := by
 unfold F_conf_Check confCheck
 simp only [Bool.or_eq_true, decide_eq_true_eq, beq_iff_eq, Int.natCast_eq_zero]
 split; · rfl
 split; · rfl
 by_cases hl : c.members.length > 4
 ·rw [if_pos (by omega), if_pos hl]
 ·rw [if_neg (by omega), if_neg hl]
  exact (iter_up c.members.length (fun k => some (memsCheck (c.members.take k) (c.members.drop k))) (by unfold bdM; omega) fun rc k hk hrc => conf_Check_l1 c hl rc k hk hrc).trans rfl

/-- what Check tells -/
theorem memsCheck_ok : ∀ (l ahead : List EMember), memsCheck ahead l = 0 → (∀ m ∈ l, 0 ≤ m.id ∧ m.id < 4 ∧ 1 ≤ m.serial ∧ m.serial ≤ 1073741824) ∧ (∀ a ∈ ahead, ∀ m ∈ l, a.id ≠ m.id) ∧ l.Pairwise (fun a b => a.id ≠ b.id)
 | [], _, _ => ⟨fun _ h => (by cases h), fun _ _ _ h => (by cases h), .nil⟩
 | m :: r, ahead, h => by
  rw [memsCheck_cons] at h
  split at h; · cases h
  split at h; · cases h
  split at h; · cases h
  rename_i h1 h2 h3
  obtain ⟨i1, i2, i3⟩ := memsCheck_ok r _ h
  have h3' : ∀ a ∈ ahead, a.id ≠ m.id := fun a ha e => h3 (List.any_eq_true.2 ⟨a, ha, by simpa using e⟩)
  refine ⟨fun x hx => ?_, fun a ha x hx => ?_, .cons (fun x hx => i2 m (by simp) x hx) i3⟩
  ·rcases List.mem_cons.1 hx with rfl | hx
   ·omega
   ·exact i1 x hx
  ·rcases List.mem_cons.1 hx with rfl | hx
   ·exact h3' a ha
   ·exact i2 a (by simp [ha]) x hx

theorem confCheck_ok {c : EConf} (h : confCheck c = 0) : 1 ≤ c.epoch ∧ c.epoch ≤ 1073741824 ∧ 0 < c.members.length ∧ c.members.length ≤ 4 ∧ (∀ m ∈ c.members, 0 ≤ m.id ∧ m.id < 4 ∧ 1 ≤ m.serial ∧ m.serial ≤ 1073741824) ∧ c.members.Pairwise (fun a b => a.id ≠ b.id) := by
 unfold confCheck at h
 split at h; · cases h
 split at h; · cases h
 split at h; · cases h
 obtain ⟨h1, _, h2⟩ := memsCheck_ok _ _ h
 exact ⟨by omega, by omega, by omega, by omega, h1, h2⟩

end Go.Proofs.YtglfajjcgbfehaaGreat
