/- Small texts in one. -/
import Derived.Test.YtaknkbbjimielaaYItem
import Derived.Test.YtaknkbbjimielaaYOpsC
import Derived.Test.YtaknkbbjimielaaYMLR
import Derived.Test.YtaknkbbjimielaaYP
namespace Go.Proofs.Ytaknkbbjimielaa
structure bdEBatch (x : EBatch) : Prop where
 client : inI x.client
 req : inI x.req
 ops : (bdSl bdEOp) x.ops

structure bdEEntry (x : EEntry) : Prop where
 batch : bdEBatch x.batch
 ts : inU x.ts

-- what is wrong
-- bytes
end Go.Proofs.Ytaknkbbjimielaa

namespace Go.Proofs.Ytaknkbbjimielaa

-- there and back
-- the same
theorem eqOps (l1 l2 : List EOp) (hl : l1.length = l2.length) (hb : l1.length ≤ bdM) (body : (Int → Option Bool) → Int → Option Bool)
  (h : ∀ rc (k : Nat), body rc (k : Int) = if k < l1.length then (if (!eqEOp (l1.getD k default) (l2.getD k default)) = true then some false else rc ((k : Int) + 1)) else some true) : iter body FU 0 = some (decide (l1 = l2)) := by
 refine (iter_up l1.length (fun k => some (decide (l1.drop k = l2.drop k))) hb fun rc k hk hrc => ?_).trans (by simp only [List.drop_zero])
 rw [h]
 split
 ·rename_i h1
  rw [drop_cons (d := default) h1, drop_cons (d := default) (l := l2) (by omega)]
  by_cases he : l1.getD k default = l2.getD k default
  ·rw [he, eqEOp_dec, decide_eq_true rfl, if_neg (by decide), hrc h1]
   congr 1
   exact decide_eq_decide.2 ⟨fun e => by rw [e], fun e => (List.cons.inj e).2⟩
  ·rw [eqEOp_dec, decide_eq_false he, if_pos (by decide)]
   congr 1
   exact (decide_eq_false fun e => he (List.cons.inj e).1).symm
 ·rw [List.drop_eq_nil_of_le (by omega), List.drop_eq_nil_of_le (by omega)]; rfl

theorem ref06_SameOps (a b : List EOp) (ha : a.length ≤ bdM) : F_ref06_SameOps a b = some (decide (a = b)) := by
 unfold F_ref06_SameOps
 simp only [bne_iff_ne]
 split
 ·rename_i h; congr 1; exact (decide_eq_false fun e => by rw [e] at h; simp at h).symm
 ·rename_i h
  have h3 : a.length = b.length := by
   have : (a.length : Int) = b.length := Decidable.not_not.1 h
   omega
  refine eqOps a b h3 ha _ fun rc k => ?_
  simp only [F_ref06_SameOps_l1, Bool.and_eq_true, decide_eq_true_eq, toNat_cast]
  by_cases hk : k < a.length
  ·rw [if_pos ⟨by omega, by omega⟩, if_pos hk, chk_t (by omega), chk_t (by omega), chk_t (by unfold inI; unfold bdM at ha; omega)]
  ·rw [if_neg (by omega), if_neg hk]

def sameBatch (a b : EBatch) : Bool := decide (a.client = b.client ∧ a.req = b.req ∧ a.ops = b.ops)

def sameEntry (a b : EEntry) : Bool := decide (a.ts = b.ts ∧ sameBatch a.batch b.batch = true)

theorem sameBatch_self (a : EBatch) : sameBatch a a = true := decide_eq_true ⟨rfl, rfl, rfl⟩

theorem sameEntry_self (a : EEntry) : sameEntry a a = true := decide_eq_true ⟨rfl, sameBatch_self _⟩

theorem ref06_Same (a b : EBatch) (ha : a.ops.length ≤ bdM) : F_ref06_Same a b = some (sameBatch a b) := by
 unfold F_ref06_Same sameBatch
 rw [ref06_SameOps _ _ ha, gif_some, Option.bind_some]
 congr 1
 by_cases h1 : a.client = b.client <;> by_cases h2 : a.req = b.req <;> simp [h1, h2]

theorem ref08_Same (a b : EEntry) (ha : a.batch.ops.length ≤ bdM) : F_ref08_Same a b = some (sameEntry a b) := by
 unfold F_ref08_Same sameEntry
 rw [ref06_Same _ _ ha, gif_some, Option.bind_some]
 congr 1
 by_cases h1 : a.ts = b.ts <;> simp [h1]

-- entries
theorem item_Check (e : EEntry) : F_item_Check e = some (batchCheck e.batch) := by unfold F_item_Check; rw [ops_Check]; rfl

theorem ref08_Check (e : EEntry) : F_ref08_Check e = some (batchCheck e.batch) := by unfold F_ref08_Check; rw [ref06_Check]; rfl

end Go.Proofs.Ytaknkbbjimielaa

namespace Go.Proofs.Ytaknkbbjimielaa
structure bdEMember (x : EMember) : Prop where
 id : inI x.id
 serial : inI x.serial

structure bdEConf (x : EConf) : Prop where
 epoch : inI x.epoch
 members : (bdSl bdEMember) x.members
 floor : inU x.floor

def memsCheck (ahead : List EMember) : List EMember → Int
 | [] => 0
 | m :: r => if m.id < 0 ∨ m.id ≥ 4 then 1 else if m.serial < 1 ∨ m.serial > 1073741824 then 5 else if ahead.any (fun x => x.id == m.id) = true then 18 else memsCheck (ahead ++ [m]) r

theorem memsCheck_cons (ahead : List EMember) (m : EMember) (r : List EMember) : memsCheck ahead (m :: r) = if m.id < 0 ∨ m.id ≥ 4 then 1 else if m.serial < 1 ∨ m.serial > 1073741824 then 5 else if ahead.any (fun x => x.id == m.id) = true then 18 else memsCheck (ahead ++ [m]) r := rfl

def confCheck (c : EConf) : Int := if c.epoch < 1 ∨ c.epoch > 1073741824 then 5 else if c.members.length = 0 then 7 else if c.members.length > 4 then 6 else memsCheck [] c.members

theorem ref07_Check_l2 (c : EConf) (i : Nat) (hi : i < c.members.length) (hl : c.members.length ≤ 4) (rc : Int → Option Int) : iter (F_ref07_Check_l2 c i rc) FU 0 = if (c.members.take i).any (fun x => x.id == (c.members.getD i default).id) = true then some 18 else rc ((i : Int) + 1) := by
 refine (iter_up i (fun k => if ((c.members.take i).drop k).any (fun x => x.id == (c.members.getD i default).id) = true then some 18 else rc ((i : Int) + 1)) (by unfold bdM; omega) fun rc2 k hk hrc => ?_).trans (by rw [List.drop_zero])
 simp only [F_ref07_Check_l2, decide_eq_true_eq, toNat_cast]
 split
 ·rename_i h
  have hk' : k < i := by omega
  have e : (c.members.take i).getD k default = c.members.getD k default := by rw [getD_lt (by rw [List.length_take]; omega), getD_lt (by omega), List.getElem_take]
  rw [chk_t (by omega), drop_cons (d := default) (by rw [List.length_take]; omega), e, List.any_cons]
  split
  ·rename_i h2; rw [if_pos (by rw [h2]; rfl)]
  ·rename_i h2
   rw [Bool.not_eq_true] at h2
   rw [chk_t (by unfold inI; omega), hrc hk', h2, Bool.false_or]
 ·rw [chk_t (by unfold inI; omega), List.drop_eq_nil_of_le (by rw [List.length_take]; omega)]; rfl

theorem ref07_Check (c : EConf) : F_ref07_Check c = some (confCheck c) := by
 unfold F_ref07_Check confCheck
 simp only [Bool.or_eq_true, decide_eq_true_eq, beq_iff_eq, Int.natCast_eq_zero]
 split; · rfl
 split; · rfl
 by_cases hl : c.members.length > 4
 ·rw [if_pos (by omega), if_pos hl]
 ·rw [if_neg (by omega), if_neg hl]
  refine (iter_up c.members.length (fun k => some (memsCheck (c.members.take k) (c.members.drop k))) (by unfold bdM; omega) fun rc k hk hrc => ?_).trans rfl
  simp only [F_ref07_Check_l1, decide_eq_true_eq, toNat_cast, Bool.or_eq_true]
  split
  ·rename_i h
   have hk' : k < c.members.length := by omega
   rw [chk_t (by omega), drop_cons (d := default) hk', ref07_Check_l2 c k hk' (by omega) rc, hrc hk', take_snoc (d := default) hk', memsCheck_cons]
   split; · rfl
   split; · rfl
   split <;> rfl
  ·rw [List.drop_eq_nil_of_le (by omega)]; rfl

theorem conf_anyId (l : List EMember) (m : EMember) (hl : l.length ≤ 4) : F_slices_ContainsFunc_api_Member_api_Member__conf_one_1 l m = some (l.any (fun x => x.id == m.id)) := by
 have key : F_slices_IndexFunc_api_Member_api_Member__conf_one_1 l m = some (match l.findIdx? (fun x => x.id == m.id) with | some i => (i : Int) | none => -1) := by
  refine (iter_up l.length (fun k => some (match (l.drop k).findIdx? (fun x => x.id == m.id) with | some i => ((k + i : Nat) : Int) | none => -1)) (by unfold bdM; omega) fun rc k hk hrc => ?_).trans (by simp)
  simp only [F_slices_IndexFunc_api_Member_api_Member__conf_one_1_l1, decide_eq_true_eq, toNat_cast, F_conf_one_1, Option.bind_some]
  split
  ·rename_i h
   have hk' : k < l.length := by omega
   rw [chk_t (by omega), drop_cons (d := default) hk', List.findIdx?_cons]
   split
   ·rfl
   ·rw [chk_t (by unfold inI; omega), hrc hk']
    cases List.findIdx? (fun x => x.id == m.id) (l.drop (k + 1)) with
    | none => rfl
    | some i => simp only [Option.map_some]; congr 2; omega
  ·rw [List.drop_eq_nil_of_le (by omega)]; rfl
 unfold F_slices_ContainsFunc_api_Member_api_Member__conf_one_1
 rw [key]
 cases h : l.findIdx? (fun x => x.id == m.id) with
 | none => rw [List.findIdx?_eq_none_iff] at h; rw [List.any_eq_false.2 (by simpa using h)]; rfl
 | some i =>
  rw [List.findIdx?_eq_some_iff_getElem] at h
  obtain ⟨hi, h1, _⟩ := h
  rw [List.any_eq_true.2 ⟨_, List.getElem_mem hi, h1⟩]
  simp

theorem conf_one (m : EMember) (l : List EMember) (hl : l.length ≤ 4) : F_conf_one m l = some (if m.id < 0 ∨ m.id ≥ 4 then 1 else if m.serial < 1 ∨ m.serial > 1073741824 then 5 else if l.any (fun x => x.id == m.id) = true then 18 else 0) := by
 unfold F_conf_one
 rw [conf_anyId _ _ hl, Option.bind_some]
 simp only [Bool.or_eq_true, decide_eq_true_eq]
 split; · rfl
 split; · rfl
 split <;> rfl

theorem conf_Check_l1 (c : EConf) (hl : ¬ c.members.length > 4) (rc : Int → Option Int) (k : Nat) (hk : k ≤ c.members.length) (hrc : k < c.members.length → rc (k + 1) = some (memsCheck (c.members.take (k + 1)) (c.members.drop (k + 1)))) : F_conf_Check_l1 c rc (k : Int) = some (memsCheck (c.members.take k) (c.members.drop k)) := by
  simp only [F_conf_Check_l1, decide_eq_true_eq, toNat_cast]
  split
  ·rename_i h
   have hk' : k < c.members.length := by omega
   rw [chk_t (by omega), chk_t (by omega), drop_cons (d := default) hk', memsCheck_cons, conf_one _ _ (by rw [List.length_take]; omega), Option.bind_some]
   split; · rfl
   split; · rfl
   split; · rfl
   rw [if_neg (by decide), chk_t (by unfold inI; omega), hrc hk', take_snoc (d := default) hk']
  ·rw [List.drop_eq_nil_of_le (by omega)]; rfl

theorem conf_Check (c : EConf) : F_conf_Check c = some (confCheck c) := by
 unfold F_conf_Check confCheck
 simp only [Bool.or_eq_true, decide_eq_true_eq, beq_iff_eq, Int.natCast_eq_zero]
 split; · rfl
 split; · rfl
 by_cases hl : c.members.length > 4
 ·rw [if_pos (by omega), if_pos hl]
 ·rw [if_neg (by omega), if_neg hl]
  exact (iter_up c.members.length (fun k => some (memsCheck (c.members.take k) (c.members.drop k))) (by unfold bdM; omega) fun rc k hk hrc => conf_Check_l1 c hl rc k hk hrc).trans rfl

end Go.Proofs.Ytaknkbbjimielaa

namespace Go.Proofs.Ytaknkbbjimielaa

instance : DecidableEq EMember := fun _ _ => decidable_of_iff _ eqEMember_iff

theorem eqEMember_dec (x y : EMember) : eqEMember x y = decide (x = y) := by
 by_cases h : x = y
 ·rw [decide_eq_true h]; exact eqEMember_iff.2 h
 ·rw [decide_eq_false h, Bool.eq_false_iff]; exact fun e => h (eqEMember_iff.1 e)

def sameConf (a b : EConf) : Bool := decide (a.epoch = b.epoch ∧ a.floor = b.floor ∧ a.members = b.members)

theorem sameConf_self (a : EConf) : sameConf a a = true := decide_eq_true ⟨rfl, rfl, rfl⟩

theorem eqMems (l1 l2 : List EMember) (hl : l1.length = l2.length) (hb : l1.length ≤ bdM) (body : (Int → Option Bool) → Int → Option Bool)
  (h : ∀ rc (k : Nat), body rc (k : Int) = if k < l1.length then (if (!eqEMember (l1.getD k default) (l2.getD k default)) = true then some false else rc ((k : Int) + 1)) else some true) : iter body FU 0 = some (decide (l1 = l2)) := by
 refine (iter_up l1.length (fun k => some (decide (l1.drop k = l2.drop k))) hb fun rc k hk hrc => ?_).trans (by simp only [List.drop_zero])
 rw [h]
 split
 ·rename_i h1
  rw [drop_cons (d := default) h1, drop_cons (d := default) (l := l2) (by omega)]
  by_cases he : l1.getD k default = l2.getD k default
  ·rw [he, eqEMember_dec, decide_eq_true rfl, if_neg (by decide), hrc h1]
   congr 1
   exact decide_eq_decide.2 ⟨fun e => by rw [e], fun e => (List.cons.inj e).2⟩
  ·rw [eqEMember_dec, decide_eq_false he, if_pos (by decide)]
   congr 1
   exact (decide_eq_false fun e => he (List.cons.inj e).1).symm
 ·rw [List.drop_eq_nil_of_le (by omega), List.drop_eq_nil_of_le (by omega)]; rfl

theorem ref07_Same (a b : EConf) (ha : a.members.length ≤ bdM) : F_ref07_Same a b = some (sameConf a b) := by
 unfold F_ref07_Same sameConf
 simp only [Bool.or_eq_true, bne_iff_ne]
 split
 ·rename_i h
  congr 1
  exact (decide_eq_false fun e => by rw [e.1, e.2.1, e.2.2] at h; simp at h).symm
 ·rename_i h
  have h1 : a.epoch = b.epoch := Decidable.by_contra fun x => h (.inl (.inl x))
  have h2 : a.floor = b.floor := Decidable.by_contra fun x => h (.inl (.inr x))
  have h3 : a.members.length = b.members.length := by
   have : (a.members.length : Int) = b.members.length := Decidable.by_contra fun x => h (.inr x)
   omega
  rw [eqMems a.members b.members h3 ha _ fun rc k => ?_]
  ·simp only [h1, h2, true_and]
  ·simp only [F_ref07_Same_l1, Bool.and_eq_true, decide_eq_true_eq, toNat_cast]
   by_cases hk : k < a.members.length
   ·rw [if_pos ⟨by omega, by omega⟩, if_pos hk, chk_t (by omega), chk_t (by omega), chk_t (by unfold inI; unfold bdM at ha; omega)]
   ·rw [if_neg (by omega), if_neg hk]

-- there
-- back
end Go.Proofs.Ytaknkbbjimielaa

