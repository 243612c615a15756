/- Messages: their own parts, and whether two are the same. -/
import Derived.Test.YtaknkbbjimielaaYMsP
namespace Go.Proofs.Ytaknkbbjimielaa

-- their own parts
-- the same
def allEq {α : Type} (eq : α → α → Bool) : List α → List α → Bool
 | a :: l, b :: r => eq a b && allEq eq l r
 | _, _ => true

def sameL {α : Type} (eq : α → α → Bool) (a b : List α) : Bool := decide (a.length = b.length) && allEq eq a b

theorem allEq_self {α : Type} {eq : α → α → Bool} (h : ∀ a, eq a a = true) : ∀ l : List α, allEq eq l l = true
 | [] => rfl
 | a :: l => by rw [allEq, h, allEq_self h l]; rfl

theorem sameL_self {α : Type} {eq : α → α → Bool} (h : ∀ a, eq a a = true) (l : List α) : sameL eq l l = true := by rw [sameL, allEq_self h]; simp

theorem eqLoop {α : Type} [Inhabited α] (eq : α → α → Bool) (l1 l2 : List α) (hl : l1.length = l2.length) (hb : l1.length ≤ bdM) {body : (Int → Option Bool) → Int → Option Bool}
  (h : ∀ rc (k : Nat), body rc (k : Int) = if k < l1.length then (if (!eq (l1.getD k default) (l2.getD k default)) = true then some false else rc ((k : Int) + 1)) else some true) : iter body FU 0 = some (allEq eq l1 l2) := by
 refine (iter_up l1.length (fun k => some (allEq eq (l1.drop k) (l2.drop k))) hb fun rc k hk hrc => ?_).trans (by simp only [List.drop_zero])
 rw [h]
 split
 ·rename_i h1
  rw [drop_cons (d := default) h1, drop_cons (d := default) (l := l2) (by omega), allEq]
  cases he : eq (l1.getD k default) (l2.getD k default)
  ·rfl
  ·rw [if_neg (by decide), hrc h1]; rfl
 ·rw [List.drop_eq_nil_of_le (by omega), List.drop_eq_nil_of_le (by omega)]; rfl

theorem eqLen {α : Type} {eq : α → α → Bool} {a b : List α} {x : Option Bool} (h : a.length = b.length → x = some (allEq eq a b)) : (if ((a.length : Int) != (b.length : Int)) = true then some false else x) = some (sameL eq a b) := by
 unfold sameL
 by_cases e : a.length = b.length
 ·rw [if_neg (by simp [e]), h e, decide_eq_true e]; rfl
 ·rw [if_pos (by simp only [bne_iff_ne]; omega), decide_eq_false e]; rfl

theorem both_lt {x n m : Nat} (h : n = m) : ((decide ((x : Int) < (n : Int)) && decide ((x : Int) < (m : Int))) = true) = (x < n) := by
 subst h; simp

theorem ref08_SameAll (a b : List EEntry) (hb : a.length ≤ bdM) (ho : ∀ k, k < a.length → (a.getD k default).batch.ops.length ≤ bdM) : F_ref08_SameAll a b = some (sameL sameEntry a b) := by
 unfold F_ref08_SameAll
 refine eqLen fun hl => eqLoop _ _ _ hl hb fun rc k => ?_
 simp only [F_ref08_SameAll_l1, both_lt hl, toNat_cast]
 unfold bdM at hb
 by_cases hk : k < a.length
 ·rw [if_pos hk, if_pos hk, chk_t (by omega), chk_t (by omega), chk_t (by unfold inI; omega), ref08_Same _ _ (ho k hk), Option.bind_some]
 ·rw [if_neg hk, if_neg hk]

theorem ref09_sameStamps (a b : List Int) (hb : a.length ≤ bdM) : F_ref09_sameStamps a b = some (sameL (· == ·) a b) := by
 unfold F_ref09_sameStamps
 refine eqLen fun hl => eqLoop _ _ _ hl hb fun rc k => ?_
 simp only [F_ref09_sameStamps_l1, both_lt hl, toNat_cast]
 unfold bdM at hb
 by_cases hk : k < a.length
 ·rw [if_pos hk, if_pos hk, chk_t (by omega), chk_t (by omega), chk_t (by unfold inI; omega)]; rfl
 ·rw [if_neg hk, if_neg hk]

theorem ref06_SamePairs (a b : List EPair) (hb : a.length ≤ bdM) : F_ref06_SamePairs a b = some (sameL eqEPair a b) := by
 unfold F_ref06_SamePairs
 refine eqLen fun hl => eqLoop _ _ _ hl hb fun rc k => ?_
 simp only [F_ref06_SamePairs_l1, both_lt hl, toNat_cast]
 unfold bdM at hb
 by_cases hk : k < a.length
 ·rw [if_pos hk, if_pos hk, chk_t (by omega), chk_t (by omega), chk_t (by unfold inI; omega)]
 ·rw [if_neg hk, if_neg hk]

def numSame (a0 b : EMsg) : Bool := (((((((((((((a0.k == b.k) && (a0.epoch == b.epoch)) && (a0.req == b.req)) && (a0.serial == b.serial)) && (a0.flag == b.flag)) && (a0.at_ == b.at_)) && (a0.last == b.last)) && (a0.n == b.n)) && (a0.m == b.m)) && (a0.p == b.p)) && (a0.e == b.e)) && (seqB a0.key b.key)) && (seqB a0.to_ b.to_))

def sameMsg (a b : EMsg) : Bool := ((((numSame a b && sameConf a.conf b.conf) && sameBatch a.batch b.batch) && sameL sameEntry a.entries b.entries) && sameL (· == ·) a.stamps b.stamps) && sameL eqEPair a.pairs b.pairs

theorem seqB_self (s : ByteArray) : seqB s s = true := seqB_iff.2 rfl

theorem sameMsg_self (a : EMsg) : sameMsg a a = true := by
 unfold sameMsg numSame
 rw [sameConf_self, sameBatch_self, sameL_self sameEntry_self, sameL_self (fun a => by simp), sameL_self (fun a => eqEPair_iff.2 rfl), seqB_self, seqB_self]
 simp

theorem and_ifM (p x : Bool) : (p && (if p = true then x else default)) = (p && x) := by cases p <;> rfl

structure bdS (a : EMsg) : Prop where
 c : a.conf.members.length ≤ bdM
 o : a.batch.ops.length ≤ bdM
 e : a.entries.length ≤ bdM
 eo : ∀ k, k < a.entries.length → (a.entries.getD k default).batch.ops.length ≤ bdM
 s : a.stamps.length ≤ bdM
 p : a.pairs.length ≤ bdM

theorem ref09_Same (a b : EMsg) (h : bdS a) : F_ref09_Same a b = some (sameMsg a b) := by
 unfold F_ref09_Same
 rw [ref07_Same _ _ h.c, gif_some, Option.bind_some, ref06_Same _ _ h.o, gif_some, Option.bind_some, ref08_SameAll _ _ h.e h.eo, gif_some, Option.bind_some, ref09_sameStamps _ _ h.s, gif_some, Option.bind_some, ref06_SamePairs _ _ h.p, gif_some, Option.bind_some]
 simp only [and_ifM]
 rfl

end Go.Proofs.Ytaknkbbjimielaa
