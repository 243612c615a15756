/- Notes: put by both; their own parts; the same; NotePuts. -/
import Derived.Test.YtbfglbbbkcpgeaaYNoteV
namespace Go.Proofs.Ytbfglbbbkcpgeaa

theorem awake10 : F_law10_awake = some true := by kernel_rfl

-- its own parts
-- the same
theorem eqInts (l1 l2 : List Int) (hl : l1.length = l2.length) (hb : l1.length ≤ bdM) (body : (Int → Option Bool) → Int → Option Bool)
  (h : ∀ rc (k : Nat), body rc (k : Int) = if k < l1.length then (if ((l1.getD k default) != (l2.getD k default)) = true then some false else rc ((k : Int) + 1)) else some true) : iter body FU 0 = some (decide (l1 = l2)) := by
 refine (iter_up l1.length (fun k => some (decide (l1.drop k = l2.drop k))) hb fun rc k hk hrc => ?_).trans (by simp only [List.drop_zero])
 rw [h]
 by_cases h1 : k < l1.length
 ·rw [if_pos h1, drop_cons (d := default) h1, drop_cons (d := default) (l := l2) (by omega)]
  by_cases he : l1.getD k default = l2.getD k default
  ·rw [he, if_neg (by simp), hrc h1]
   congr 1
   exact decide_eq_decide.2 ⟨fun e => by rw [e], fun e => (List.cons.inj e).2⟩
  ·rw [if_pos (bne_iff_ne.2 he)]
   congr 1
   exact (decide_eq_false fun e => he (List.cons.inj e).1).symm
 ·rw [if_neg h1, List.drop_eq_nil_of_le (by omega), List.drop_eq_nil_of_le (by omega)]; rfl

theorem ref10_SameInts (a b : List Int) (ha : a.length ≤ bdM) : F_ref10_SameInts a b = some (decide (a = b)) := by
 unfold F_ref10_SameInts
 simp only [bne_iff_ne]
 split
 ·rename_i h; congr 1; exact (decide_eq_false fun e => by rw [e] at h; simp at h).symm
 ·rename_i h
  have h3 : a.length = b.length := by
   have : (a.length : Int) = b.length := Decidable.not_not.1 h
   omega
  refine eqInts a b h3 ha _ fun rc k => ?_
  unfold F_ref10_SameInts_l1
  dsimp only
  rw [toNat_cast]
  by_cases hk : k < a.length
  ·rw [if_pos (by rw [decide_eq_true (by omega), decide_eq_true (by omega)]; rfl), if_pos hk, chk_t (by omega), chk_t (by omega), chk_t (by unfold inI; unfold bdM at ha; omega)]
  ·rw [if_neg (by rw [decide_eq_false (by omega)]; exact Bool.false_ne_true), if_neg hk]

def sameNote (a b : ENote) : Bool := ((((((a.k == b.k) && (a.n == b.n)) && (a.at_ == b.at_)) && sameConf a.conf b.conf) && decide (a.legit = b.legit)) && sameEntry a.entry b.entry) && eqEPin a.pin b.pin && eqEAnswer a.said b.said

theorem sameNote_self (a : ENote) : sameNote a a = true := by
 unfold sameNote
 rw [sameConf_self, sameEntry_self, eqEPin_iff.2 rfl, eqEAnswer_iff.2 rfl]
 simp

theorem and_if (p x : Bool) : (p && (if p = true then x else default)) = (p && x) := by cases p <;> rfl

theorem ref10_Same (a b : ENote) (h1 : a.conf.members.length ≤ bdM) (h2 : a.legit.length ≤ bdM) (h3 : a.entry.batch.ops.length ≤ bdM) : F_ref10_Same a b = some (sameNote a b) := by
 unfold F_ref10_Same sameNote
 rw [ref07_Same _ _ h1, gif_some, Option.bind_some, and_if, ref10_SameInts _ _ h2, gif_some, Option.bind_some, and_if, ref08_Same _ _ h3, gif_some, Option.bind_some, and_if]

end Go.Proofs.Ytbfglbbbkcpgeaa
