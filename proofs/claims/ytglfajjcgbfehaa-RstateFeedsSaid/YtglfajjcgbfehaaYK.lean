/- The order of texts; rows in that order. No program is named here. -/
import Derived.Test.YtglfajjcgbfehaaYP
namespace Go.Proofs.Ytglfajjcgbfehaa

theorem bl_irr : ∀ x : List UInt8, Op.bytesLess x x = false
 | [] => rfl
 | a :: x => by simp [Op.bytesLess, bl_irr x]

theorem bl_trans : ∀ {x y z : List UInt8}, Op.bytesLess x y = true → Op.bytesLess y z = true → Op.bytesLess x z = true
 | [], [], _, h, _ => by simp [Op.bytesLess] at h
 | [], _ :: _, [], _, h => by simp [Op.bytesLess] at h
 | [], _ :: _, _ :: _, _, _ => by simp [Op.bytesLess]
 | _ :: _, [], _, h, _ => by simp [Op.bytesLess] at h
 | _ :: _, _ :: _, [], _, h => by simp [Op.bytesLess] at h
 | a :: x, b :: y, c :: z, h1, h2 => by
  simp only [Op.bytesLess, Bool.or_eq_true, decide_eq_true_eq, Bool.and_eq_true, beq_iff_eq] at h1 h2 ⊢
  rcases h1 with h1 | ⟨rfl, h1⟩
  ·rcases h2 with h2 | ⟨rfl, h2⟩
   ·exact .inl (UInt8.lt_trans h1 h2)
   ·exact .inl h1
  ·rcases h2 with h2 | ⟨rfl, h2⟩
   ·exact .inl h2
   ·exact .inr ⟨rfl, bl_trans h1 h2⟩

theorem bl_tri : ∀ {x y : List UInt8}, Op.bytesLess x y = false → x ≠ y → Op.bytesLess y x = true
 | [], [], _, h => absurd rfl h
 | [], _ :: _, h, _ => by simp [Op.bytesLess] at h
 | _ :: _, [], _, _ => by simp [Op.bytesLess]
 | a :: x, b :: y, h, hn => by
  simp only [Op.bytesLess, Bool.or_eq_false_iff, decide_eq_false_iff_not, Bool.and_eq_false_iff] at h
  simp only [Op.bytesLess, Bool.or_eq_true, decide_eq_true_eq, Bool.and_eq_true, beq_iff_eq]
  by_cases e : a = b
  ·subst e
   refine .inr ⟨rfl, bl_tri (h.2.resolve_left (by simp)) fun e => hn (by rw [e])⟩
  ·refine .inl ?_
   have h1 := UInt8.not_lt.1 h.1
   exact UInt8.lt_of_le_of_ne h1 fun e2 => e e2.symm

theorem toList_inj {x y : ByteArray} (h : x.toList = y.toList) : x = y := seqB_iff.1 (by unfold seqB; rw [h]; exact beq_self_eq_true _)

theorem slt_irr (x : ByteArray) : sltB x x = false := bl_irr _

theorem slt_trans {x y z : ByteArray} (h1 : sltB x y = true) (h2 : sltB y z = true) : sltB x z = true := bl_trans h1 h2

theorem slt_tri {x y : ByteArray} (h1 : sltB x y = false) (h2 : seqB x y = false) : sltB y x = true := bl_tri h1 fun e => seqB_false.1 h2 (toList_inj e)

theorem slt_asym {x y : ByteArray} (h : sltB x y = true) : sltB y x = false := by
 cases h2 : sltB y x with
 | false => rfl
 | true => exact absurd (slt_trans h h2) (by rw [slt_irr]; decide)

theorem slt_ne' {x y : ByteArray} (h : sltB x y = true) : seqB y x = false := seqB_false.2 fun e => absurd h (by rw [e, slt_irr]; decide)

end Go.Proofs.Ytglfajjcgbfehaa
