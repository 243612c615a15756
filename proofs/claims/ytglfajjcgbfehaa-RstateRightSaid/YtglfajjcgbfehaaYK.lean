/- The order of texts; rows in that order. No program is named here. -/
import Derived.Test.YtglfajjcgbfehaaYP
namespace Go.Proofs.Ytglfajjcgbfehaa

theorem bl_trans : ∀ {x y z : List UInt8}, Op.bytesLess x y = true → Op.bytesLess y z = true → Op.bytesLess x z = true
 | [], [], _, h, _ => by simp [Op.bytesLess] at h
 | [], _ :: _, [], _, h => by simp [Op.bytesLess] at h
 | [], _ :: _, _ :: _, _, _ => by simp [Op.bytesLess]
 | _ :: _, [], _, h, _ => by simp [Op.bytesLess] at h
 | _ :: _, _ :: _, [], _, h => by simp [Op.bytesLess] at h
 | a :: x, b :: y, c :: z, h1, h2 => by
  simp only [Op.bytesLess, Bool.or_eq_true, decide_eq_true_eq, Bool.and_eq_true, beq_iff_eq] at h1 h2 ⊢
  rcases h1 with h1 | ⟨rfl, h1⟩
  ·rcases h2 with h2 | ⟨rfl, h2⟩
   ·exact .inl (UInt8.lt_trans h1 h2)
   ·exact .inl h1
  ·rcases h2 with h2 | ⟨rfl, h2⟩
   ·exact .inl h2
   ·exact .inr ⟨rfl, bl_trans h1 h2⟩

theorem toList_inj {x y : ByteArray} (h : x.toList = y.toList) : x = y := seqB_iff.1 (by unfold seqB; rw [h]; exact beq_self_eq_true _)

theorem slt_trans {x y z : ByteArray} (h1 : sltB x y = true) (h2 : sltB y z = true) : sltB x z = true := bl_trans h1 h2

end Go.Proofs.Ytglfajjcgbfehaa
