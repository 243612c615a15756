/- Stores into elements of owned slices. No program is named here. -/
import Derived.Test.YtmdoimpeacndaaaYR
import Derived.Test.YtmdoimpeacndaaaW1
namespace Go.Proofs.Ytmdoimpeacndaaa
open Go.RowKit
section
variable {ds : List Deferred} {P : Program} (T : Tab P) {ops : Array Oper} {Q : Exit → Act → World → Prop} {a : Act} {w : World} {rest : List Oper} {o : Oper} {n : Nat} {S : Slots} {G : List GV}
variable {I0 D : Dm} {w0 : World} {I : Dm} {cs : List Ch}
theorem h_setv {α : Type} {R : Rp α} (hok : PsD ds ops n S G a) (H : Hf I0 D w0 I w cs) (i : Nat) {t e : TypeId} {p x : Operand} {l : List α} {v0 v : Value} {d : α} {z : Int} (c : Nat) (y : α) (hi : cs[i]? = some (OwC R e v0 l)) (hF : R.Flat)
  (hz : 0 ≤ z ∧ z < (l.length : Int)) (hg : o.guard = none) (ho : o.op = .store t p x) (hd : o.dst = none) (m : Nat) (hp : evS S p = some (.pointer (some ⟨blkOf v0, oofOf v0 + z.toNat * m + c, none⟩))) (hx : evS S x = some v) (h1 : v.oneCell' = true) (ht : T.sz t = some (1, false)) (hm : R.n = m) (hc : c < m)
  (hy : ∀ cl, R.rep NoA w cl (l.getD z.toNat d) → R.rep NoA w (cl.set c v) y)
  (h : ∀ w', Hf I0 D w0 I w' (OwC R e v0 (l.set z.toNat y) :: cs.eraseIdx i) → wpList P ops Q rest a w') : wpList P ops Q (o :: rest) a w := by
 obtain ⟨ao, cap, rfl, hcl, hcm⟩ := H.owshape i hi
 have hk : z.toNat < l.length := by omega
 have hl : (l.set z.toNat y).length = l.length := List.length_set
 have hb : blkOf (.slice ao l.length cap) = bOf ao := by cases ao <;> rfl
 have hb2 : oofOf (.slice ao l.length cap) = oOf ao := by cases ao <;> rfl
 rw [hb, hb2] at hp
 refine h_set T hok H i z.toNat c y hi hF hg ho hd hp hx h1 ht m hm rfl hk hc (fun cl hcl => hy cl ?_) fun w' H' => h w' ?_
 ·rw [List.getD_eq_getElem?_getD, List.getElem?_eq_getElem hk]; exact hcl
 ·rw [hl] at H'; exact H'

end
end Go.Proofs.Ytmdoimpeacndaaa
