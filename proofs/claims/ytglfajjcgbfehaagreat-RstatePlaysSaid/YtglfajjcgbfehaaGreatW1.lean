/- Rules for numbers' bits, new slices, a store into an element, bytes as a string. No program is named here. -/
import Derived.Test.YtglfajjcgbfehaaGreatQS
import Derived.Laws.MakeOwn
import Derived.Scope
import Derived.Laws.BytesString
namespace Go.Proofs.YtglfajjcgbfehaaGreat
open Go.RowKit
variable {ds : List Deferred}

section
variable {Q : Exit → Act → World → Prop} {a : Act} {w : World}
end

section
variable {P : Program} {ev : Operand → Option Value} {o : Oper} {w : World}
end

section
variable {P : Program} (T : Tab P) {ops : Array Oper} {Q : Exit → Act → World → Prop} {a : Act} {w : World} {rest : List Oper} {o : Oper} {n : Nat} {S : Slots} {G : List GV}
variable {I0 D : Dm} {w0 : World} {I : Dm} {cs : List Ch}

/-- a store into an element of an owned slice -/
theorem h_set {α : Type} {R : Rp α} (hok : PsD ds ops n S G a) (H : Hf I0 D w0 I w cs) (i : Nat) {t e len cap off : Nat} {ao : Option Addr} {p x : Operand} {l : List α} {v : Value} (k c : Nat) (y : α) (hi : cs[i]? = some (OwC R e (.slice ao len cap) l)) (hF : R.Flat)
  (hg : o.guard = none) (ho : o.op = .store t p x) (hd : o.dst = none) (hp : evS S p = some (.pointer (some ⟨bOf ao, off, none⟩))) (hx : evS S x = some v) (h1 : v.oneCell' = true) (ht : T.sz t = some (1, false)) (m : Nat) (hm : R.n = m) (hoff : off = oOf ao + k * m + c) (hk : k < l.length) (hc : c < m)
  (hy : ∀ cl, R.rep NoA w cl l[k] → R.rep NoA w (cl.set c v) y)
  (h : ∀ w', Hf I0 D w0 I w' (OwC R e (.slice ao (l.set k y).length cap) (l.set k y) :: cs.eraseIdx i) → wpList P ops Q rest a w') : wpList P ops Q (o :: rest) a w := by
 subst hm
 have hlen : len = l.length := by
  obtain ⟨ao', cap', hv, _, _⟩ := H.owshape i hi
  injection hv
 rw [List.length_set, ← hlen] at h
 have ho' := H.ow i hi
 have hlt := H.owlt i hi
 rcases ho' with ⟨ao', hv, rfl⟩ | ⟨g, cap', css, hv, hown, hl, hr⟩
 ·simp at hk
 ·have hO : Ow R I 0 e w (.slice ao len cap) l := .inr ⟨g, cap', css, hv, hown, hl, hr⟩
  injection hv with e1 e2 e3
  subst e1
  have hb : bOf (some ⟨g, 0, none⟩) = g := rfl
  have h0 : oOf (some ⟨g, 0, none⟩) = 0 := rfl
  rw [hb] at hp; rw [h0, Nat.zero_add] at hoff
  obtain ⟨k1, k2, k3⟩ := Ow.cell hF hO k c hk hc v y (fun cl hcl => hy cl hcl)
  have hcell : ∃ u, w.cell? ⟨g, off, none⟩ = some u := by
   have hs := Ow.slF hF hO (A' := AnyA) (fun _ _ => trivial)
   obtain ⟨ao2, b2, off2, cap2, hv2, _, _, hb2, hx2⟩ := hs
   obtain ⟨q1, _, _⟩ := hb2 (by omega)
   injection hv2 with q2
   rw [← q2] at q1; injection q1 with q1; injection q1 with q3 q4
   subst q3; subst q4
   obtain ⟨cl, hcl, hcs⟩ := hx2 k hk
   have := R.len hcl
   exact ⟨_, by rw [hoff]; simpa using hcs c (by omega)⟩
  obtain ⟨u, hu⟩ := hcell
  have hfz : w.frozen? ⟨g, off, none⟩ = false := Ow.frozen hO (by omega) off
  refine wpList_skip hg (w' := w.setCell ⟨g, off, none⟩ v) ?_ hd (h _ (H.app i hi (by rw [hoff]; exact k1) (by rw [hoff]; exact k2) (fun k' _ hne => ?_) (fun _ hk => .inl hk) fun k' hk' => ?_))
  ·unfold execOp
   have hsz := (T.hsz ht w).2
   have hcl : v.cells = #[v] := by cases v <;> first | rfl | (simp [Value.oneCell'] at h1; done)
   have hst : (store ⟨g, off, none⟩ v).run P w = .ok () (w.setCell ⟨g, off, none⟩ v) := by
    cases v <;> first | (simp [Value.oneCell'] at h1; done) | simp [store, Sem.run, hu, hfz]
   simp [ho, hok.sl.ev hp, hok.sl.ev hx, Instr.storeAt, Instr.sureAddr, storeVar, hsz, hcl, storeCells]
   rw [show (Addr.add ⟨g, off, none⟩ 0) = ⟨g, off, none⟩ by simp [Addr.add]]
   simp [hst]
  ·have hne' : g ≠ k' := fun hh => hne (by rw [hh]; rfl)
   exact Below.heap_setCell w _ v k' (fun hh => hne' hh.symm)
  ·simp only [World.size_setCell]; exact hlt k' hk'

end

end Go.Proofs.YtglfajjcgbfehaaGreat
