/- Trees whose values are slices that are only read. No program is named here. -/
import Derived.Test.YtglfajjcgbfehaaGreatYT
namespace Go.Proofs.YtglfajjcgbfehaaGreat
open Go.RowKit

def TrG {α : Type} (R : Rp α) (T : Nat) : TT (List α) → Value → Ch
 | .nil, v => PfC (v = .pointer none)
 | .node k x d l r, v => ExC fun (p : Nat × Value × Value × Value) => [PfC (v = .pointer (some ⟨p.1, 0, none⟩)), BxC p.1 T [.string k, p.2.1, .int .i64 d, p.2.2.1, p.2.2.2], SlC R p.2.1 x, TrG R T l p.2.2.1, TrG R T r p.2.2.2]

section
variable {I0 D : Dm} {w0 : World} {I : Dm} {w : World} {cs : List Ch} {T : Nat} {α : Type} {R : Rp α}
theorem Hf.trNG (H : Hf I0 D w0 I w cs) (i : Nat) {v : Value} {t : TT (List α)} (h : cs[i]? = some (TrG R T t v)) (ho : t = .nil) : v = .pointer none ∧ Hf I0 D w0 I w (cs.eraseIdx i) := by
 subst ho
 exact ⟨H.pf i h, H.drop1 i h⟩

theorem Hf.trSG (H : Hf I0 D w0 I w cs) (i : Nat) {v : Value} {t l r : TT (List α)} {k : ByteArray} {x : List α} {d : Int} (h : cs[i]? = some (TrG R T t v)) (ho : t = .node k x d l r) : ∃ b xv lv rv, v = .pointer (some ⟨b, 0, none⟩) ∧ Hf I0 D w0 I w (BxC b T [.string k, xv, .int .i64 d, lv, rv] :: SlC R xv x :: TrG R T l lv :: TrG R T r rv :: cs.eraseIdx i) := by
 subst ho
 obtain ⟨⟨b, xv, lv, rv⟩, H2⟩ := H.openX i h
 exact ⟨b, xv, lv, rv, H2.pf 0 rfl, H2.drop1 0 rfl⟩

theorem Hf.trIG (H : Hf I0 D w0 I w cs) (i : Nat) {v : Value} {t : TT (List α)} (h : cs[i]? = some (TrG R T t v)) : ∃ p, v = .pointer p ∧ p.isNone = t.isNil := by
 cases t with
 | nil => exact ⟨none, H.pf i h, rfl⟩
 | node k x d l r =>
  obtain ⟨p, H2⟩ := H.openX i h
  exact ⟨_, H2.pf 0 rfl, rfl⟩

theorem Hf.trPG (H : Hf I0 D w0 I w cs) (i : Nat) {v : Value} {t : TT (List α)} (h : cs[i]? = some (TrG R T t v)) : PtV v := by
 obtain ⟨p, hp, _⟩ := H.trIG i h
 exact ⟨p, hp⟩

theorem Hf.mkTNG (H : Hf I0 D w0 I w cs) (R : Rp α) (T : Nat) : Hf I0 D w0 I w (TrG R T .nil (.pointer none) :: cs) := H.add (f := fun _ => False) (c := PfC (Value.pointer none = .pointer none)) ⟨fun _ => id, rfl⟩ fun _ => id

theorem Hf.mkTG (H : Hf I0 D w0 I w cs) (js : List (Nat × Bool)) {b : Nat} {xv lv rv : Value} {k : ByteArray} {x : List α} {d : Int} {l r : TT (List α)} {rst : List Ch} (hp : pickN js cs = some ([BxC b T [.string k, xv, .int .i64 d, lv, rv], SlC R xv x, TrG R T l lv, TrG R T r rv], rst)) : Hf I0 D w0 I w (TrG R T (.node k x d l r) (.pointer (some ⟨b, 0, none⟩)) :: rst) := by
 obtain ⟨D1, h1, h2⟩ := H.call hp
 have H1 := h1.hf.add (f := fun _ => False) (c := PfC (Value.pointer (some ⟨b, 0, none⟩) = .pointer (some ⟨b, 0, none⟩))) ⟨fun _ => id, rfl⟩ fun _ => id
 exact h2 (co := [TrG R T (.node k x d l r) (.pointer (some ⟨b, 0, none⟩))]) (Hf.shutX (f := fun (p : Nat × Value × Value × Value) => [PfC (Value.pointer (some ⟨b, 0, none⟩) = .pointer (some ⟨p.1, 0, none⟩)), BxC p.1 T [.string k, p.2.1, .int .i64 d, p.2.2.1, p.2.2.2], SlC R p.2.1 x, TrG R T l p.2.2.1, TrG R T r p.2.2.2]) (b, xv, lv, rv) H1 [(0, true), (1, false), (1, false), (1, false), (1, false)] rfl |>.sub [(0, false)] rfl)

end
theorem Ob_tnilG {α : Type} {P : Program} {ev : Operand → Option Value} {o : Oper} {w : World} {x y : Operand} {t t2 : Nat} {v : Value} {q : TT (List α)} {op : BinOp} {c : Bool} (ho : o.op = .binOp op t x y t2) (hx : ev x = some v) (hy : ev y = some (.pointer none)) {e : TypeId} (ht0 : P.underlying t = some (.pointer e)) (hv : ∃ p, v = .pointer p ∧ p.isNone = q.isNil) (hc : (op = .eql ∧ c = q.isNil) ∨ (op = .neq ∧ c = !q.isNil)) : Ob P ev o (.bool c) w := by
 obtain ⟨p, rfl, hp⟩ := hv
 exact Ob_pnil ho hx hy ht0 (by rw [hp]; exact hc)

end Go.Proofs.YtglfajjcgbfehaaGreat
