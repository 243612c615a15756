/- Trees in memory: nodes with a key, a value, a depth, two children. No program is named here. -/
import Derived.Test.YtfcdghlgcnjkoaaYR
namespace Go.Proofs.Ytfcdghlgcnjkoaa
open Go.RowKit

inductive TT (α : Type) where
 | nil : TT α
 | node (k : ByteArray) (x : α) (d : Int) (l r : TT α) : TT α

def TT.isNil {α : Type} : TT α → Bool
 | .nil => true
 | .node .. => false

def ttE {α β : Type} (t : TT α) (a : β) (f : ByteArray → α → Int → TT α → TT α → β) : β := match t with
 | .nil => a
 | .node k x d l r => f k x d l r

theorem ttE_in {α β : Type} {t : TT α} {a : Option β} {f : ByteArray → α → Int → TT α → TT α → Option β} {r : β} (h : ttE t a f = some r) : (t = .nil ∧ a = some r) ∨ ∃ k x d l r', t = .node k x d l r' ∧ f k x d l r' = some r := by
 cases t with
 | nil => exact .inl ⟨rfl, h⟩
 | node k x d l r' => exact .inr ⟨k, x, d, l, r', rfl, h⟩

/-- a tree whose values are numbers -/
def TrC (T : Nat) : TT Int → Value → Ch
 | .nil, v => PfC (v = .pointer none)
 | .node k x d l r, v => ExC fun (p : Nat × Value × Value) => [PfC (v = .pointer (some ⟨p.1, 0, none⟩)), BxC p.1 T [.string k, .int .i64 x, .int .i64 d, p.2.1, p.2.2], TrC T l p.2.1, TrC T r p.2.2]

def PtV (v : Value) : Prop := ∃ p, v = .pointer p

theorem PtV.one {v : Value} (h : PtV v) : v.oneCell' = true := by obtain ⟨p, rfl⟩ := h; rfl

theorem PtV.cells {v : Value} (h : PtV v) : v.cells = [v].toArray := by obtain ⟨p, rfl⟩ := h; rfl

section
variable {I0 D : Dm} {w0 : World} {I : Dm} {w : World} {cs : List Ch} {T : Nat}
theorem Hf.trN (H : Hf I0 D w0 I w cs) (i : Nat) {v : Value} {t : TT Int} (h : cs[i]? = some (TrC T t v)) (ho : t = .nil) : v = .pointer none ∧ Hf I0 D w0 I w (cs.eraseIdx i) := by
 subst ho
 exact ⟨H.pf i h, H.drop1 i h⟩

theorem Hf.trS (H : Hf I0 D w0 I w cs) (i : Nat) {v : Value} {t l r : TT Int} {k : ByteArray} {x d : Int} (h : cs[i]? = some (TrC T t v)) (ho : t = .node k x d l r) : ∃ b lv rv, v = .pointer (some ⟨b, 0, none⟩) ∧ Hf I0 D w0 I w (BxC b T [.string k, .int .i64 x, .int .i64 d, lv, rv] :: TrC T l lv :: TrC T r rv :: cs.eraseIdx i) := by
 subst ho
 obtain ⟨⟨b, lv, rv⟩, H2⟩ := H.openX i h
 exact ⟨b, lv, rv, H2.pf 0 rfl, H2.drop1 0 rfl⟩

theorem Hf.trI (H : Hf I0 D w0 I w cs) (i : Nat) {v : Value} {t : TT Int} (h : cs[i]? = some (TrC T t v)) : ∃ p, v = .pointer p ∧ p.isNone = t.isNil := by
 cases t with
 | nil => exact ⟨none, H.pf i h, rfl⟩
 | node k x d l r =>
  obtain ⟨p, H2⟩ := H.openX i h
  exact ⟨_, H2.pf 0 rfl, rfl⟩

theorem Hf.trP (H : Hf I0 D w0 I w cs) (i : Nat) {v : Value} {t : TT Int} (h : cs[i]? = some (TrC T t v)) : PtV v := by
 obtain ⟨p, hp, _⟩ := H.trI i h
 exact ⟨p, hp⟩

theorem Hf.mkTN (H : Hf I0 D w0 I w cs) (T : Nat) : Hf I0 D w0 I w (TrC T .nil (.pointer none) :: cs) := H.add (f := fun _ => False) (c := PfC (Value.pointer none = .pointer none)) ⟨fun _ => id, rfl⟩ fun _ => id

theorem Hf.mkT (H : Hf I0 D w0 I w cs) (js : List (Nat × Bool)) {b : Nat} {lv rv : Value} {k : ByteArray} {x d : Int} {l r : TT Int} {rst : List Ch} (hp : pickN js cs = some ([BxC b T [.string k, .int .i64 x, .int .i64 d, lv, rv], TrC T l lv, TrC T r rv], rst)) : Hf I0 D w0 I w (TrC T (.node k x d l r) (.pointer (some ⟨b, 0, none⟩)) :: rst) := by
 obtain ⟨D1, h1, h2⟩ := H.call hp
 have H1 := h1.hf.add (f := fun _ => False) (c := PfC (Value.pointer (some ⟨b, 0, none⟩) = .pointer (some ⟨b, 0, none⟩))) ⟨fun _ => id, rfl⟩ fun _ => id
 exact h2 (co := [TrC T (.node k x d l r) (.pointer (some ⟨b, 0, none⟩))]) (Hf.shutX (f := fun (p : Nat × Value × Value) => [PfC (Value.pointer (some ⟨b, 0, none⟩) = .pointer (some ⟨p.1, 0, none⟩)), BxC p.1 T [.string k, .int .i64 x, .int .i64 d, p.2.1, p.2.2], TrC T l p.2.1, TrC T r p.2.2]) (b, lv, rv) H1 [(0, true), (1, false), (1, false), (1, false)] rfl |>.sub [(0, false)] rfl)

end
theorem Ob_tnil {P : Program} {ev : Operand → Option Value} {o : Oper} {w : World} {x y : Operand} {t t2 : Nat} {v : Value} {q : TT Int} {op : BinOp} {c : Bool} (ho : o.op = .binOp op t x y t2) (hx : ev x = some v) (hy : ev y = some (.pointer none)) {e : TypeId} (ht0 : P.underlying t = some (.pointer e)) (hv : ∃ p, v = .pointer p ∧ p.isNone = q.isNil) (hc : (op = .eql ∧ c = q.isNil) ∨ (op = .neq ∧ c = !q.isNil)) : Ob P ev o (.bool c) w := by
 obtain ⟨p, rfl, hp⟩ := hv
 exact Ob_pnil ho hx hy ht0 (by rw [hp]; exact hc)

end Go.Proofs.Ytfcdghlgcnjkoaa
