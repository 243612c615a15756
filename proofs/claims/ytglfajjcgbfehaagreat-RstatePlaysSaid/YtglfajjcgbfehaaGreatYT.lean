/- Trees in memory: nodes with a key, a value, a depth, two children. No program is named here. -/
import Derived.Test.YtglfajjcgbfehaaGreatYRv
namespace Go.Proofs.YtglfajjcgbfehaaGreat
open Go.RowKit

inductive TT (α : Type) where
 | nil : TT α
 | node (k : ByteArray) (x : α) (d : Int) (l r : TT α) : TT α

def TT.isNil {α : Type} : TT α → Bool
 | .nil => true
 | .node .. => false

def ttE {α β : Type} (t : TT α) (a : β) (f : ByteArray → α → Int → TT α → TT α → β) : β := match t with
 | .nil => a
 | .node k x d l r => f k x d l r

theorem ttE_in {α β : Type} {t : TT α} {a : Option β} {f : ByteArray → α → Int → TT α → TT α → Option β} {r : β} (h : ttE t a f = some r) : (t = .nil ∧ a = some r) ∨ ∃ k x d l r', t = .node k x d l r' ∧ f k x d l r' = some r := by
 cases t with
 | nil => exact .inl ⟨rfl, h⟩
 | node k x d l r' => exact .inr ⟨k, x, d, l, r', rfl, h⟩

def PtV (v : Value) : Prop := ∃ p, v = .pointer p

theorem PtV.one {v : Value} (h : PtV v) : v.oneCell' = true := by obtain ⟨p, rfl⟩ := h; rfl

theorem PtV.cells {v : Value} (h : PtV v) : v.cells = [v].toArray := by obtain ⟨p, rfl⟩ := h; rfl

section
variable {I0 D : Dm} {w0 : World} {I : Dm} {w : World} {cs : List Ch} {T : Nat}
end
end Go.Proofs.YtglfajjcgbfehaaGreat
