/- Pins as plain data; what 'lease' and its reference come to, on lists. No program is named here. -/
import Derived.Test.YtabebdompkkhlaaBase
namespace Go.Proofs.Ytabebdompkkhlaa
open Go.RowKit

structure Pin where
  id : Int
  at_ : Nat
  left : Int

def okPin (c : Pin) : Prop := i64ok c.id ∧ c.at_ < 18446744073709551616 ∧ i64ok c.left
def RPin : Rp Pin := Rp.flat 3 okPin (fun c => [.int .i64 c.id, .int .u64 c.at_, .int .i64 c.left]) (fun _ => rfl) (fun x c hc => by simp at hc; rcases hc with rfl | rfl | rfl <;> rfl)
theorem RPin.isFlat : RPin.Flat := Rp.flat_flat _ _ _ _ _
instance : Inhabited Pin := ⟨⟨0, 0, 0⟩⟩
def PinAt (w : World) (b off i : Nat) (c : Pin) : Prop :=
  w.cell? ⟨b, off + i * 3, none⟩ = some (.int .i64 c.id) ∧ w.cell? ⟨b, off + i * 3 + 1, none⟩ = some (.int .u64 c.at_) ∧ w.cell? ⟨b, off + i * 3 + 2, none⟩ = some (.int .i64 c.left)
theorem open_Pins {A : Nat → Prop} {w : World} {v : Value} {l : List Pin} (h : slRep RPin A w v l) :
    ∃ (ao : Option Addr) (b off cap : Nat), v = .slice ao l.length cap ∧ l.length ≤ cap ∧ cap ≤ maxLen ∧ (0 < l.length → ao = some ⟨b, off, none⟩ ∧ b < w.heap.size) ∧ ∀ i (h : i < l.length), PinAt w b off i l[i] ∧ okPin l[i] := by
  obtain ⟨ao, b, off, cap, hv, hc, hm, hb, hx⟩ := h
  refine ⟨ao, b, off, cap, hv, hc, hm, fun h0 => ⟨(hb h0).1, (hb h0).2.2⟩, fun i hi => ?_⟩
  obtain ⟨cs, ⟨rfl, hok⟩, hcs⟩ := hx i hi
  exact ⟨⟨hcs 0 (by simp), hcs 1 (by simp), hcs 2 (by simp)⟩, hok⟩

/-- may they be, but for how many: ahead is the number ahead -/
def prightL : Int → List Pin → Bool
  | _, [] => true
  | a, p :: l => if p.id ≤ a ∨ p.left < 1 ∨ 8 < p.left then false else prightL p.id l

def paheadL (l : List Pin) (k : Nat) : Int := match k with | 0 => 0 | k + 1 => (l[k]?.map (·.id)).getD 0

theorem pright_step (l : List Pin) (k : Nat) (h : k < l.length) : prightL (paheadL l k) (l.drop k) = if l[k].id ≤ paheadL l k ∨ l[k].left < 1 ∨ 8 < l[k].left then false else prightL (paheadL l (k + 1)) (l.drop (k + 1)) := by
  rw [List.drop_eq_getElem_cons h]
  simp only [prightL]
  have : paheadL l (k + 1) = l[k].id := by simp [paheadL, List.getElem?_eq_getElem h]
  rw [this]

def mayL (l : List Pin) : Bool := prightL 0 l && decide (l.length ≤ 3)

/-- where the pin of a number is; the length: nowhere -/
def findN (l : List Pin) (id : Int) : Nat := l.findIdx (fun p => p.id == id)
def findI (l : List Pin) (id : Int) : Int := if findN l id < l.length then (findN l id : Int) else -1

theorem findN_le (l : List Pin) (id : Int) : findN l id ≤ l.length := List.findIdx_le_length
theorem find_step (l : List Pin) (id : Int) (k : Nat) (h : k < l.length) : findN (l.drop k) id = if (l[k].id == id) = true then 0 else findN (l.drop (k + 1)) id + 1 := by
  unfold findN
  rw [List.drop_eq_getElem_cons h, List.findIdx_cons]
  cases l[k].id == id <;> rfl

def grantL (l : List Pin) (id : Int) (at_ : Nat) : List Pin × Nat :=
  if 3 ≤ l.length then ([], 17) else if id < 1 ∨ 1073741824 < id then ([], 1) else if 0 < l.length ∧ id ≤ paheadL l l.length then ([], 18) else (l ++ [⟨id, at_, 8⟩], 0)

def renewL (l : List Pin) (id : Int) : List Pin × Nat :=
  if h : findN l id < l.length then (l.set (findN l id) ⟨id, l[findN l id].at_, 8⟩, 0) else ([], 7)

def freeL (l : List Pin) (id : Int) : List Pin × Nat :=
  if findN l id < l.length then (l.take (findN l id) ++ l.drop (findN l id + 1), 0) else ([], 7)

def tickL (l : List Pin) : List Pin := (l.filter fun p => 1 < p.left).map fun p => { p with left := p.left - 1 }
def goneL (l : List Pin) : List Int := (l.filter fun p => !decide (1 < p.left)).map (·.id)

def minL (l : List Pin) : Nat := match l with | [] => 0 | p :: l => l.foldl (fun n q => min n q.at_) p.at_

end Go.Proofs.Ytabebdompkkhlaa
