/- Cells (versions of a key) as plain data; what 'vers' and its reference come to, on lists. -/
import Derived.Test.YtnebjcdhbjahoaaBase
namespace Go.Proofs.Ytnebjcdhbjahoaa
open Go.RowKit

structure Cell where
  ts : Nat
  val : ByteArray
  del : Bool

def RCell : Rp Cell := Rp.flat 3 (fun c => c.ts < 18446744073709551616 ∧ c.val.size ≤ maxLen) (fun c => [.int .u64 c.ts, .string c.val, .bool c.del]) (fun _ => rfl) (fun x c hc => by simp at hc; rcases hc with rfl | rfl | rfl <;> rfl)

theorem RCell.flat : RCell.Flat := Rp.flat_flat _ _ _ _ _

/-- a cell of a slice, field by field -/
def cellAt (w : World) (b off i : Nat) (c : Cell) : Prop :=
  w.cell? ⟨b, off + i * 3, none⟩ = some (.int .u64 c.ts) ∧ w.cell? ⟨b, off + i * 3 + 1, none⟩ = some (.string c.val) ∧ w.cell? ⟨b, off + i * 3 + 2, none⟩ = some (.bool c.del)

theorem open_cells {A : Nat → Prop} {w : World} {v : Value} {l : List Cell} (h : slRep RCell A w v l) :
    ∃ (ao : Option Addr) (b off cap : Nat), v = .slice ao l.length cap ∧ l.length ≤ cap ∧ cap ≤ maxLen ∧ (0 < l.length → ao = some ⟨b, off, none⟩ ∧ b < w.heap.size) ∧ ∀ i (h : i < l.length), cellAt w b off i l[i] ∧ l[i].ts < 18446744073709551616 ∧ l[i].val.size ≤ maxLen := by
  obtain ⟨ao, b, off, cap, hv, hc, hm, hb, hx⟩ := h
  refine ⟨ao, b, off, cap, hv, hc, hm, fun h0 => ⟨(hb h0).1, (hb h0).2.2⟩, fun i hi => ?_⟩
  obtain ⟨cs, ⟨rfl, hok⟩, hcs⟩ := hx i hi
  exact ⟨⟨hcs 0 (by simp), hcs 1 (by simp), hcs 2 (by simp)⟩, hok⟩

def rightL : Nat → List Cell → Bool
  | _, [] => true
  | a, c :: l => if c.ts ≤ a then false else rightL c.ts l

/-- the timestamp ahead of place k -/
def aheadL (l : List Cell) (k : Nat) : Nat := match k with | 0 => 0 | k + 1 => (l[k]?.map (·.ts)).getD 0

theorem right_step (l : List Cell) (k : Nat) (h : k < l.length) : rightL (aheadL l k) (l.drop k) = if l[k].ts ≤ aheadL l k then false else rightL (aheadL l (k + 1)) (l.drop (k + 1)) := by
  rw [List.drop_eq_getElem_cons h]
  simp only [rightL]
  have : aheadL l (k + 1) = l[k].ts := by simp [aheadL, List.getElem?_eq_getElem h]
  rw [this]

/-- how many cells stand up to the last one that is not above t, of the first n -/
def scanL (l : List Cell) (t : Nat) : Nat → Nat
  | 0 => 0
  | n + 1 => if t < ((l[n]?).map (·.ts)).getD 0 then scanL l t n else n + 1

theorem scan_step (l : List Cell) (t n : Nat) (h : n < l.length) : scanL l t (n + 1) = if t < l[n].ts then scanL l t n else n + 1 := by
  simp [scanL, List.getElem?_eq_getElem h]

theorem scan_le (l : List Cell) (t n : Nat) : scanL l t n ≤ n := by
  induction n with
  | zero => simp [scanL]
  | succ n ih => simp only [scanL]; split <;> omega

def uptoL (l : List Cell) (t : Nat) : Nat := scanL l t l.length

theorem upto_le (l : List Cell) (t : Nat) : uptoL l t ≤ l.length := scan_le _ _ _

/-- the place that parts the not later from the later -/
theorem upto_of (l : List Cell) (t m : Nat) (hm : m ≤ l.length) (h1 : ∀ j (h : j < l.length), m ≤ j → t < l[j].ts) (h2 : ∀ (h : 0 < m), ¬ t < (l[m - 1]'(by omega)).ts) : uptoL l t = m := by
  have key : ∀ n, m ≤ n → n ≤ l.length → scanL l t n = m := by
    intro n
    induction n with
    | zero => intro h _; simp [scanL]; omega
    | succ n ih =>
      intro hmn hn
      rw [scan_step l t n (by omega)]
      by_cases he : m = n + 1
      · subst he
        have := h2 (by omega)
        rw [if_neg (by simpa using this)]
      · rw [if_pos (h1 n (by omega) (by omega))]
        exact ih (by omega) (by omega)
  exact key _ hm (Nat.le_refl _)

theorem right_sorted (l : List Cell) : ∀ a, rightL a l = true → (∀ i (h : i < l.length), a < l[i].ts) ∧ ∀ i j (hi : i < l.length) (hj : j < l.length), i < j → l[i].ts < l[j].ts := by
  induction l with
  | nil => intro a _; exact ⟨fun i h => absurd h (Nat.not_lt_zero i), fun i j hi => absurd hi (Nat.not_lt_zero i)⟩
  | cons c l ih =>
    intro a h
    simp only [rightL] at h
    split at h
    · cases h
    · rename_i hac
      obtain ⟨h1, h2⟩ := ih _ h
      refine ⟨fun i hi => ?_, fun i j hi hj hij => ?_⟩
      · cases i with
        | zero => simp; omega
        | succ i => have := h1 i (by simpa using hi); simp; omega
      · cases j with
        | zero => omega
        | succ j =>
          cases i with
          | zero => simpa using h1 j (by simpa using hj)
          | succ i => simpa using h2 i j (by simpa using hi) (by simpa using hj) (by omega)

/-- the value at a time -/
def atL (l : List Cell) (t : Nat) : ByteArray × Bool :=
  match uptoL l t with
  | 0 => (ByteArray.empty, false)
  | n + 1 => match l[n]? with
    | some c => if c.del then (ByteArray.empty, false) else (c.val, true)
    | none => (ByteArray.empty, false)

def pruneN (l : List Cell) (t : Nat) : Nat :=
  match uptoL l t with
  | 0 => 0
  | n + 1 => match l[n]? with
    | some c => if c.del then n + 1 else n
    | none => n + 1

def pruneL (l : List Cell) (t : Nat) : List Cell := l.drop (pruneN l t)

/-- what a new cell comes to: the list, the error's number -/
def putL (l : List Cell) (c : Cell) : List Cell × Nat :=
  if c.ts = 0 then ([], 5) else if 0 < l.length ∧ c.ts ≤ aheadL l l.length then ([], 18) else (l ++ [c], 0)

end Go.Proofs.Ytnebjcdhbjahoaa
