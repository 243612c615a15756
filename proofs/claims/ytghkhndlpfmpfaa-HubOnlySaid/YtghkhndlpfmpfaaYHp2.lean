/- A hub, plain: two links with one another, through eight rounds in which all comes. -/
import Derived.Test.YtghkhndlpfmpfaaYHp1
namespace Go.Proofs.Ytghkhndlpfmpfaa
open Go.RowKit

/-- a link of boot 1 that knows nothing, with texts that wait -/
def lk0 (q : List ByteArray) : Elink_Link := { boot := 1, stream := 1, q := { first := 0, l := q, told := 0 }, peer := { boot := 0, stream := 0, next := 0 }, owes := false }

def inF : Elink_Link → List ESeg → Elink_Link
 | l, [] => l
 | l, s :: r => inF (inL l s).2.2 r

def inT : Elink_Link → List ESeg → List ByteArray
 | _, [] => []
 | l, s :: r => (inL l s).1 ++ inT (inL l s).2.2 r

/-- a round: what a link is behind it, with the other side's; what the other side is told -/
def pst (A B : Elink_Link) : Elink_Link := inF (outL A) (outsL B true)

def ptx (A B : Elink_Link) : List ByteArray := inT (outL B) (outsL A true)

structure PS where
 A : Elink_Link
 B : Elink_Link
 ga : List ByteArray
 gb : List ByteArray
 ok : Bool

def prd (p : PS) : PS := ⟨pst p.A p.B, pst p.B p.A, p.ga ++ ptx p.A p.B, p.gb ++ ptx p.B p.A, p.ok && ((outsL p.A true).all mayS && (outsL p.B true).all mayS)⟩

def prds : Nat → PS → PS
 | 0, p => p
 | n + 1, p => prd (prds n p)

def fin (p : PS) : List ByteArray × List ByteArray × List ByteArray × List ByteArray × Bool := (p.A.q.l, p.B.q.l, p.ga, p.gb, p.ok)

theorem len8 : ∀ (q : List ByteArray), q.length ≤ 8 → q = [] ∨ (∃ a : ByteArray, q = [a]) ∨ (∃ a b : ByteArray, q = [a, b]) ∨ (∃ a b c : ByteArray, q = [a, b, c]) ∨ (∃ a b c d : ByteArray, q = [a, b, c, d]) ∨ (∃ a b c d e : ByteArray, q = [a, b, c, d, e]) ∨ (∃ a b c d e f : ByteArray, q = [a, b, c, d, e, f]) ∨ (∃ a b c d e f g : ByteArray, q = [a, b, c, d, e, f, g]) ∨ (∃ a b c d e f g h : ByteArray, q = [a, b, c, d, e, f, g, h])
 | [], _ => .inl rfl
 | [a], _ => .inr (.inl ⟨a, rfl⟩)
 | [a, b], _ => .inr (.inr (.inl ⟨a, b, rfl⟩))
 | [a, b, c], _ => .inr (.inr (.inr (.inl ⟨a, b, c, rfl⟩)))
 | [a, b, c, d], _ => .inr (.inr (.inr (.inr (.inl ⟨a, b, c, d, rfl⟩))))
 | [a, b, c, d, e], _ => .inr (.inr (.inr (.inr (.inr (.inl ⟨a, b, c, d, e, rfl⟩)))))
 | [a, b, c, d, e, f], _ => .inr (.inr (.inr (.inr (.inr (.inr (.inl ⟨a, b, c, d, e, f, rfl⟩))))))
 | [a, b, c, d, e, f, g], _ => .inr (.inr (.inr (.inr (.inr (.inr (.inr (.inl ⟨a, b, c, d, e, f, g, rfl⟩)))))))
 | [a, b, c, d, e, f, g, h], _ => .inr (.inr (.inr (.inr (.inr (.inr (.inr (.inr (⟨a, b, c, d, e, f, g, h, rfl⟩))))))))
 | _ :: _ :: _ :: _ :: _ :: _ :: _ :: _ :: _ :: _, h => by simp only [List.length_cons] at h; omega

theorem pair8 (qa qb : List ByteArray) (ha : qa.length ≤ 8) (hb : qb.length ≤ 8) : fin (prds 8 ⟨lk0 qa, lk0 qb, [], [], true⟩) = ([], [], qa, qb, true) := by
 rcases len8 qa ha with rfl | ⟨a1, rfl⟩ | ⟨a1, b1, rfl⟩ | ⟨a1, b1, c1, rfl⟩ | ⟨a1, b1, c1, d1, rfl⟩ | ⟨a1, b1, c1, d1, e1, rfl⟩ | ⟨a1, b1, c1, d1, e1, f1, rfl⟩ | ⟨a1, b1, c1, d1, e1, f1, g1, rfl⟩ | ⟨a1, b1, c1, d1, e1, f1, g1, h1, rfl⟩ <;> rcases len8 qb hb with rfl | ⟨a2, rfl⟩ | ⟨a2, b2, rfl⟩ | ⟨a2, b2, c2, rfl⟩ | ⟨a2, b2, c2, d2, rfl⟩ | ⟨a2, b2, c2, d2, e2, rfl⟩ | ⟨a2, b2, c2, d2, e2, f2, rfl⟩ | ⟨a2, b2, c2, d2, e2, f2, g2, rfl⟩ | ⟨a2, b2, c2, d2, e2, f2, g2, h2, rfl⟩ <;> kernel_rfl

theorem prds_ok (p : PS) (n : Nat) : ∀ k, (prds (n + k) p).ok = true → (prds n p).ok = true
 | 0, h => h
 | k + 1, h => prds_ok p n k (by
  have h2 : ((prds (n + k) p).ok && ((outsL (prds (n + k) p).A true).all mayS && (outsL (prds (n + k) p).B true).all mayS)) = true := h
  rw [Bool.and_eq_true] at h2; exact h2.1)

-- texts are no longer than they were
theorem in_sub (l : Elink_Link) (s : ESeg) : ∀ t ∈ (inL l s).2.2.q.l, t ∈ l.q.l := by
 have h1 : (learnL l s).q.l = l.q.l := by unfold learnL; split <;> split <;> rfl
 have h2 : ∀ l : Elink_Link, ∀ t ∈ (takeL l s).q.l, t ∈ l.q.l := fun l t ht => by
  unfold takeL at ht
  split at ht
  ·exact List.mem_of_mem_drop ht
  ·exact ht
 have h3 : ∀ l : Elink_Link, (tellL l s).2.2.q.l = l.q.l := fun l => by
  unfold tellL
  split
  ·rfl
  ·split <;> rfl
 intro t ht
 unfold inL at ht
 split at ht
 ·exact ht
 ·split at ht
  ·exact ht
  ·rw [h3] at ht
   have := h2 _ t ht
   rw [h1] at this; exact this

/-- a link whose texts may be told -/
structure LkS (l : Elink_Link) : Prop where
 ok : lkOk l
 sz : ∀ t ∈ l.q.l, (t.size : Int) ≤ 65536

theorem LkS.in {l : Elink_Link} (h : LkS l) (s : ESeg) : LkS (inL l s).2.2 := ⟨in_ok h.ok s, fun t ht => h.sz t (in_sub l s t ht)⟩

theorem LkS.out {l : Elink_Link} (h : LkS l) : LkS (outL l) := ⟨out_ok h.ok, h.sz⟩

theorem LkS.inF : ∀ (ss : List ESeg) {l : Elink_Link}, LkS l → LkS (inF l ss)
 | [], _, h => h
 | s :: r, _, h => LkS.inF r (h.in s)

theorem LkS.pst {A B : Elink_Link} (h : LkS A) : LkS (pst A B) := h.out.inF _

theorem LkS.body {l : Elink_Link} (h : LkS l) {again : Bool} {s : ESeg} (hs : s ∈ outsL l again) : (s.body.size : Int) ≤ 65536 := by
 unfold outsL at hs
 split at hs
 ·rw [List.mem_singleton] at hs; subst hs; show ((ByteArray.empty.size : Nat) : Int) ≤ 65536; decide
 ·unfold segsL at hs
  obtain ⟨i, hi, rfl⟩ := List.mem_map.1 hs
  rw [List.mem_range'_1] at hi
  have hw : winL l ≤ l.q.l.length := Nat.min_le_left _ _
  have hlt : i < l.q.l.length := by omega
  show (((l.q.l.getD i default).size : Nat) : Int) ≤ 65536
  rw [getD_lt hlt]; exact h.sz _ (List.getElem_mem hlt)

end Go.Proofs.Ytghkhndlpfmpfaa
