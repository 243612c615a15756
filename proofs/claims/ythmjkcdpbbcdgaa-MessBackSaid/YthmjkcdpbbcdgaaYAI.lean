/- Small texts in one. -/
import Derived.Test.YthmjkcdpbbcdgaaYB
import Derived.WideKeyPair
import Derived.DeepKeys5
import Derived.ChangeKeysEq
import Derived.RangeFuncLeaves
import Derived.RangeFuncSeq
import Derived.TacticsIn
import Derived.Test.YthmjkcdpbbcdgaaW1
import Derived.Laws.IdiomStrings
import Derived.Laws.RangeAny
namespace Go.Proofs.Ythmjkcdpbbcdgaa

-- jumps back to a label
section
variable {P : Program} {Q : Exit → Act → World → Prop} {a : Act} {w : World}
end
end Go.Proofs.Ythmjkcdpbbcdgaa

namespace Go.Proofs.Ythmjkcdpbbcdgaa
end Go.Proofs.Ythmjkcdpbbcdgaa

namespace Go.Proofs.Ythmjkcdpbbcdgaa
open Go.RowKit
open Go.WideMaps (KeyLaw)

section pure
variable {α β : Type} [DecidableEq α]
end pure

/-- how a map's keys and values stand in memory -/
structure MapE (α β : Type) where
 ke : α → Value
 ve : β → Value
 ok : α → Prop
 inj : ∀ a b, ok a → ok b → ke a = ke b → a = b

variable {α β : Type} [DecidableEq α]
section
variable {P : Program} {w : World} {t kt et b clock : Nat} {M : MapE α β} {l : List (α × β)} {es : Array MapEntry}
theorem setBlock_turn (w : World) (b : Nat) (o : Obj) : Turn b w (ChangeMaps.setBlock w b o) := ⟨rfl, rfl, rfl, by simp [ChangeMaps.setBlock], fun k hk => by simp [ChangeMaps.setBlock, Array.getElem?_setIfInBounds, Ne.symm hk]⟩

theorem setBlock_at {w : World} {b : Nat} (o : Obj) (h : b < w.heap.size) : (ChangeMaps.setBlock w b o).heap[b]? = some o := by simp [ChangeMaps.setBlock, Array.getElem?_setIfInBounds, h]

end

section flow
variable {ds : List Deferred} {P : Program} {ops : Array Oper} {Q : Exit → Act → World → Prop} {a : Act} {w : World} {rest : List Oper} {o : Oper} {n : Nat} {S : Slots} {G : List GV}
variable {I0 D : Dm} {w0 : World} {I : Dm} {cs : List Ch}
end flow

end Go.Proofs.Ythmjkcdpbbcdgaa

namespace Go.Proofs.Ythmjkcdpbbcdgaa
open Go.RowKit

def ObC (b : Nat) (o : Obj) : Ch where
 P _ w fp := (∀ k, fp k ↔ k = b) ∧ w.heap[b]? = some o
 keep := fun {I I' fp w w'} ⟨h1, h2⟩ _ hk => ⟨h1, by
  have hl : b < w.heap.size := (Array.getElem?_eq_some_iff.1 h2).1
  rw [hk.2 b (.inr ((h1 b).2 rfl)) hl]; exact h2⟩
 pur := false
 hpur := fun h => by cases h

section hf
variable {I0 D : Dm} {w0 : World} {I : Dm} {w : World} {cs : List Ch}
end hf

section ins
variable {P : Program} {ops : Array Oper} {Q : Exit → Act → World → Prop} {a : Act} {w : World} {o : Oper} {F : Fence} {m : Nat}
variable {ds : List Deferred} {n : Nat} {S : Slots} {G : List GV}
variable {I0 D : Dm} {w0 : World} {I : Dm} {cs : List Ch} {rest : List Oper}
-- rounds
variable {L fn D0 : Nat} {tm : Array Value} {ps : Array Tmp} {asg bd : Code} {R : Value → World → Prop} {c : Code}
end ins

section range
variable {P : Program} {Q : Exit → Act → World → Prop} {a : Act} {w : World} {n : Nat} {S : Slots} {σ E VT : Type} {I0 D : Dm} {w0 : World} {I : Dm} {cs : List Ch}
end range
end Go.Proofs.Ythmjkcdpbbcdgaa

namespace Go.Proofs.Ythmjkcdpbbcdgaa
open Go.RowKit
section
variable {ds : List Deferred} {P : Program} (T : Tab P) {ops : Array Oper} {Q : Exit → Act → World → Prop} {a : Act} {w : World} {rest : List Oper} {o : Oper} {n : Nat} {S : Slots} {G : List GV}
variable {I0 D : Dm} {w0 : World} {I : Dm} {cs : List Ch}
end
end Go.Proofs.Ythmjkcdpbbcdgaa

namespace Go.Proofs.Ythmjkcdpbbcdgaa
open Go.RowKit

section
variable {I0 D : Dm} {w0 : World} {I : Dm} {w : World} {cs : List Ch} {α : Type} {R : Rp α}
section
variable {ds : List Deferred} {P : Program} (T : Tab P) {ops : Array Oper} {Q : Exit → Act → World → Prop} {a : Act} {rest : List Oper} {o : Oper} {n : Nat} {S : Slots} {G : List GV}
end
end

/-- what a callee that answers plain values looks at -/
theorem stB (w : World) : St (fun k => k < w.heap.size) NoD w [] := St.none _ w fun _ h => h

theorem stS {w : World} {cs : List Ch} {α : Type} {R : Rp α} {A : Dm} {v : Value} {l : List α} (hs : slRep R A w v l) (h : St (fun k => k < w.heap.size) NoD w cs) : St (fun k => k < w.heap.size) NoD w (SlC R v l :: cs) := h.cons (f := fun _ => False) ⟨fun _ => id, hs.all⟩ fun _ => id

-- slices of bytes that a string came to
section
variable {I0 D : Dm} {w0 : World} {I : Dm} {w : World} {cs : List Ch} {v : Value} {l : List Int}
section
variable {ds : List Deferred} {P : Program} (T : Tab P) {ops : Array Oper} {Q : Exit → Act → World → Prop} {a : Act} {rest : List Oper} {o : Oper} {n : Nat} {S : Slots} {G : List GV}
end
end
end Go.Proofs.Ythmjkcdpbbcdgaa

namespace Go.Proofs.Ythmjkcdpbbcdgaa
open Go.RowKit

def nxV (s : ByteArray) (p : Nat) : Value := if p < s.size then .tuple #[.bool true, .int .i64 p, .int .i32 (Utf8.decode s p).1] else .tuple #[.bool false]

def nxP (s : ByteArray) (p : Nat) : Nat := if p < s.size then p + (Utf8.decode s p).2 else p

def runeAt (s : ByteArray) (p : Nat) : Int := (Utf8.decode s p).1

/-- a pointer into the object of block b, or nil -/
def iptV (b : Nat) (o : Option Nat) : Value := .pointer (o.map fun k => ⟨b, k, none⟩)

/-- the number at such a pointer -/
def selI (l : List (Nat × Int)) (o : Option Nat) : Option Int := o.bind fun k => l.lookup k

def AtL (cl : List Value) : List (Nat × Int) → Prop
 | [] => True
 | p :: l => cl[p.1]? = some (.int .i64 p.2) ∧ AtL cl l

/-- what the cells are when v is stored there -/
def StL (cl : List Value) (f : Option Nat → List Value) (v : Value) : List Nat → Prop
 | [] => True
 | k :: l => putCells cl k [v] = f (some k) ∧ k < cl.length ∧ StL cl f v l

theorem AtL.get {cl : List Value} {k : Nat} {y : Int} : ∀ {l : List (Nat × Int)}, AtL cl l → l.lookup k = some y → cl[k]? = some (.int .i64 y)
 | [], _, h => by cases h
 | (j, x) :: l, ⟨h1, h2⟩, h => by
  rw [List.lookup_cons] at h
  split at h
  ·next e => cases h; rw [eq_of_beq e]; exact h1
  ·exact h2.get h

theorem StL.get {cl : List Value} {f : Option Nat → List Value} {v : Value} {k : Nat} : ∀ {l : List Nat}, StL cl f v l → l.contains k = true → putCells cl k [v] = f (some k) ∧ k < cl.length
 | [], _, h => by cases h
 | j :: l, ⟨h1, h2, h3⟩, h => by
  by_cases e : k = j
  ·subst e; exact ⟨h1, h2⟩
  ·exact h3.get (by simpa [List.contains_cons, e] using h)

section ops
variable {P : Program} {T : Tab P} {ev : Operand → Option Value} {o : Oper} {w : World}
theorem Ob_nx0 {s : ByteArray} {p : Nat} {x : Operand} (ho : o.op = .extract x 0) (hx : ev x = some (nxV s p)) : Ob P ev o (.bool (decide (p < s.size))) w := by
 intro ρ hρ
 unfold execOp
 by_cases h : p < s.size <;> simp [ho, hρ _ _ hx, nxV, h, Instr.extract]

theorem Ob_nx2 {s : ByteArray} {p : Nat} {x : Operand} (ho : o.op = .extract x 2) (hx : ev x = some (nxV s p)) (h : p < s.size) : Ob P ev o (.int .i32 (runeAt s p)) w := by
 intro ρ hρ
 unfold execOp
 simp [ho, hρ _ _ hx, nxV, h, Instr.extract, runeAt]

theorem Ob_inil {b : Nat} {q : Option Nat} {x : Operand} (ho : o.op = .nilCheck x) (hx : ev x = some (iptV b q)) (h : q.isSome = true) : Ob P ev o (iptV b q) w := by
 intro ρ hρ
 unfold execOp
 cases q with
 | none => cases h
 | some k => simp [ho, hρ _ _ hx, iptV]

theorem Ob_ieq {b t : Nat} {q : Option Nat} {x y : Operand} {t' : TypeId} {op : BinOp} {v : Bool} (ho : o.op = .binOp op t x y t') (hx : ev x = some (iptV b q)) (hy : ev y = some (.pointer none)) (hv : op = .eql ∧ v = q.isNone ∨ op = .neq ∧ v = !q.isNone)
  {e : TypeId} (ht : P.underlying t = some (.pointer e)) : Ob P ev o (.bool v) w := by
 cases q with
 | none => exact Ob_pnil ho hx hy ht hv
 | some k => exact Ob_pnil ho hx hy ht hv

theorem Ob_iload (T : Tab P) {t : Nat} {x : Operand} {b e : Nat} {q : Option Nat} {y : Int} {l : List (Nat × Int)} {cl : List Value} (ho : o.op = .load t x) (hx : ev x = some (iptV b q)) {n : Nat} (ht : T.sz t = some (n, false)) (hs : selI l q = some y) (hb : Box w b e cl) (hl : AtL cl l) : Ob P ev o (.int .i64 y) w := by
 cases q with
 | none => cases hs
 | some k => exact Ob_load T ho hx ht (hb.cell k (hl.get hs))

end ops
section flow
variable {ds : List Deferred} {P : Program} {T : Tab P} {ops : Array Oper} {Q : Exit → Act → World → Prop} {a : Act} {w : World} {rest : List Oper} {o : Oper} {n : Nat} {S : Slots} {G : List GV}
variable {I0 D : Dm} {w0 : World} {I : Dm} {cs : List Ch}
theorem h_srange (hok : PsD ds ops n S G a) (H : Hf I0 D w0 I w cs) {d t : Nat} {s : ByteArray} {x : Operand} (hg : o.guard = none) (ho : o.op = .range t x) (ht : P.underlying t = some .string) (hx : evS S x = some (.string s)) (hd : o.dst = some d) (hdn : d < n) (hf : gFree ops G d = true)
  (h : ∀ a' w' r, Hf I0 D w0 I w' (ObC r (.stringIter s 0) :: cs) → PsD ds ops n ((d, .pointer (some ⟨r, 0, none⟩)) :: S) G a' → wpList P ops Q rest a' w') : wpList P ops Q (o :: rest) a w := by
 refine wpList_run hg (v := .pointer (some ⟨w.heap.size, 0, none⟩)) (w' := w.alloc (.stringIter s 0)) ?_ ?_
 ·unfold execOp
  simp [ho, hok.sl.ev hx, run_range_string w t s ht, World.iter]
 ·rw [hd]
  exact h _ _ _ (H.new ((Below.refl _ w).alloc (Nat.le_refl _) _) (f := (· = w.heap.size)) (c := ObC w.heap.size (.stringIter s 0)) ⟨fun _ => Iff.rfl, heap_alloc_new w _⟩ fun k hk => by subst hk; simp) (hok.put hdn hf _)

theorem h_snext (hok : PsD ds ops n S G a) (H : Hf I0 D w0 I w cs) (i : Nat) {r p d : Nat} {s : ByteArray} {x : Operand} (hi : cs[i]? = some (ObC r (.stringIter s p))) (hg : o.guard = none) (ho : o.op = .next x true) (hx : evS S x = some (.pointer (some ⟨r, 0, none⟩))) (hd : o.dst = some d) (hdn : d < n) (hf : gFree ops G d = true)
  (h : ∀ a' w', Hf I0 D w0 I w' (ObC r (.stringIter s (nxP s p)) :: cs.eraseIdx i) → PsD ds ops n ((d, nxV s p) :: S) G a' → wpList P ops Q rest a' w') : wpList P ops Q (o :: rest) a w := by
 obtain ⟨f, hc, _⟩ := H.get i hi
 have hlt : r < w.heap.size := (Array.getElem?_eq_some_iff.1 hc.2).1
 by_cases hp : p < s.size
 ·refine wpList_run hg (v := nxV s p) (w' := ChangeMaps.setBlock w r (.stringIter s (nxP s p))) ?_ ?_
  ·unfold execOp
   simp [ho, hok.sl.ev hx, Instr.next, getObj, setObj, Sem.run, hc.2, hp, nxV, nxP, ChangeMaps.setBlock, goInt]
  ·rw [hd]
   have ht := setBlock_turn w r (.stringIter s (nxP s p))
   exact h _ _ (H.turn i hi fun f hf hq => ⟨⟨ht.os, ht.tape, ht.output, Nat.le_of_eq ht.size.symm, fun k _ hk => ht.block k fun e => hk ((hf.1 k).2 e)⟩, f, ⟨hf.1, setBlock_at _ hlt⟩, fun k hk => ⟨.inl hk, by rw [ht.size]; exact (hq k hk).1⟩⟩) (hok.put hdn hf _)
 ·refine wpList_run hg (v := nxV s p) (w' := w) ?_ ?_
  ·unfold execOp
   simp [ho, hok.sl.ev hx, Instr.next, getObj, Sem.run, hc.2, hp, nxV]
  ·rw [hd]
   exact h _ _ (H.turn i hi fun f hf hq => ⟨Frm.refl _ _, f, ⟨hf.1, by rw [nxP, if_neg hp]; exact hf.2⟩, fun k hk => ⟨.inl hk, (hq k hk).1⟩⟩) (hok.put hdn hf _)

theorem h_istore (T : Tab P) (hok : PsD ds ops n S G a) (H : Hf I0 D w0 I w cs) (i : Nat) (f : Option Nat → List Value) (l : List Nat) {t e b : Nat} {g : Bool} {p x : Operand} {q : Option Nat} {v : Value} {cl : List Value} (hi : cs[i]? = some (BxC b e cl)) (hg : o.guard = none) (ho : o.op = .store t p x) (hd : o.dst = none)
  (hp : evS S p = some (iptV b q)) (hx : evS S x = some v) (hus : v.cells = #[v]) (ht : T.sz t = some (1, g)) (h1 : v.oneCell' = true) (hq : q.any l.contains = true) (hl : StL cl f v l)
  (h : ∀ w', Hf I0 D w0 I w' (BxC b e (f q) :: cs.eraseIdx i) → wpList P ops Q rest a w') : wpList P ops Q (o :: rest) a w := by
 cases q with
 | none => cases hq
 | some k => exact h_store T hok H i hi hg ho hd hp hx (us := [v]) hus ht rfl (by simpa using h1) (hl.get hq).2 (hl.get hq).1 h

end flow
end Go.Proofs.Ythmjkcdpbbcdgaa

namespace Go.Proofs.Ythmjkcdpbbcdgaa
open Go.RowKit
theorem Ob_apix {P : Program} {ev : Operand → Option Value} {o : Oper} {w : World} {t n e m : Nat} {x i : Operand} {b off : Nat} {k : IntKind} {z : Int} (j : Nat) (ho : o.op = .indexAddr t x i) (hx : ev x = some (.pointer (some ⟨b, off, none⟩))) (hi : ev i = some (.int k z)) (hu : P.underlying t = some (.array n e)) (hs : (P.info? e).map (·.size) = some m) (hz : z = (j : Int)) (hj : j < n) :
  Ob P ev o (.pointer (some ⟨b, off + j * m, none⟩)) w := by
 intro ρ hρ
 obtain ⟨inf, hinf, hm⟩ := Option.map_eq_some_iff.1 hs
 subst hz
 unfold execOp
 have h1 : (0 : Int) ≤ (j : Int) ∧ (j : Int) < (n : Int) := by omega
 simp [ho, hρ _ _ hx, hρ _ _ hi, Instr.indexAt, Instr.sureAddr, asIntOf, run_underlying hu, run_sizeOf_of hinf, hj, addr_add, hm]

end Go.Proofs.Ythmjkcdpbbcdgaa

