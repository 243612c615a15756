/- Elements of owned slices with parts: stores into them, looks at them in regions of any order; slices of bytes that a string came to. No program is named here. -/
import Derived.Test.YtfefmdllnjpmgaaYQU
import Derived.Test.YtfefmdllnjpmgaaYS
import Derived.Laws.IdiomStrings
namespace Go.Proofs.Ytfefmdllnjpmgaa
open Go.RowKit

section
variable {I0 D : Dm} {w0 : World} {I : Dm} {w : World} {cs : List Ch} {α : Type} {R : Rp α}
section
variable {ds : List Deferred} {P : Program} (T : Tab P) {ops : Array Oper} {Q : Exit → Act → World → Prop} {a : Act} {rest : List Oper} {o : Oper} {n : Nat} {S : Slots} {G : List GV}
end
end

-- slices of bytes that a string came to
def bytesI (s : ByteArray) : List Int := s.data.toList.map fun b => (b.toNat : Int)

theorem bytesI_len (s : ByteArray) : (bytesI s).length = s.size := by rw [bytesI, List.length_map, Array.length_toList]; rfl

def ByC (v : Value) (l : List Int) : Ch where
 P I w fp := ∃ g cap, v = .slice (some ⟨g, 0, none⟩) l.length cap ∧ l.length ≤ cap ∧ cap ≤ maxLen ∧ (∀ k, fp k ↔ k = g) ∧ g < w.heap.size ∧ ∀ j (h : j < l.length), w.cell? ⟨g, j, none⟩ = some (.int .u8 l[j]) ∧ w.frozen? ⟨g, j, none⟩ = false
 keep := fun ⟨g, cap, h1, h2, h3, h4, h5, h6⟩ hI hk => ⟨g, cap, h1, h2, h3, h4, Nat.lt_of_lt_of_le h5 hk.1, fun j h => by
  have hb := hk.2 g (.inr ((h4 g).2 rfl)) h5
  exact ⟨(World.cell?_of_block (a := ⟨g, j, none⟩) hb).trans (h6 j h).1, (World.frozen?_of_block (a := ⟨g, j, none⟩) hb).trans (h6 j h).2⟩⟩
 pur := false
 hpur := fun h => by cases h

section
variable {I0 D : Dm} {w0 : World} {I : Dm} {w : World} {cs : List Ch} {v : Value} {l : List Int}
theorem Hf.by8 (H : Hf I0 D w0 I w cs) (i : Nat) (hi : cs[i]? = some (ByC v l)) : ∃ g cap, v = .slice (some ⟨g, 0, none⟩) l.length cap ∧ l.length ≤ cap ∧ cap ≤ maxLen ∧ g < w.heap.size ∧ ∀ j (h : j < l.length), w.cell? ⟨g, j, none⟩ = some (.int .u8 l[j]) ∧ w.frozen? ⟨g, j, none⟩ = false := by
 obtain ⟨f, ⟨g, cap, h1, h2, h3, h4, h5, h6⟩, _⟩ := H.get i hi
 exact ⟨g, cap, h1, h2, h3, h5, h6⟩

theorem Hf.byshape (H : Hf I0 D w0 I w cs) (i : Nat) (hi : cs[i]? = some (ByC v l)) : slS v l.length := by
 obtain ⟨g, cap, h1, h2, h3, _⟩ := H.by8 i hi
 exact ⟨_, cap, h1, h2, h3⟩

theorem Hf.byA (H : Hf I0 D w0 I w cs) (i : Nat) (hi : cs[i]? = some (ByC v l)) : slRep Nu8 (fun k => k < w.heap.size) w v l := by
 obtain ⟨g, cap, h1, h2, h3, h5, h6⟩ := H.by8 i hi
 refine ⟨_, g, 0, cap, h1, h2, h3, fun _ => ⟨rfl, h5, h5⟩, fun j hj => ⟨[.int .u8 l[j]], ⟨rfl, trivial⟩, fun q hq => ?_⟩⟩
 have : q = 0 := by simp at hq; omega
 subst this
 have e : 0 + j * Nu8.n + 0 = j := by show 0 + j * 1 + 0 = j; omega
 rw [e]
 exact (h6 j hj).1

theorem Hf.truncBy (H : Hf I0 D w0 I w cs) (i : Nat) (hi : cs[i]? = some (ByC v l)) {j : Int} (hj : (0 : Int) ≤ j ∧ j ≤ (l.length : Int)) (m : Nat) : Hf I0 D w0 I w (ByC (subV v 0 j.toNat m) (l.take j.toNat) :: cs.eraseIdx i) :=
 H.as i hi fun f hf hk => by
  obtain ⟨g, cap, rfl, h2, h3, h4, h5, h6⟩ := hf
  have hl : (l.take j.toNat).length = j.toNat := by simp; omega
  refine ⟨f, ⟨g, cap, ?_, by omega, h3, h4, h5, fun q hq => ?_⟩, fun _ h => h⟩
  ·rw [hl]
   unfold subV subA
   simp only [Nat.sub_zero, Option.map_some, Addr.add, Nat.zero_mul, Nat.add_zero]
   split <;> rfl
  ·have := h6 q (by omega)
   rw [List.getElem_take]
   exact this

theorem run_b2i {P : Program} {A : Dm} {src dst e : Nat} (hs : P.underlying src = some (.slice e)) (he : P.underlying e = some (.int .u8)) (hd : P.underlying dst = some .string) (h : slRep Nu8 A w v l) : (convert src dst v).run P w = .ok (.string (strI l)) w := by
 obtain ⟨ao, b, off, cap, rfl, hc, hm, hb, hx⟩ := h
 rw [run_convert_bytes_string w src dst e ao l.length cap hs he hd]
 by_cases h0 : 0 < l.length
 ·obtain ⟨rfl, _, _⟩ := hb h0
  have hl : (loadCells ⟨b, off, none⟩ l.length).run P w = .ok (l.map (Value.int .u8)).toArray w := by
   have := run_loadCells_list (P := P) w ⟨b, off, none⟩ (l.map (Value.int .u8)) (fun j v hj => by
    rw [List.getElem?_map] at hj
    obtain ⟨x, hx1, rfl⟩ := Option.map_eq_some_iff.1 hj
    obtain ⟨hjl, rfl⟩ := List.getElem?_eq_some_iff.1 hx1
    obtain ⟨cl, ⟨rfl, _⟩, h2⟩ := hx j hjl
    have h3 := h2 0 (by simp)
    rw [addr_add]
    simpa [Nu8, Rp.flat] using h3)
   rw [List.length_map] at this
   exact this
  rw [run_bytesToString w _ _ _ _ hl, strI_fold]
  simp [strI]
 ·have : l = [] := List.eq_nil_of_length_eq_zero (by omega)
  subst this
  cases ao with
  | none => simp [Conv.bytesToString, strI]; rfl
  | some ad =>
   have hl : (loadCells ad 0).run P w = .ok (([] : List Int).map (Value.int .u8)).toArray w := run_loadCells_list (P := P) w ad [] (fun j v hj => by simp at hj)
   rw [List.length_nil, run_bytesToString w _ _ _ _ hl]
   rfl

section
variable {ds : List Deferred} {P : Program} (T : Tab P) {ops : Array Oper} {Q : Exit → Act → World → Prop} {a : Act} {rest : List Oper} {o : Oper} {n : Nat} {S : Slots} {G : List GV}
theorem h_s2b (hok : PsD ds ops n S G a) (H : Hf I0 D w0 I w cs) {d src dst e : Nat} {x : Operand} {s : ByteArray} (hg : o.guard = none) (ho : o.op = .convert src dst x) (hd : o.dst = some d) (hdn : d < n) (hf : gFree ops G d = true) (hx : evS S x = some (.string s))
  (hs : P.underlying src = some .string) (hdd : P.underlying dst = some (.slice e)) (he : P.underlying e = some (.int .u8)) (hz : s.size ≤ 140737488355328)
  (h : ∀ v a' w', Hf I0 D w0 I w' (ByC v (bytesI s) :: cs) → PsD ds ops n ((d, v) :: S) G a' → wpList P ops Q rest a' w') : wpList P ops Q (o :: rest) a w := by
 have hr := run_bytes_of_string (P := P) w src dst e s hs hdd he
 have hge := grownCap_ge w s.size 0 e
 have hle := grownCap_le_maxLen w s.size 0 e (by unfold maxLen; omega)
 generalize grownCap w s.size 0 e = cap at *
 refine wpList_run hg (v := .slice (some ⟨w.heap.size, 0, none⟩) s.size cap) (w' := w.drew.alloc (.cells (bytesRow s cap) e ((bytesRow s cap).size, (bytesRow s cap).size + 1))) ?_ ?_
 ·unfold execOp
  simp [ho, hok.sl.ev hx, hr]
 ·rw [hd]
  refine h _ _ _ (H.new (((Below.refl _ w).alloc (Nat.le_refl _) _).drew) (f := fun k => k = w.heap.size) ⟨w.heap.size, cap, by rw [bytesI_len], by rw [bytesI_len]; exact hge, hle, fun _ => Iff.rfl, by simp, fun j hj => ?_⟩ fun k hk => by subst hk; exact ⟨Nat.le_refl _, by simp⟩) (hok.put hdn hf _)
  have hj' : j < s.data.size := by rw [bytesI_len] at hj; exact hj
  refine ⟨?_, ?_⟩
  ·refine (World.cell?_alloc_mark w.drew (bytesRow s cap) e _ j).trans ?_
   rw [bytesRow_at s cap j hj']
   simp [bytesI]
  ·refine (World.frozen?_alloc_mark w.drew (bytesRow s cap) e _ _ j).trans ?_
   have : j < (bytesRow s cap).size := by unfold bytesRow; simp only [Array.size_append, Array.size_map, Array.size_replicate]; omega
   rw [decide_eq_false (by omega)]; rfl

theorem h_setBy (hok : PsD ds ops n S G a) (H : Hf I0 D w0 I w cs) (i : Nat) {t : TypeId} {p x : Operand} {u z : Int} (hi : cs[i]? = some (ByC v l))
  (hz : 0 ≤ z ∧ z < (l.length : Int)) (hg : o.guard = none) (ho : o.op = .store t p x) (hd : o.dst = none) (hp : evS S p = some (.pointer (some ⟨blkOf v, oofOf v + z.toNat * 1, none⟩))) (hx : evS S x = some (.int .u8 u)) (ht : T.sz t = some (1, false))
  (h : ∀ w', Hf I0 D w0 I w' (ByC v (l.set z.toNat u) :: cs.eraseIdx i) → wpList P ops Q rest a w') : wpList P ops Q (o :: rest) a w := by
 obtain ⟨g, cap, rfl, h2, h3, h5, h6⟩ := H.by8 i hi
 have hk : z.toNat < l.length := by omega
 have e1 : blkOf (.slice (some ⟨g, 0, none⟩) l.length cap) = g := rfl
 have e2 : oofOf (.slice (some ⟨g, 0, none⟩) l.length cap) + z.toNat * 1 = z.toNat := by show 0 + z.toNat * 1 = _; omega
 rw [e1, e2] at hp
 obtain ⟨c1, c2⟩ := h6 z.toNat hk
 refine wpList_skip hg (w' := w.setCell ⟨g, z.toNat, none⟩ (.int .u8 u)) ?_ hd (h _ (H.turn i hi fun f hf hkk => ?_))
 ·unfold execOp
  have hsz := (T.hsz ht w).2
  have hst : (store ⟨g, z.toNat, none⟩ (.int .u8 u)).run P w = .ok () (w.setCell ⟨g, z.toNat, none⟩ (.int .u8 u)) := by simp [store, Sem.run, c1, c2]
  simp [ho, hok.sl.ev hp, hok.sl.ev hx, Instr.storeAt, Instr.sureAddr, storeVar, hsz, Value.cells, storeCells]
  rw [show (Addr.add ⟨g, z.toNat, none⟩ 0) = ⟨g, z.toNat, none⟩ by simp [Addr.add]]
  simp [hst]
 ·obtain ⟨g', cap', hv, _, _, h4, _, _⟩ := hf
  injection hv with q1 _ _
  injection q1 with q1
  injection q1 with q1
  subst q1
  refine ⟨⟨rfl, rfl, rfl, by simp, fun k _ hne => Below.heap_setCell w _ _ k fun e => hne ((h4 k).2 e)⟩, f, ⟨g, cap, by rw [List.length_set], by rw [List.length_set]; exact h2, h3, h4, by simpa using h5, fun j hj => ?_⟩, fun k hk' => ⟨.inl hk', by rw [(h4 k).1 hk']; simpa using h5⟩⟩
  rw [List.length_set] at hj
  refine ⟨?_, (World.frozen?_setCell _ _ _ _).trans (h6 j hj).2⟩
  rw [List.getElem_set]
  by_cases q : z.toNat = j
  ·subst q
   rw [if_pos rfl]
   exact World.cell?_setCell_same _ _ _ c1
  ·rw [if_neg q]
   exact (World.cell?_setCell_other _ _ _ _ fun e => q (by injection e)).trans (h6 j hj).1

end
end
end Go.Proofs.Ytfefmdllnjpmgaa
