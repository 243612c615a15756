/- Steps of a walk by rules, the rest: memory, calls, the flow of control. No program is named here. -/
import Derived.Test.YtglfajjcgbfehaaGreatSt
import Derived.IntWalk
namespace Go.Proofs.YtglfajjcgbfehaaGreat
open Go.RowKit
variable {ds : List Deferred}

/-- block b is cells of the call's own -/
def Box (w : World) (b : Nat) (t : TypeId) (cs : List Value) : Prop := w.heap[b]? = some (.cells cs.toArray t (0, 0))

theorem Box.lt {w : World} {b : Nat} {t : TypeId} {cs : List Value} (h : Box w b t cs) : b < w.heap.size := (Array.getElem?_eq_some_iff.1 h).1

theorem Box.keep {w w' : World} {b : Nat} {t : TypeId} {cs : List Value} (h : Box w b t cs) (hb : w'.heap[b]? = w.heap[b]?) : Box w' b t cs := hb.trans h

/-- cells from a place on -/
def At (w : World) (b off : Nat) (cs : List Value) : Prop := ∀ j v, cs[j]? = some v → w.cell? ⟨b, off + j, none⟩ = some v

theorem Box.at {w : World} {b : Nat} {t : TypeId} {cs : List Value} (h : Box w b t cs) : At w b 0 cs := fun j v hv => by
 unfold World.cell?
 simp only [show w.heap[b]? = some (.cells cs.toArray t (0, 0)) from h]
 simpa using hv

theorem Box.cell {w : World} {b : Nat} {t : TypeId} {cs : List Value} (h : Box w b t cs) (j : Nat) {v : Value} (hv : cs[j]? = some v) : w.cell? ⟨b, j, none⟩ = some v := by
 have := h.at j v hv
 rwa [Nat.zero_add] at this

theorem Box.part {w : World} {b : Nat} {t : TypeId} {cs : List Value} (h : Box w b t cs) (off : Nat) {ds : List Value} (e : (cs.drop off).take ds.length = ds) : At w b off ds := fun j v hv => by
 refine h.cell (off + j) ?_
 rw [← e] at hv
 rw [List.getElem?_take] at hv
 split at hv
 ·rwa [List.getElem?_drop] at hv
 ·cases hv

/-- of what was there, block b alone has turned -/
structure Turn (b : Nat) (w w' : World) : Prop where
 os : w'.os = w.os
 tape : w'.tape = w.tape
 output : w'.output = w.output
 size : w'.heap.size = w.heap.size
 block : ∀ k, k ≠ b → w'.heap[k]? = w.heap[k]?

theorem Turn.keep {b : Nat} {w w' : World} (h : Turn b w w') {A : Nat → Prop} (hA : ¬ A b) : Keep A w w' := ⟨by rw [h.size]; exact Nat.le_refl _, fun k ha _ => h.block k (fun e => hA (e ▸ ha))⟩

/-- cells written from a place on -/
def putCells : List Value → Nat → List Value → List Value
 | cs, _, [] => cs
 | cs, i, v :: r => putCells (cs.set i v) (i + 1) r

section obs
variable {P : Program} (T : Tab P) {ev : Operand → Option Value} {o : Oper} {w : World}

theorem Ob_c {v : Value} (h : cval T ev o.op = some v) : Ob P ev o v w := cval_ob T ev o v h w

theorem Ob_load {t : Nat} {x : Operand} {b off : Nat} {v : Value} (ho : o.op = .load t x) (hx : ev x = some (.pointer (some ⟨b, off, none⟩))) {n : Nat} (ht : T.sz t = some (n, false)) (hc : w.cell? ⟨b, off, none⟩ = some v) : Ob P ev o v w := by
 intro ρ hρ
 unfold execOp
 simp [ho, hρ _ _ hx, Instr.loadAt, Instr.sureAddr, loadVar, (T.hsz ht w).1, load, Sem.run, hc]

theorem run_loadCellsFrom {w : World} {b off : Nat} : ∀ (cs : List Value) (i : Nat) (acc : Array Value), (∀ j v, cs[j]? = some v → w.cell? ⟨b, off + (i + j), none⟩ = some v) → (loadCellsFrom ⟨b, off, none⟩ i cs.length acc).run P w = .ok (acc ++ cs.toArray) w
 | [], i, acc, _ => by simp [loadCellsFrom]
 | c :: cs, i, acc, h => by
  have h0 := h 0 c rfl
  rw [Nat.add_zero] at h0
  have ih := run_loadCellsFrom cs (i + 1) (acc.push c) (fun j v hv => by
   have := h (j + 1) v (by simpa using hv)
   rwa [show i + (j + 1) = i + 1 + j by omega] at this)
  simp only [List.length_cons, loadCellsFrom, addr_add, Sem.run_bind]
  simp [load, Sem.run, h0, ih]

theorem run_loadVar_agg {t : Nat} {b off : Nat} {cs : List Value} (ht : T.sz t = some (cs.length, true)) (hc : At w b off cs) : (loadVar t ⟨b, off, none⟩).run P w = .ok (.agg cs.toArray) w := by
 have h1 := T.hsz ht w
 have h2 := run_loadCellsFrom (P := P) (w := w) (b := b) (off := off) cs 0 #[] (fun j v hv => by rw [Nat.zero_add]; exact hc j v hv)
 simp only [loadVar, Sem.run_bind, h1.1, Result.andThen_ok, if_true, h1.2, loadCells, h2]
 simp

theorem Ob_loads {t : Nat} {x : Operand} {b off : Nat} {cs : List Value} (ho : o.op = .load t x) (hx : ev x = some (.pointer (some ⟨b, off, none⟩))) (ht : T.sz t = some (cs.length, true)) (hc : At w b off cs) : Ob P ev o (.agg cs.toArray) w := by
 intro ρ hρ
 unfold execOp
 simp [ho, hρ _ _ hx, Instr.loadAt, Instr.sureAddr, run_loadVar_agg T ht hc]

/-- the base of a slice -/
def bOf (ao : Option Addr) : Nat := match ao with | some a => a.block | none => 0

def oOf (ao : Option Addr) : Nat := match ao with | some a => a.off | none => 0

theorem getD_get {α : Type} (l : List α) (k : Nat) (d : α) (h : k < l.length) : l.getD k d = l[k] := by simp [List.getD, List.getElem?_eq_getElem h]

theorem elt {α : Type} [Inhabited α] {R : Rp α} {A : Nat → Prop} {ao : Option Addr} {n cap : Nat} {l : List α} (h : slRep R A w (.slice ao n cap) l) (k : Nat) (hk : k < l.length) : ao = some ⟨bOf ao, oOf ao, none⟩ ∧ (A (bOf ao) ∧ bOf ao < w.heap.size) ∧ ∃ cs, R.rep A w cs (l.getD k default) ∧ At w (bOf ao) (oOf ao + k * R.n) cs := by
 obtain ⟨ao', b, off, cap', hv, hc, hm, hb, hx⟩ := h
 injection hv with e1 e2 e3
 subst e1
 obtain ⟨rfl, h2, h3⟩ := hb (by omega)
 obtain ⟨cs, h4, h5⟩ := hx k hk
 refine ⟨rfl, ⟨h2, h3⟩, cs, by rw [getD_get _ _ _ hk]; exact h4, fun j v hj => ?_⟩
 obtain ⟨h6, h7⟩ := List.getElem?_eq_some_iff.1 hj
 rw [← h7]
 exact h5 j h6

theorem slRep.shape {α : Type} {R : Rp α} {A : Nat → Prop} {v : Value} {l : List α} (h : slRep R A w v l) : ∃ ao cap, v = .slice ao l.length cap ∧ l.length ≤ cap ∧ cap ≤ maxLen := by
 obtain ⟨ao, b, off, cap, hv, hc, hm, _⟩ := h
 exact ⟨ao, cap, hv, hc, hm⟩

theorem At.part {b off : Nat} {cs : List Value} (h : At w b off cs) (j : Nat) {ds : List Value} (e : (cs.drop j).take ds.length = ds) : At w b (off + j) ds := fun i v hv => by
 rw [← e, List.getElem?_take] at hv
 split at hv
 ·rw [List.getElem?_drop] at hv
  have := h (j + i) v hv
  rwa [← Nat.add_assoc] at this
 ·cases hv

theorem Ob_idx {t : Nat} {x i : Operand} {b off len cap : Nat} {k : IntKind} {z : Int} {e m : Nat} (j : Nat) (ho : o.op = .indexAddr t x i) {ao : Option Addr} (hx : ev x = some (.slice ao len cap)) (hao : ao = some ⟨b, off, none⟩) (hi : ev i = some (.int k z)) (ht : T.sl t = some (e, m)) (hz : z = (j : Int)) (hj : j < len) :
  Ob P ev o (.pointer (some ⟨b, off + j * m, none⟩)) w := by
 intro ρ hρ
 obtain ⟨hu, inf, hinf, hm⟩ := T.hsl ht
 subst hz
 subst hao
 unfold execOp
 have h1 : (0 : Int) ≤ (j : Int) ∧ (j : Int) < (len : Int) := by omega
 simp [ho, hρ _ _ hx, hρ _ _ hi, Instr.indexAt, asIntOf, run_underlying hu, run_sizeOf_of hinf, hj, addr_add, hm]

theorem Ob_add {t t2 : Nat} {x y : Operand} {k : IntKind} {a b c : Int} (ho : o.op = .binOp .add t x y t2) (hx : ev x = some (.int k a)) (hy : ev y = some (.int k b)) (hc : k.wrap (a + b) = c) : Ob P ev o (.int k c) w := by
 intro ρ hρ
 subst hc
 unfold execOp
 simp [ho, hρ _ _ hx, hρ _ _ hy, eqGuard, binOp, Op.intArith]

theorem Ob_sub {t t2 : Nat} {x y : Operand} {k : IntKind} {a b c : Int} (ho : o.op = .binOp .sub t x y t2) (hx : ev x = some (.int k a)) (hy : ev y = some (.int k b)) (hc : k.wrap (a - b) = c) : Ob P ev o (.int k c) w := by
 intro ρ hρ
 subst hc
 unfold execOp
 simp [ho, hρ _ _ hx, hρ _ _ hy, eqGuard, binOp, Op.intArith]

theorem Ob_quo {t t2 : Nat} {x y : Operand} {k : IntKind} {a b c : Int} (ho : o.op = .binOp .quo t x y t2) (hx : ev x = some (.int k a)) (hy : ev y = some (.int k b)) (h0 : b ≠ 0) (hc : k.wrap (a.tdiv b) = c) : Ob P ev o (.int k c) w := by
 intro ρ hρ
 subst hc
 unfold execOp
 simp [ho, hρ _ _ hx, hρ _ _ hy, eqGuard, binOp, Op.intDiv, h0]

theorem Ob_bin {op : BinOp} {t t2 : Nat} {x y : Operand} {u v r : Value} (ho : o.op = .binOp op t x y t2) (hx : ev x = some u) (hy : ev y = some v) (hg : (eqGuard op t x y u v).run P w = .ok () w) (hr : (binOp op t u v).run P w = .ok r w) : Ob P ev o r w := by
 intro ρ hρ
 unfold execOp
 simp [ho, hρ _ _ hx, hρ _ _ hy, hg, hr]

theorem Ob_sl {t : Nat} {x : Operand} {lo hi mx : Option Operand} {v r : Value} {l h m : Option Value} (ho : o.op = .slice t x lo hi mx) (hx : ev x = some v) (hl : lo.bind ev = l) (hlo : l.isSome = lo.isSome) (hh : hi.bind ev = h) (hhi : h.isSome = hi.isSome) (hm : mx.bind ev = m) (hmx : m.isSome = mx.isSome)
  (hr : (Instr.sliceAt t v l h m).run P w = .ok r w) : Ob P ev o r w := by
 intro ρ hρ
 unfold execOp
 have key : ∀ (x : Option Operand) (v : Option Value), x.bind ev = v → v.isSome = x.isSome → x.map ρ = v := by
  intro x v h1 h2
  cases x with
  | none => subst h1; rfl
  | some x =>
   simp only [Option.bind_some] at h1
   cases v with
   | none => simp at h2
   | some v => simp [hρ _ _ h1]
 simp [ho, hρ _ _ hx, key _ _ hl hlo, key _ _ hh hhi, key _ _ hm hmx, hr]

theorem run_sliceAt_slice {t e : Nat} (hu : P.underlying t = some (.slice e)) (v : Value) (l h m : Option Value) : (Instr.sliceAt t v l h m).run P w = (Instr.slice t v l h m).run P w := by
 simp [Instr.sliceAt, run_underlying hu]

theorem Ob_sl_from {t e m : Nat} {x lo : Operand} {ao : Option Addr} {len cap : Nat} {z : Int} (i : Nat) (ho : o.op = .slice t x (some lo) none none) (hx : ev x = some (.slice ao len cap)) (hlo : ev lo = some (.int .i64 z)) (ht : T.sl t = some (e, m)) (hz : z = i) (hi : i ≤ len) (hc : len ≤ cap) :
  Ob P ev o (.slice (subA ao cap i m) (len - i) (cap - i)) w := by
 obtain ⟨hu, inf, hinf, hm⟩ := T.hsl ht
 refine Ob_sl (l := some (.int .i64 z)) (h := none) (m := none) ho hx hlo rfl rfl rfl rfl rfl ?_
 rw [run_sliceAt_slice hu]
 exact run_sub_from hu (by rw [hinf]; simp [hm]) ao len cap i z hz hi hc w

theorem Ob_sl_to {t e m : Nat} {x hi : Operand} {ao : Option Addr} {len cap : Nat} {z : Int} (j : Nat) (ho : o.op = .slice t x none (some hi) none) (hx : ev x = some (.slice ao len cap)) (hhi : ev hi = some (.int .i64 z)) (ht : T.sl t = some (e, m)) (hz : z = j) (hj : j ≤ cap) :
  Ob P ev o (.slice (subA ao cap 0 m) j cap) w := by
 obtain ⟨hu, inf, hinf, hm⟩ := T.hsl ht
 refine Ob_sl (l := none) (h := some (.int .i64 z)) (m := none) ho hx rfl rfl hhi rfl rfl rfl ?_
 rw [run_sliceAt_slice hu]
 exact run_sub_to hu (by rw [hinf]; simp [hm]) ao len cap j z hz hj w

theorem Ob_build {t : Nat} {ps : Array (Nat × Operand)} {vs : List (Nat × Value)} {r : Value} (ho : o.op = .build t ps) (hx : (ps.toList.mapM fun p => (ev p.2).map fun v => (p.1, v)) = some vs) (hr : (Instr.build t vs.toArray).run P w = .ok r w) : Ob P ev o r w := by
 intro ρ hρ
 have hm : ∀ (l : List (Nat × Operand)) (vs : List (Nat × Value)), (l.mapM fun p => (ev p.2).map fun v => (p.1, v)) = some vs → l.map (fun p => (p.1, ρ p.2)) = vs := by
  intro l
  induction l with
  | nil => intro vs h; simp at h; simp [h]
  | cons p l ih =>
   intro vs h
   simp only [List.mapM_cons, Option.bind_eq_bind, Option.bind_eq_some_iff] at h
   obtain ⟨u, hu, us, hus, h⟩ := h
   injection h with h; subst h
   obtain ⟨v, hv, rfl⟩ := Option.map_eq_some_iff.1 hu
   rw [List.map_cons, hρ _ _ hv, ih _ hus]
 have e1 : (ps.map fun (i, x) => (i, ρ x)) = vs.toArray := by
  apply Array.toList_inj.1
  rw [Array.toList_map, ← hm _ _ hx]
 unfold execOp
 simp only [ho, e1, Sem.run_bind, hr, Result.andThen_ok]
 rfl

end obs

section rules
variable {P : Program} (T : Tab P) {ops : Array Oper} {Q : Exit → Act → World → Prop} {a : Act} {w : World} {rest : List Oper} {o : Oper} {n : Nat} {S : Slots} {G : List GV}

theorem wpList_run (hg : o.guard = none) {v : Value} {w' : World} (hr : (execOp a.eval o).run P w = .ok (.value v) w') (h : wpList P ops Q rest (a.put o.dst v) w') : wpList P ops Q (o :: rest) a w := by
 unfold wpList
 rw [if_pos (wanted_none hg _)]
 left
 unfold Oper.wp
 rw [hr]
 exact h

theorem wpList_skip (hg : o.guard = none) {w' : World} (hr : (execOp a.eval o).run P w = .ok .skip w') (hd : o.dst = none) (h : wpList P ops Q rest a w') : wpList P ops Q (o :: rest) a w := by
 unfold wpList
 rw [if_pos (wanted_none hg _)]
 left
 unfold Oper.wp
 rw [hr, Oper.upon_skip, hd]
 exact h

/-- what a new block is -/
theorem new_box (w : World) (cs : List Value) (t : TypeId) : (w.alloc (.cells cs.toArray t)).heap.size = w.heap.size + 1 ∧ Below w.heap.size w (w.alloc (.cells cs.toArray t)) ∧ Box (w.alloc (.cells cs.toArray t)) w.heap.size t cs :=
 ⟨by simp, (Below.refl _ w).alloc (Nat.le_refl _) _, heap_alloc_new w _⟩

theorem s_alloc (hok : PsD ds ops n S G a) {d t : Nat} {z : Value} {cs : List Value} (hg : o.guard = none) (ho : o.op = .alloc t) (hd : o.dst = some d) (hdn : d < n) (hf : gFree ops G d = true)
  (hz : (P.info? t).map (·.zero) = some (some z)) (hcs : z.cells = cs.toArray)
  (h : ∀ a' w' b, b = w.heap.size → w'.heap.size = b + 1 → Below w.heap.size w w' → Box w' b t cs → PsD ds ops n ((d, .pointer (some ⟨b, 0, none⟩)) :: S) G a' → wpList P ops Q rest a' w') : wpList P ops Q (o :: rest) a w := by
 obtain ⟨h1, h2, h3⟩ := new_box w cs t
 obtain ⟨i, hi, hzz⟩ := Option.map_eq_some_iff.1 hz
 refine wpList_run hg (v := .pointer (some ⟨w.heap.size, 0, none⟩)) (w' := w.alloc (.cells cs.toArray t)) ?_ ?_
 ·unfold execOp
  simp [ho, Instr.alloc, zeroValue, typeInfo, hi, hzz, newVar, newRow, hcs]
 ·rw [hd]
  exact h _ _ _ rfl h1 h2 h3 (hok.put hdn hf _)

theorem s_boxv (hok : PsD ds ops n S G a) {d t : Nat} {x : Operand} {v : Value} {cs : List Value} (hg : o.guard = none) (ho : o.op = .box t x) (hd : o.dst = some d) (hdn : d < n) (hf : gFree ops G d = true)
  (hx : evS S x = some v) (hcs : v.cells = cs.toArray)
  (h : ∀ a' w' b, b = w.heap.size → w'.heap.size = b + 1 → Below w.heap.size w w' → Box w' b t cs → PsD ds ops n ((d, .pointer (some ⟨b, 0, none⟩)) :: S) G a' → wpList P ops Q rest a' w') : wpList P ops Q (o :: rest) a w := by
 obtain ⟨h1, h2, h3⟩ := new_box w cs t
 refine wpList_run hg (v := .pointer (some ⟨w.heap.size, 0, none⟩)) (w' := w.alloc (.cells cs.toArray t)) ?_ ?_
 ·unfold execOp
  simp [ho, Instr.box, newVar, newRow, hok.sl.ev hx, hcs]
 ·rw [hd]
  exact h _ _ _ rfl h1 h2 h3 (hok.put hdn hf _)

/-- a slice written out -/
theorem s_bslice (hok : PsD ds ops n S G a) {d t e k : Nat} {ps : Array (Nat × Operand)} {vs : List (Nat × Value)} {cs : List Value} (hg : o.guard = none) (ho : o.op = .buildSlice t k ps) (hd : o.dst = some d) (hdn : d < n) (hf : gFree ops G d = true)
  (hx : (ps.toList.mapM fun p => (evS S p.2).map fun v => (p.1, v)) = some vs)
  (hr : ∀ w : World, (Instr.buildSlice t k vs.toArray).run P w = .ok (.slice (some ⟨w.heap.size, 0, none⟩) k k) (w.alloc (.cells cs.toArray e)))
  (h : ∀ a' w' b, b = w.heap.size → w'.heap.size = b + 1 → Below w.heap.size w w' → Box w' b e cs → PsD ds ops n ((d, .slice (some ⟨b, 0, none⟩) k k) :: S) G a' → wpList P ops Q rest a' w') : wpList P ops Q (o :: rest) a w := by
 obtain ⟨h1, h2, h3⟩ := new_box w cs e
 have hm : ∀ (l : List (Nat × Operand)) (vs : List (Nat × Value)), (l.mapM fun p => (evS S p.2).map fun v => (p.1, v)) = some vs → l.map (fun p => (p.1, a.eval p.2)) = vs := by
  intro l
  induction l with
  | nil => intro vs h; simp at h; simp [h]
  | cons p l ih =>
   intro vs h
   simp only [List.mapM_cons, Option.bind_eq_bind, Option.bind_eq_some_iff] at h
   obtain ⟨u, hu, us, hus, h⟩ := h
   injection h with h; subst h
   obtain ⟨v, hv, rfl⟩ := Option.map_eq_some_iff.1 hu
   rw [List.map_cons, hok.sl.ev hv, ih _ hus]
 have e1 : (ps.map fun (i, x) => (i, a.eval x)) = vs.toArray := by
  apply Array.toList_inj.1
  rw [Array.toList_map, ← hm _ _ hx]
 refine wpList_run hg (v := .slice (some ⟨w.heap.size, 0, none⟩) k k) (w' := w.alloc (.cells cs.toArray e)) ?_ ?_
 ·unfold execOp
  simp only [ho, e1, Sem.run_bind, hr, Result.andThen_ok]
  rfl
 ·rw [hd]
  exact h _ _ _ rfl h1 h2 h3 (hok.put hdn hf _)

theorem run_storeCells_box {b : Nat} {t : TypeId} : ∀ (us : List Value) (i off : Nat) (cs : List Value) (w : World), Box w b t cs → off + i + us.length ≤ cs.length → (∀ u ∈ us, u.oneCell' = true) →
  ∃ w', (storeCells ⟨b, off, none⟩ us i).run P w = .ok () w' ∧ Box w' b t (putCells cs (off + i) us) ∧ Turn b w w'
 | [], i, off, cs, w, hb, _, _ => ⟨w, by simp [storeCells], hb, rfl, rfl, rfl, rfl, fun _ _ => rfl⟩
 | u :: us, i, off, cs, w, hb, hl, h1 => by
  simp only [List.length_cons] at hl
  have hlt : off + i < cs.length := by omega
  have hcell : w.cell? ⟨b, off + i, none⟩ = some cs[off + i] := hb.cell _ (by rw [List.getElem?_eq_getElem hlt])
  have hfz : w.frozen? ⟨b, off + i, none⟩ = false := by
   unfold World.frozen?
   simp only [show w.heap[b]? = some (.cells cs.toArray t (0, 0)) from hb]
   simp
  have hset : Box (w.setCell ⟨b, off + i, none⟩ u) b t (cs.set (off + i) u) := by
   unfold Box World.setCell
   simp only [Array.getElem?_modify, if_true, show w.heap[b]? = some (.cells cs.toArray t (0, 0)) from hb]
   simp
  obtain ⟨w', hr, hb', ht⟩ := run_storeCells_box us (i + 1) off (cs.set (off + i) u) (w.setCell ⟨b, off + i, none⟩ u) hset (by simp; omega) (fun x hx => h1 x (by simp [hx]))
  refine ⟨w', ?_, by simpa [putCells, Nat.add_assoc] using hb', ⟨ht.os, ht.tape, ht.output, by rw [ht.size]; simp [World.setCell], fun k hk => (ht.block k hk).trans (Below.heap_setCell _ _ _ _ hk)⟩⟩
  have h1c := h1 u (by simp)
  simp only [storeCells, addr_add, Sem.run_bind]
  have hst : (store ⟨b, off + i, none⟩ u).run P w = .ok () (w.setCell ⟨b, off + i, none⟩ u) := by
   cases u <;> first | (simp [Value.oneCell'] at h1c; done) | simp [store, Sem.run, hcell, hfz]
  rw [hst]
  exact hr

/-- a store into a block of the call's own -/
theorem s_store (hok : PsD ds ops n S G a) {t e b off m : Nat} {g : Bool} {p x : Operand} {v : Value} {cs us cs' : List Value} (hb : Box w b e cs) (hg : o.guard = none) (ho : o.op = .store t p x) (hd : o.dst = none)
  (hp : evS S p = some (.pointer (some ⟨b, off, none⟩))) (hx : evS S x = some v) (hus : v.cells = us.toArray) (ht : T.sz t = some (m, g)) (hm : us.length = m) (h1 : ∀ u ∈ us, u.oneCell' = true) (hlt : off + us.length ≤ cs.length) (hcs : putCells cs off us = cs')
  (h : ∀ w', Turn b w w' → Box w' b e cs' → wpList P ops Q rest a w') : wpList P ops Q (o :: rest) a w := by
 obtain ⟨w', hr, hb', htn⟩ := run_storeCells_box (P := P) us 0 off cs w hb (by omega) h1
 refine wpList_skip hg (w' := w') ?_ hd (h w' htn (by rw [← hcs]; simpa using hb'))
 unfold execOp
 have hsz := (T.hsz ht w).2
 simp [ho, hok.sl.ev hp, hok.sl.ev hx, Instr.storeAt, Instr.sureAddr, storeVar, hsz, hus, hm, hr]

/-- a function that has a body -/
def IsFn (P : Program) (f : Nat) : Prop := ∃ fn, P.funcs[f]? = some fn ∧ (fn.name == "runtime.NumGoroutine") = false ∧ fn.body.isNone = false

/-- the call returns, and what then holds -/
def Ret (R : Value → World → Prop) : Ending → World → Prop
 | .returned v, w => R v w
 | _, _ => False

theorem Ret.mono {f : Nat} {args : Array Value} {R R' : Value → World → Prop} (h : Calls P f args w (Ret R)) (hr : ∀ v w', R v w' → R' v w') : Calls P f args w (Ret R') :=
 h.mono fun e w' he => by cases e with
  | returned v => exact hr _ _ he
  | panicked c => exact he
  | outgrown => exact he

theorem evs_map {ev : Operand → Option Value} {ρ : Operand → Value} (hρ : ∀ x u, ev x = some u → ρ x = u) : ∀ (l : List Operand) (vs : List Value), l.mapM ev = some vs → l.map ρ = vs := by
 intro l
 induction l with
 | nil => intro vs h; simp at h; simp [h]
 | cons x l ih =>
  intro vs h
  simp only [List.mapM_cons, Option.bind_eq_bind, Option.bind_eq_some_iff] at h
  obtain ⟨u, hu, us, hus, h⟩ := h
  injection h with h; subst h
  rw [List.map_cons, hρ _ _ hu, ih _ hus]

theorem run_callv {ρ : Operand → Value} {f : Nat} (hf : IsFn P f) {c : Call} {fv : Operand} {caps args : Array Value} (ho : o.op = .call c) (hc : c.callee = .value fv) (hv : ρ fv = .func (.func f) #[] caps) (ha : c.args.map ρ = args) : (execOp ρ o).run P w = .ok (.enter f (args ++ caps)) w := by
 obtain ⟨fn, h1, h2, h3⟩ := hf
 unfold execOp
 have h2' : fn.name ≠ "runtime.NumGoroutine" := by simpa using h2
 have h3' : ¬ fn.body = none := by intro e; rw [e] at h3; cases h3
 simp [ho, resolve, hc, hv, ha, Deferred.ofValue, invoke, callFunc, h1, h2', h3']

theorem wpList_call (hg : o.guard = none) {f : Nat} {vs : Array Value} {R : Value → World → Prop} (hr : (execOp a.eval o).run P w = .ok (.enter f vs) w) (hc : Calls P f vs w (Ret R)) (h : ∀ v w', R v w' → wpList P ops Q rest (a.put o.dst v) w') : wpList P ops Q (o :: rest) a w := by
 unfold wpList
 rw [if_pos (wanted_none hg _)]
 left
 unfold Oper.wp
 rw [hr, Oper.upon_enter]
 refine hc.mono fun e w' he => ?_
 cases e with
 | returned v => exact h _ _ he
 | panicked c => exact he.elim
 | outgrown => exact he.elim

/-- a call, by the callee's contract -/
theorem s_call (hok : PsD ds ops n S G a) {d f : Nat} {c : Call} {fv : Operand} {caps : Array Value} {vs : List Value} {R : Value → World → Prop} (hf : IsFn P f) (hg : o.guard = none) (ho : o.op = .call c) (hcv : c.callee = .value fv) (hfv : evS S fv = some (.func (.func f) #[] caps)) (hd : o.dst = some d) (hdn : d < n) (hgf : gFree ops G d = true)
  (hx : c.args.toList.mapM (evS S) = some vs) (hc : Calls P f (vs.toArray ++ caps) w (Ret R))
  (h : ∀ v a' w', R v w' → PsD ds ops n ((d, v) :: S) G a' → wpList P ops Q rest a' w') : wpList P ops Q (o :: rest) a w := by
 have e1 : c.args.map a.eval = vs.toArray := by
  apply Array.toList_inj.1
  rw [Array.toList_map, evs_map (fun x u hx => hok.sl.ev hx) _ _ hx]
 refine wpList_call hg (run_callv hf ho hcv (hok.sl.ev hfv) e1) hc fun v w' hr => ?_
 rw [hd]
 exact h v _ _ hr (hok.put hdn hgf v)

/-- the first k of a region's operations only compute -/
theorem s_runk (hok : PsD ds ops n S G a) (k : Nat) {l : List Oper} {S' : Slots} (hl : dstsOk ops n G (l.take k) = true) (hv : cvals T (l.take k) S = some S') (h : ∀ a', PsD ds ops n S' G a' → wpList P ops Q (l.drop k) a' w) : wpList P ops Q l a w := by
 have := s_run (rest := l.drop k) T (l.take k) S a hok hl hv h
 rwa [List.take_append_drop] at this

/-- the end of a region: the slots that matter -/
theorem s_end (hok : PsD ds ops n S G a) (ts : List Nat) {S' : Slots} (e : pickS S ts = some S') (h : SlD ds n S' a → Q .normal a w) : wpList P ops Q [] a w :=
 h (hok.sl.sub e)

end rules

section flow
variable {P : Program} {Q : Exit → Act → World → Prop} {a : Act} {w : World} {n : Nat} {S : Slots}

theorem f_region {id : Nat} {l : List Oper} (hok : SlD ds n S a) (h : PsD ds l.toArray n S [] a → wpList P l.toArray Q l a w) : (Code.region id l.toArray false).wp P Q a w :=
 wp_region_list (h (PsD.start hok))

theorem f_cond {c : Operand} {x y : Code} {b : Bool} (hok : SlD ds n S a) (hc : evS S c = some (.bool b)) (ht : b = true → x.wp P Q a w) (hf : b = false → y.wp P Q a w) : (Code.cond c x y).wp P Q a w :=
 wp_cond_split (hok.ev hc) ht hf

theorem f_exit_here {id : Nat} (h : Q .normal a w) : Exit.inBlock id Q (.exit id) a w := by simp only [Exit.inBlock, if_true]; exact h

theorem enter_sl (args : List Value) (m : Nat) (hle : args.length ≤ m) : Sl m (args.zipIdx.map fun p => (p.2, p.1)) { tmps := args.toArray ++ Array.replicate (m - args.toArray.size) undef, defers := [] } := by
 refine ⟨rfl, ?_, fun t v hv => ?_⟩
 ·simp; omega
 ·have key : ∀ (l : List Value) (k t : Nat) (v : Value), ((l.zipIdx k).map fun p => (p.2, p.1)).lookup t = some v → k ≤ t ∧ l[t - k]? = some v := by
   intro l
   induction l with
   | nil => intro k t v h; simp at h
   | cons x l ih =>
    intro k t v h
    simp only [List.zipIdx_cons, List.map_cons] at h
    rw [lookup_cons] at h
    split at h
    ·rename_i e; subst e; injection h with h; subst h; simp
    ·rename_i hne
     obtain ⟨h1, h2⟩ := ih (k + 1) t v h
     refine ⟨by omega, ?_⟩
     rw [show t - k = (t - (k + 1)) + 1 by omega, List.getElem?_cons_succ]
     exact h2
  obtain ⟨_, h1⟩ := key args 0 t v hv
  rw [Nat.sub_zero] at h1
  have hlt := (List.getElem?_eq_some_iff.1 h1).1
  rw [Array.getElem?_append_left (by simpa using hlt)]
  simpa using h1

theorem f_enter {f : FuncId} {fn : Func} {c : Code} {args : List Value} {R : Ending → World → Prop} (m : Nat) (hf : P.funcs[f]? = some fn) (hm : fn.ntmps = m) (hb : fn.body = some c) (hle : args.length ≤ m)
  (h : ∀ a, Sl m (args.zipIdx.map fun p => (p.2, p.1)) a → c.wp P (bodyPost P fn R) a w) : Calls P f args.toArray w R :=
 calls_of_wp hf hb (h _ (by rw [hm]; exact enter_sl args m hle))

/-- a loop, by what its rounds turn -/
theorem f_loop {c : Code} {σ : Type} (I : σ → Act → World → Prop) (μ : σ → Nat) (s : σ) (h0 : I s a w) (round : ∀ s a w, I s a w → c.wp P (Exit.then (fun a' w' => ∃ s', I s' a' w' ∧ μ s' < μ s) Q) a w) : (Code.loop c).wp P Q a w := by
 have key : ∀ m, ∀ s a w, μ s = m → I s a w → (Code.loop c).wp P Q a w := by
  intro m
  induction m using Nat.strongRecOn with
  | _ m ih =>
   intro s a w hm hI
   refine wp_loop (fun a' w' => ∃ s', I s' a' w' ∧ μ s' ≤ m) (fun a' w' => Classical.epsilon fun k => (∃ s', I s' a' w' ∧ μ s' = k) ∧ ∀ j, (∃ s', I s' a' w' ∧ μ s' = j) → k ≤ j) ⟨s, hI, by omega⟩ ?_
   have least : ∀ a' w', (∃ s', I s' a' w') → ∃ k, (∃ s', I s' a' w' ∧ μ s' = k) ∧ ∀ j, (∃ s', I s' a' w' ∧ μ s' = j) → k ≤ j := by
    intro a' w' ⟨s', hs'⟩
    have : ∀ N, (∃ s', I s' a' w' ∧ μ s' ≤ N) → ∃ k, (∃ s', I s' a' w' ∧ μ s' = k) ∧ ∀ j, (∃ s', I s' a' w' ∧ μ s' = j) → k ≤ j := by
     intro N
     induction N with
     | zero => intro ⟨s', h1, h2⟩; exact ⟨0, ⟨s', h1, by omega⟩, fun j _ => Nat.zero_le j⟩
     | succ N ih =>
      intro ⟨s', h1, h2⟩
      by_cases hex : ∃ s', I s' a' w' ∧ μ s' ≤ N
      ·exact ih hex
      ·refine ⟨μ s', ⟨s', h1, rfl⟩, fun j ⟨s2, h3, h4⟩ => ?_⟩
       refine Nat.le_of_not_lt fun hlt => hex ⟨s2, h3, by omega⟩
    exact this _ ⟨s', hs', Nat.le_refl _⟩
   intro a1 w1 ⟨s1, hI1, _⟩
   have hsp := Classical.epsilon_spec (least a1 w1 ⟨s1, hI1⟩)
   obtain ⟨⟨s2, hI2, hm2⟩, hmin⟩ := hsp
   refine wp_mono (round s2 a1 w1 hI2) fun e a2 w2 hq => ?_
   cases e with
   | normal =>
    obtain ⟨s3, hI3, hlt⟩ := hq
    have hmin2 : μ s2 ≤ m := by
     rw [hm2]
     exact Nat.le_trans (hmin _ ⟨s1, hI1, rfl⟩) (by assumption)
    refine ⟨⟨s3, hI3, by omega⟩, ?_⟩
    obtain ⟨_, hmin3⟩ := Classical.epsilon_spec (least a2 w2 ⟨s3, hI3⟩)
    have := hmin3 _ ⟨s3, hI3, rfl⟩
    omega
   | _ => exact hq
 exact key _ s a w rfl h0

section layers
variable {K : Act → World → Prop}
theorem p_then (h : K a w) : Exit.then K Q .normal a w := h

theorem p_then_r (h : Q .ret a w) : Exit.then K Q .ret a w := h

theorem p_then_x {i : Nat} (h : Q (.exit i) a w) : Exit.then K Q (.exit i) a w := h

theorem p_blk {i : Nat} (h : Q .normal a w) : Exit.inBlock i Q .normal a w := h

theorem p_blk_r {i : Nat} (h : Q .ret a w) : Exit.inBlock i Q .ret a w := h

end layers

/-- results -/
theorem run_results1 {fn : Func} {t : Nat} {v : Value} (hr : fn.results = #[.tmp t]) (hok : SlD ds n S a) (hv : S.lookup t = some v) : (results fn a.tmps).run P w = .ok v w := by
 have := hok.2.2 _ _ hv
 simp [results, hr, this]

theorem run_results0 {fn : Func} (hr : fn.results = #[]) : (results fn a.tmps).run P w = .ok (.tuple #[]) w := by
 simp [results, hr]

theorem run_results2 {fn : Func} {t u : Nat} {v x : Value} (hr : fn.results = #[.tmp t, .tmp u]) (hok : SlD ds n S a) (hv : S.lookup t = some v) (hx : S.lookup u = some x) : (results fn a.tmps).run P w = .ok (.tuple #[v, x]) w := by
 have h1 := hok.2.2 _ _ hv
 have h2 := hok.2.2 _ _ hx
 simp [results, hr, h1, h2]

theorem run_resultsC {fn : Func} {t ty b : Nat} {v : Value} (hr : fn.results = #[.cell t ty]) (hok : SlD ds n S a) (hv : S.lookup t = some (.pointer (some ⟨b, 0, none⟩))) (hl : (loadVar ty ⟨b, 0, none⟩).run P w = .ok v w) : (results fn a.tmps).run P w = .ok v w := by
 have h1 := hok.2.2 _ _ hv
 simp [results, hr, h1, asAddr, hl]

theorem run_resultsCT {fn : Func} {t ty b u : Nat} {v x : Value} (hr : fn.results = #[.cell t ty, .tmp u]) (hok : SlD ds n S a) (hv : S.lookup t = some (.pointer (some ⟨b, 0, none⟩))) (hl : (loadVar ty ⟨b, 0, none⟩).run P w = .ok v w) (hx : S.lookup u = some x) : (results fn a.tmps).run P w = .ok (.tuple #[v, x]) w := by
 have h1 := hok.2.2 _ _ hv
 have h2 := hok.2.2 _ _ hx
 simp [results, hr, h1, h2, asAddr, hl]

theorem f_ret {fn : Func} {R : Value → World → Prop} {v : Value} (hd : Sl n S a) (hr : (results fn a.tmps).run P w = .ok v w) (h : R v w) : bodyPost P fn (Ret R) .ret a w := ⟨hd.1, v, hr, h⟩

theorem f_fall {fn : Func} {R : Value → World → Prop} {v : Value} (hd : Sl n S a) (hr : (results fn a.tmps).run P w = .ok v w) (h : R v w) : bodyPost P fn (Ret R) .normal a w := ⟨hd.1, v, hr, h⟩

end flow

end Go.Proofs.YtglfajjcgbfehaaGreat
