/- Ranges over functions: a loop's record and its rounds as chunks; the rules of walks in rounds. No program is named here. -/
import Derived.Test.YtghkhndlpfmpfaaYM
import Derived.RangeFuncLeaves
import Derived.RangeFuncSeq
import Derived.TacticsIn
namespace Go.Proofs.Ytghkhndlpfmpfaa
open Go.RowKit

def lrec (fn : FuncId) (tm : Array Value) (ps : Array Tmp) (asg body : Code) (D0 : Nat) (st : LoopState) (pe : Option Code) : Loop := { state := st, pending := pe, fn := fn, tmps := tm, params := ps, assign := asg, body := body, defers := D0 }

def ObC (b : Nat) (o : Obj) : Ch where
 P _ w fp := (∀ k, fp k ↔ k = b) ∧ w.heap[b]? = some o
 keep := fun {I I' fp w w'} ⟨h1, h2⟩ _ hk => ⟨h1, by
  have hl : b < w.heap.size := (Array.getElem?_eq_some_iff.1 h2).1
  rw [hk.2 b (.inr ((h1 b).2 rfl)) hl]; exact h2⟩
 pur := false
 hpur := fun h => by cases h

abbrev LpC (b : Nat) (r : Loop) : Ch := ObC b (.loop r)

abbrev DfC (b : Nat) : Ch := ObC b (.deferred (some []))

theorem putObj_turn (w : World) (b : Nat) (o : Obj) : Turn b w (w.putObj b o) := ⟨rfl, rfl, rfl, by simp, fun k hk => World.putObj_heap_other hk⟩

section hf
variable {I0 D : Dm} {w0 : World} {I : Dm} {w : World} {cs : List Ch}
theorem Hf.obat (H : Hf I0 D w0 I w cs) (i : Nat) {b : Nat} {o : Obj} (hi : cs[i]? = some (ObC b o)) : w.heap[b]? = some o := by
 obtain ⟨f, hc, _⟩ := H.get i hi
 exact hc.2

theorem Hf.obturn (H : Hf I0 D w0 I w cs) (i : Nat) {b : Nat} {o : Obj} (hi : cs[i]? = some (ObC b o)) (o' : Obj) : Hf I0 D w0 I (w.putObj b o') (ObC b o' :: cs.eraseIdx i) := by
 have htn := putObj_turn w b o'
 refine H.turn i hi fun f hf hq => ⟨⟨htn.os, htn.tape, htn.output, Nat.le_of_eq htn.size.symm, fun k _ hk => htn.block k fun e => hk ((hf.1 k).2 e)⟩, f, ⟨hf.1, World.putObj_heap_same (Array.getElem?_eq_some_iff.1 hf.2).1⟩, fun k hk2 => ⟨.inl hk2, by have := (hq k hk2).1; rw [htn.size]; exact this⟩⟩

theorem Hf.obnew (H : Hf I0 D w0 I w cs) (o : Obj) : Hf I0 D w0 I (w.alloc o) (ObC w.heap.size o :: cs) :=
 H.new ((Below.refl _ w).alloc (Nat.le_refl _) _) (f := (· = w.heap.size)) (c := ObC w.heap.size o) ⟨fun _ => Iff.rfl, heap_alloc_new w _⟩ fun k hk => by subst hk; simp

end hf

/-- the fence in a round -/
abbrev FO (L : Nat) : Fence := Fence.wide.inRound L

def ndB (l : List Oper) : Bool := l.all fun o => match o.op with | .defer _ => false | _ => true

theorem ndB_mem {l : List Oper} (h : ndB l = true) : ∀ o ∈ l, ∀ c, o.op ≠ .defer c := fun o ho c e => by
 have := List.all_eq_true.1 h o ho
 rw [e] at this; cases this

section ins
variable {P : Program} {ops : Array Oper} {Q : Exit → Act → World → Prop} {a : Act} {w : World} {o : Oper} {F : Fence} {m : Nat}
theorem uponIn_of (hro : F = { Fence.wide with round := F.round }) {next next' : Act → World → Prop} (hn : ∀ a w, next a w → next' a w) {r : Result Next} (h : o.upon P a next Q r) : o.uponIn F m P a next' Q r := by
 have hd : F.depth = none := by rw [hro]; rfl
 have hm : F.depth.isSome = true → 1 ≤ m := fun h => by rw [hd] at h; cases h
 have hc : ∀ {f args w R}, Calls P f args w R → CallsIn F (m - 1) P f args w R := fun h => by rw [hro]; exact callsIn_wide.2 h
 cases r with
 | ok x w =>
  cases x with
  | value v => exact hn _ _ h
  | skip => exact hn _ _ h
  | defer d => exact hn _ _ h
  | enter f args =>
   refine ⟨hm, hc (Calls.mono h fun e w' he => ?_)⟩
   cases e with
   | returned v => exact hn _ _ he
   | panicked c => exact he
   | outgrown => exact he
  | row row args =>
   refine ⟨hm, fun c cs _ => ?_⟩
   obtain ⟨v, w', h1, h2⟩ := h c cs
   refine ⟨v, w', hn _ _ h1, ?_⟩
   rw [hro]
   exact stepsIn_wide.2 h2
  | _ => exact h.elim
 | halt x w => cases x with
  | panic v => exact h
  | _ => exact h.elim

theorem wpListIn_app (hro : F = { Fence.wide with round := F.round }) (hQ : ¬ LetsOut Q) (r : List Oper) : ∀ (l : List Oper) (a : Act) (w : World), (∀ o ∈ l, ∀ c, o.op ≠ .defer c) → wpList P ops (Exit.then (fun a w => wpListIn F m P ops Q r a w) Q) l a w → wpListIn F m P ops Q (l ++ r) a w
 | [], a, w, _, h => h
 | o :: l, a, w, hnd, h => by
  have ih := wpListIn_app hro hQ r l
  have hnd' : ∀ o ∈ l, ∀ c, o.op ≠ .defer c := fun x hx => hnd x (by simp [hx])
  have hfn : ∀ f, F.fn f := fun f => by rw [hro]; trivial
  rw [List.cons_append]
  unfold wpList at h
  unfold wpListIn
  split at h
  ·rename_i hw
   rw [if_pos hw]
   rcases h with h | h
   ·refine ⟨fun f _ => hfn f, ?_⟩
    rw [Oper.semAt_eq _ _ _ (hnd o (by simp))]
    have h2 : o.upon P a (wpList P ops (Exit.then (fun a w => wpListIn F m P ops Q r a w) Q) l) Q ((execOp a.eval o).run P w) := h
    exact uponIn_of hro (fun a w hx => ih a w hnd' hx) h2
   ·exact (hQ h.2).elim
  ·rename_i hw
   rw [if_neg hw]
   exact ⟨fun f _ => hfn f, ih _ _ hnd' h⟩

theorem wpListIn_of (hro : F = { Fence.wide with round := F.round }) (hQ : ¬ LetsOut Q) {l : List Oper} (hnd : ndB l = true) (h : wpList P ops Q l a w) : wpListIn F m P ops Q l a w := by
 have := wpListIn_app (F := F) (m := m) (P := P) (ops := ops) (Q := Q) hro hQ [] l a w (ndB_mem hnd) (by
  have e : (Exit.then (fun a w => wpListIn F m P ops Q [] a w) Q) = Q := by funext e a w; cases e <;> rfl
  rw [e]; exact h)
 rwa [List.append_nil] at this

variable {ds : List Deferred} {n : Nat} {S : Slots} {G : List GV}
theorem f_regionI {L : Nat} {id : Nat} {l : List Oper} (hnd : ndB l = true) (hQ : ¬ LetsOut Q) (hok : SlD ds n S a) (h : PsD ds l.toArray n S [] a → wpList P l.toArray Q l a w) : (Code.region id l.toArray false).wpIn (FO L) m P Q a w :=
 wpIn_region_lit (wpListIn_of rfl hQ hnd (h (PsD.start hok)))

/-- a region of an iterator that calls yield: up to that call -/
theorem f_regionY (k : Nat) {id : Nat} {l : List Oper} (hnd : ndB (l.take k) = true) (hQ : ¬ LetsOut Q) (hok : SlD ds n S a) (h : PsD ds l.toArray n S [] a → wpList P l.toArray (Exit.then (fun a w => wpListIn Fence.wide 3 P l.toArray Q (l.drop k) a w) Q) (l.take k) a w) : (Code.region id l.toArray false).wp P Q a w := by
 refine (wpIn_wide (n := 3)).1 (wpIn_region_lit ?_)
 have := wpListIn_app (F := Fence.wide) (m := 3) rfl hQ (l.drop k) (l.take k) a w (ndB_mem hnd) (h (PsD.start hok))
 rwa [List.take_append_drop] at this

theorem s_mid {K : Act → World → Prop} (h : K a w) : wpList P ops (Exit.then K Q) [] a w := h

theorem l_back (hQ : ¬ LetsOut Q) {l : List Oper} (hnd : ndB l = true) (h : wpList P ops Q l a w) : wpListIn Fence.wide m P ops Q l a w := wpListIn_of rfl hQ hnd h

/-- what a call of yield comes to -/
def YieldW (P : Program) (L : Nat) (args : Array Value) (w : World) (R : Value → World → Prop) : Prop := ∀ m, YieldAt Fence.wide m P L args w (Ret R)

theorem run_ylv {ρ : Operand → Value} {L : Nat} {c : Call} {fv : Operand} {args : Array Value} (ho : o.op = .call c) (hc : c.callee = .value fv) (hv : ρ fv = .func (.yield L) #[] #[]) (ha : c.args.map ρ = args) : (execOp ρ o).run P w = (Instr.yield L args).run P w := by
 unfold execOp
 simp [ho, resolve, hc, hv, ha, Deferred.ofValue, invoke]

variable {I0 D : Dm} {w0 : World} {I : Dm} {cs : List Ch} {rest : List Oper}
theorem h_yield (hok : PsD ds ops n S G a) (H : Hf I0 D w0 I w cs) {js : List (Nat × Bool)} {cin rst : List Ch} (hp : pickN js cs = some (cin, rst)) {d L : Nat} {c : Call} {fv : Operand} {v : Value} {R : Dm → Value → World → Prop} (hg : o.guard = none) (ho : o.op = .call c) (hcv : c.callee = .value fv) (hfv : evS S fv = some (.func (.yield L) #[] #[])) (hd : o.dst = some d) (hdn : d < n) (hgf : gFree ops G d = true)
  (hx : c.args.toList.mapM (evS S) = some [v]) (hc : ∀ D1, St I D1 w cin → YieldW P L #[v] w (R D1))
  (h : ∀ vv a' w' D1, R D1 vv w' → (∀ {I' co}, Hf I D1 w I' w' co → Hf I0 D w0 I' w' (co ++ rst)) → PsD ds ops n ((d, vv) :: S) G a' → wpListIn Fence.wide m P ops Q rest a' w') : wpListIn Fence.wide m P ops Q (o :: rest) a w := by
 obtain ⟨D1, h1, h2⟩ := H.call hp
 obtain ⟨fn, tm, asg, bd, hy, hR⟩ := hc D1 h1 (m - 1)
 have e1 : c.args.map a.eval = #[v] := by
  apply Array.toList_inj.1
  rw [Array.toList_map, evs_map (fun x u hx => hok.sl.ev hx) _ _ hx]
 unfold wpListIn
 rw [if_pos (wanted_none hg _)]
 refine ⟨fun _ _ => trivial, ?_⟩
 rw [show (o.semAt Fence.wide.round a.eval) = execOp a.eval o from rfl, run_ylv ho hcv (hok.sl.ev hfv) e1, hy, Oper.uponIn_round]
 refine ⟨fun h => (by cases h), hR.mono fun e w' he => ?_⟩
 cases e with
 | returned vv =>
  show wpListIn Fence.wide m P ops Q rest (a.put o.dst _) w'
  rw [hd]
  exact h _ _ _ D1 he h2 (hok.put hdn hgf _)
 | panicked c => exact he.elim
 | outgrown => exact he.elim

-- rounds
variable {L fn D0 : Nat} {tm : Array Value} {ps : Array Tmp} {asg bd : Code} {R : Value → World → Prop} {c : Code}
def AsQ (P : Program) (L m : Nat) (body : Code) (R : Value → World → Prop) : Exit → Act → World → Prop :=
 Exit.then (fun a₁ w₁ => ∃ w₂, (Instr.beginRound L).run P w₁ = .ok () w₂ ∧ body.wpIn (FO L) m P (roundPost P L (Ret R)) a₁ w₂) (fun _ _ _ => False)

theorem p_begin (H : Hf I0 D w0 I w cs) (i : Nat) (hi : cs[i]? = some (LpC L (lrec fn tm ps asg bd D0 .ready none))) (h : ∀ w2, Hf I0 D w0 I w2 (LpC L (lrec fn tm ps asg bd D0 .busy none) :: cs.eraseIdx i) → c.wpIn (FO L) m P (roundPost P L (Ret R)) a w2) : AsQ P L m c R .normal a w :=
 ⟨_, run_beginRound (H.obat i hi) rfl, h _ (H.obturn i hi _)⟩

theorem y_norm (H : Hf I0 D w0 I w cs) (i : Nat) (hi : cs[i]? = some (LpC L (lrec fn tm ps asg bd D0 .busy none))) (h : ∀ w2, Hf I0 D w0 I w2 (LpC L (lrec fn tm ps asg bd D0 .ready none) :: cs.eraseIdx i) → R (.bool true) w2) : roundPost P L (Ret R) .normal a w :=
 ⟨_, _, run_endRound none (H.obat i hi), h _ (H.obturn i hi _)⟩

end ins

section range
variable {P : Program} {Q : Exit → Act → World → Prop} {a : Act} {w : World} {n : Nat} {S : Slots} {σ E VT : Type} {I0 D : Dm} {w0 : World} {I : Dm} {cs : List Ch}
/-- the loop's record, the rounds' deferred calls and the caller's state, between rounds: (goes on, state) -/
def YC (L D0 fn : Nat) (tm : Array Value) (ps : Array Tmp) (asg bd c0 : Code) (KC : σ → Ch) (x : Bool × σ) : Ch :=
 ExC fun (_ : Unit) => [LpC L (lrec fn tm ps asg bd D0 (if x.1 = true then .ready else .done) (if x.1 = true then none else some c0)), KC x.2, DfC D0]

/-- what an iterator is told of yield -/
def YieldOk (P : Program) (L : Nat) (Y : Bool × σ → Ch) (enc : E → VT → Value) (ech : E → VT → List Ch) (y : E → σ → Option (Bool × σ)) : Prop :=
 ∀ {I D : Dm} {w : World} (e : E) (v : VT) (x rr : Bool × σ), x.1 = true → y e x.2 = some rr → St I D w (ech e v ++ [Y x]) → YieldW P L #[enc e v] w (fun vv w' => vv = .bool rr.1 ∧ ∃ I', Hf I D w I' w' [Y rr])

theorem pickN_rep : ∀ A B : List Ch, pickN (List.replicate A.length (0, false)) (A ++ B) = some (A, B)
 | [], B => rfl
 | c :: A, B => by
  rw [List.length_cons, List.replicate_succ]
  show (match pickN (List.replicate A.length (0, false)) (A ++ B) with | some p => some (c :: p.1, p.2) | none => none) = _
  rw [pickN_rep A B]

theorem Hf.callA {A B : List Ch} (H : Hf I0 D w0 I w (A ++ B)) : ∃ D1, St I D1 w A ∧ ∀ {I' w' co}, Hf I D1 w I' w' co → Hf I0 D w0 I' w' (co ++ B) := H.call (pickN_rep A B)

theorem Hf.back (H : Hf I0 D w0 I w cs) (js : List (Nat × Bool)) {cin rst : List Ch} (hp : pickN js cs = some (cin, rst)) : Hf I0 D w0 I w (rst ++ cin) := by
 obtain ⟨fp, h1, h2⟩ := H.star
 obtain ⟨f, g, h3, h4, h5, h6⟩ := h1.pick hp
 exact ⟨H.frm, H.imm, H.imm2, fp, (Star.app h4 h3 fun k x y => h5 k y x).iff fun k => (h6 k).trans or_comm, h2⟩

theorem zip1 (t : Tmp) (v : Value) (tm : Array Value) : ((#[t] : Array Tmp).zip #[v]).foldl (fun tmps (t, a) => tmps.setIfInBounds t a) tm = tm.setIfInBounds t v := by simp

theorem Hf.front {A B : List Ch} {c : Ch} (H : Hf I0 D w0 I w (A ++ c :: B)) : Hf I0 D w0 I w (c :: (A ++ B)) := by
 have hp : pickN [(A.length, false)] (A ++ c :: B) = some ([c], A ++ B) := by
  have h1 : (A ++ c :: B)[A.length]? = some c := by simp
  have h2 : (A ++ c :: B).eraseIdx A.length = A ++ B := by
   rw [List.eraseIdx_append_of_length_le (Nat.le_refl _), Nat.sub_self]; rfl
  simp [pickN, h1, h2]
 exact Hf.back (H.back _ hp) _ (pickN_rep _ _)

theorem Hf.tl {c : Ch} (H : Hf I0 D w0 I w (c :: cs)) : Hf I0 D w0 I w cs := (H.back [(0, false)] rfl).sub _ (pickN_rep cs [c])

theorem yieldOk_of {L D0 fn t : Nat} {tm : Array Value} {asg bd c0 : Code} {KC : σ → Ch} {enc : E → VT → Value} {ech : E → VT → List Ch} {y : E → σ → Option (Bool × σ)} (htm : Sl n S { tmps := tm, defers := [] }) (ht : t < n)
  (hround : ∀ {m : Nat} {I D : Dm} {w : World} (L D0 fn : Nat) (tm : Array Value) (e : E) (v : VT) (s : σ) (rr : Bool × σ) (a1 : Act), y e s = some rr → Sl n ((t, enc e v) :: S) a1 → Hf I D w I w (LpC L (lrec fn tm #[t] asg bd D0 .ready none) :: KC s :: ech e v) →
   asg.wpIn (FO L) m P (AsQ P L m bd (fun vv w' => vv = .bool rr.1 ∧ ∃ I', Hf I D w I' w' [LpC L (lrec fn tm #[t] asg bd D0 (if rr.1 = true then .ready else .done) (if rr.1 = true then none else some c0)), KC rr.2])) a1 w) :
  YieldOk P L (YC L D0 fn tm #[t] asg bd c0 KC) enc ech y := by
 intro I D w e v x rr hx hy H m
 obtain ⟨b, s⟩ := x
 simp only at hx hy
 subst hx
 have H1 : Hf I D w I w (YC L D0 fn tm #[t] asg bd c0 KC (true, s) :: ech e v) := by
  obtain ⟨D1, h1, h2⟩ := H.hf.callA
  exact Hf.back (h2 h1.hf) (List.replicate (ech e v).length (0, false)) (pickN_rep _ _)
 obtain ⟨_, H2⟩ := H1.openX 0 rfl
 have H3 : Hf I D w I w ((LpC L (lrec fn tm #[t] asg bd D0 .ready none) :: KC s :: ech e v) ++ [DfC D0]) := Hf.back (cs := LpC L (lrec fn tm #[t] asg bd D0 .ready none) :: KC s :: DfC D0 :: ech e v) H2 [(2, false)] rfl
 obtain ⟨D1, h1, h2⟩ := H3.callA
 have hl : w.heap[L]? = some (.loop (lrec fn tm #[t] asg bd D0 .ready none)) := H3.obat 0 rfl
 refine ⟨fn, _, asg, bd, run_yield hl rfl, roundIn_of_wpIn trivial ?_⟩
 have hz : ((lrec fn tm #[t] asg bd D0 .ready none).params.zip #[enc e v]).foldl (fun tmps (t, a) => tmps.setIfInBounds t a) (lrec fn tm #[t] asg bd D0 .ready none).tmps = tm.setIfInBounds t (enc e v) := zip1 _ _ _
 rw [hz]
 refine wpIn_mono (hround L D0 fn tm e v s rr _ hy (htm.put ht _) h1.hf) ?_
 rintro ex a' w' hq
 cases ex with
 | normal =>
  obtain ⟨w2, hb, hbd⟩ := hq
  refine ⟨w2, hb, wpIn_mono hbd ?_⟩
  have fin : ∀ {vv w'}, (vv = Value.bool rr.1 ∧ ∃ I', Hf I D1 w I' w' [LpC L (lrec fn tm #[t] asg bd D0 (if rr.1 = true then .ready else .done) (if rr.1 = true then none else some c0)), KC rr.2]) → (vv = .bool rr.1 ∧ ∃ I', Hf I D w I' w' [YC L D0 fn tm #[t] asg bd c0 KC rr]) := by
   rintro vv w' ⟨h3, I', h4⟩
   exact ⟨h3, I', (h2 h4).shutX () [(0, false), (0, false), (0, false)] rfl⟩
  rintro ex2 a2 w3 h
  cases ex2 with
  | normal => obtain ⟨v, w4, k1, k2⟩ := h; exact ⟨v, w4, k1, fin k2⟩
  | ret => obtain ⟨v, w4, k1, k2⟩ := h; exact ⟨v, w4, k1, fin k2⟩
  | exit id => obtain ⟨v, w4, k1, k2⟩ := h; exact ⟨v, w4, k1, fin k2⟩
  | goto id => obtain ⟨v, w4, k1, k2⟩ := h; exact ⟨v, w4, k1, fin k2⟩
  | panic c => exact h.elim
  | outgrown => exact h.elim
 | exit id => exact hq.elim
 | goto t => exact hq.elim
 | ret => exact hq.elim
 | panic c => exact hq.elim
 | outgrown => exact hq.elim

theorem f_rangeFunc {g : Operand} {t gf : Nat} {caps : Array Value} {asg bd c0 : Code} {KC : σ → Ch} {enc : E → VT → Value} {ech : E → VT → List Ch} {y : E → σ → Option (Bool × σ)} {s0 : σ} {rr : Bool × σ} (hok : Sl n S a) (H : Hf I0 D w0 I w cs) {js : List (Nat × Bool)} {cit rst : List Ch} (hp : pickN js cs = some (KC s0 :: cit, rst)) (co : List Ch)
  (hfn : IsFn P gf) (hg : evS S g = some (.func (.func gf) #[] caps)) (ht : t < n)
  (hround : ∀ {m : Nat} {I D : Dm} {w : World} (L D0 fn : Nat) (tm : Array Value) (e : E) (v : VT) (s : σ) (rr : Bool × σ) (a1 : Act), y e s = some rr → Sl n ((t, enc e v) :: S) a1 → Hf I D w I w (LpC L (lrec fn tm #[t] asg bd D0 .ready none) :: KC s :: ech e v) →
   asg.wpIn (FO L) m P (AsQ P L m bd (fun vv w' => vv = .bool rr.1 ∧ ∃ I', Hf I D w I' w' [LpC L (lrec fn tm #[t] asg bd D0 (if rr.1 = true then .ready else .done) (if rr.1 = true then none else some c0)), KC rr.2])) a1 w)
  (hit : ∀ {D1 : Dm} {w1 : World} (L : Nat) (Y : Bool × σ → Ch), YieldOk P L Y enc ech y → St I D1 w1 (cit ++ [Y (true, s0)]) → Calls P gf (#[.func (.yield L) #[] #[]] ++ caps) w1 (Ret fun _ w' => ∃ I', Hf I D1 w1 I' w' (co ++ [Y rr])))
  (hnext : ∀ (D0 : Nat) (a' : Act) (w' : World) (I' : Dm), SlD [{ target := .collected D0, args := #[] }] n S a' → Hf I0 D w0 I' w' (DfC D0 :: KC rr.2 :: (co ++ rst)) → (rr.1 = true → Q .normal a' w') ∧ (rr.1 = false → c0.wp P Q a' w')) :
  (Code.rangeFunc g #[t] asg bd).wp P Q a w := by
 refine (wpIn_wide (n := 3)).1 (wpIn_rangeFunc fun fn _ => ?_)
 obtain ⟨cl, h1, h2⟩ := hfn
 have hev := hok.ev hg
 obtain ⟨W1, hW1⟩ : ∃ W1, (w.alloc (.deferred (some []))).alloc (.loop (lrec fn a.tmps #[t] asg bd w.heap.size .ready none)) = W1 := ⟨_, rfl⟩
 have H2 : Hf I0 D w0 I W1 (LpC (w.heap.size + 1) (lrec fn a.tmps #[t] asg bd w.heap.size .ready none) :: DfC w.heap.size :: cs) := by
  have h := (H.obnew (.deferred (some []))).obnew (.loop (lrec fn a.tmps #[t] asg bd w.heap.size .ready none))
  rw [World.size_alloc, hW1] at h
  exact h
 have hrun : (Instr.enterLoop fn a.tmps #[t] asg bd Fence.wide.round).run P w = .ok (w.heap.size + 1, [{ target := .collected w.heap.size, args := #[] }]) W1 := by
  rw [← hW1]; exact run_enterLoop_outer _ _ _ _ _
 refine ⟨w.heap.size + 1, [{ target := .collected w.heap.size, args := #[] }], W1, { target := .fn (.func gf) caps, args := #[.func (.yield (w.heap.size + 1)) #[] #[]] }, W1, gf, #[.func (.yield (w.heap.size + 1)) #[] #[]] ++ caps, W1, hrun, ?_, fun _ _ => trivial, ?_, fun h => (by cases h), callsIn_wide.2 ?_⟩
 ·simp only [resolve, hev]
  simp [go_sem]
 ·obtain ⟨h2, h3⟩ := h2
  have h2' : cl.name ≠ "runtime.NumGoroutine" := by simpa using h2
  have h3' : ¬ cl.body = none := by intro e; rw [e] at h3; cases h3
  simp [invoke, callFunc, h1, h2', h3']
 ·have H3 : Hf I0 D w0 I W1 ((LpC (w.heap.size + 1) (lrec fn a.tmps #[t] asg bd w.heap.size .ready none) :: DfC w.heap.size :: (KC s0 :: cit)) ++ rst) := by
   have k1 := H2.back [(0, false), (0, false)] rfl
   obtain ⟨D1, k2, k3⟩ := k1.callA
   obtain ⟨D2, k4, k5⟩ := k2.hf.call hp
   have k6 := k3 (k5 k4.hf)
   have k7 := Hf.back k6 _ (pickN_rep _ _)
   simpa using k7
  obtain ⟨D1, k1, k2⟩ := H3.callA
  have k3 : Hf I D1 W1 I W1 (YC (w.heap.size + 1) w.heap.size fn a.tmps #[t] asg bd c0 KC (true, s0) :: cit) := k1.hf.shutX () [(0, false), (1, false), (0, false)] rfl
  have k4 := Hf.back k3 [(0, false)] rfl
  obtain ⟨D3, k5, k6⟩ := Hf.callA (B := []) (by simpa using k4)
  have hyo : YieldOk P (w.heap.size + 1) (YC (w.heap.size + 1) w.heap.size fn a.tmps #[t] asg bd c0 KC) enc ech y := yieldOk_of (L := w.heap.size + 1) (D0 := w.heap.size) (fn := fn) (c0 := c0) (tm := a.tmps) (enc := enc) (ech := ech) ⟨rfl, hok.2⟩ ht hround
  refine (hit (w.heap.size + 1) _ hyo k5).mono fun e w' he => ?_
  cases e with
  | returned vv =>
   obtain ⟨I', k7⟩ := he
   have k8 := k2 (k6 k7)
   have k9 : Hf I0 D w0 I' w' (YC (w.heap.size + 1) w.heap.size fn a.tmps #[t] asg bd c0 KC rr :: (co ++ rst)) := by
    have q1 : Hf I0 D w0 I' w' (co ++ (YC (w.heap.size + 1) w.heap.size fn a.tmps #[t] asg bd c0 KC rr :: rst)) := by simpa using k8
    exact q1.front
   obtain ⟨_, k10⟩ := k9.openX 0 rfl
   have hl := k10.obat 0 rfl
   have k11 := k10.obturn 0 rfl (.loop { lrec fn a.tmps #[t] asg bd w.heap.size (if rr.1 = true then .ready else .done) (if rr.1 = true then none else some c0) with state := .exhausted })
   have k12 := Hf.front (A := [KC rr.2]) (c := DfC w.heap.size) (Hf.tl k11)
   obtain ⟨g1, g2⟩ := hnext w.heap.size { tmps := a.tmps, defers := [{ target := .collected w.heap.size, args := #[] }] ++ a.defers } _ I' ⟨by rw [hok.1]; rfl, hok.2⟩ k12
   obtain ⟨b, s2⟩ := rr
   cases b with
   | true => exact ⟨none, _, run_endLoop hl (fun h => by cases h), g1 rfl⟩
   | false => exact ⟨some c0, _, run_endLoop hl (fun h => by cases h), wpIn_wide.2 (g2 rfl)⟩
  | panicked c => exact he.elim
  | outgrown => exact he.elim

theorem f_enterM {f : FuncId} {fn : Func} {c : Code} {args : List Value} {R : Ending → World → Prop} (m : Nat) (hf : P.funcs[f]? = some fn) (hm : fn.ntmps = m) (hb : fn.body = some c) (hle : args.length ≤ m)
  (h : ∀ a, Sl m (args.zipIdx.map fun p => (p.2, p.1)) a → c.wp P (bodyPostM Fence.wide 3 P fn R) a w) : Calls P f args.toArray w R :=
 (callsIn_wide (n := 3)).1 (callsIn_of_wp_marks hf hb trivial ((wpIn_wide (n := 3)).2 (h _ (by rw [hm]; exact enter_sl args m hle))))

theorem f_retM0 {fn : Func} {R : Value → World → Prop} {v : Value} (hd : Sl n S a) (hr : (results fn a.tmps).run P w = .ok v w) (h : R v w) : bodyPostM Fence.wide 3 P fn (Ret R) .ret a w := by
 show LeavesInM _ _ _ _ _ _ a.defers _ _
 rw [hd.1]; exact ⟨v, hr, h⟩

theorem leave_M {fn : Func} {R : Value → World → Prop} {D0 : Nat} (hd : SlD [{ target := .collected D0, args := #[] }] n S a) (H : Hf I0 D w0 I w cs) (i : Nat) (hi : cs[i]? = some (DfC D0))
  (h : ∀ w', Hf I0 D w0 I w' (ObC D0 (.deferred none) :: cs.eraseIdx i) → ∃ v, (results fn a.tmps).run P w' = .ok v w' ∧ R v w') : LeavesInM Fence.wide 3 P fn a.tmps (Ret R) a.defers .returning w := by
 rw [hd.1]
 refine ⟨by simp, .inl ⟨D0, _, rfl, run_takeDeferred (H.obat i hi), ?_⟩⟩
 exact h _ (H.obturn i hi _)

theorem f_retM {fn : Func} {R : Value → World → Prop} {D0 : Nat} (hd : SlD [{ target := .collected D0, args := #[] }] n S a) (H : Hf I0 D w0 I w cs) (i : Nat) (hi : cs[i]? = some (DfC D0))
  (h : ∀ w', Hf I0 D w0 I w' (ObC D0 (.deferred none) :: cs.eraseIdx i) → ∃ v, (results fn a.tmps).run P w' = .ok v w' ∧ R v w') : bodyPostM Fence.wide 3 P fn (Ret R) .ret a w := leave_M hd H i hi h

end range
end Go.Proofs.Ytghkhndlpfmpfaa
