/- Steps of a walk by rules alone: the frame as a list of slots, the world by facts. An operation that only computes is evaluated; every other is met by one rule. No program is named here. -/
import Derived.Test.YtglfajjcgbfehaaGreatRegion
import Derived.Laws.Small
import Derived.Laws.StructEq
namespace Go.Proofs.YtglfajjcgbfehaaGreat
open Go.RowKit
variable {ds : List Deferred}

abbrev Slots := List (Nat × Value)

/-- what is known of the frame -/
def SlD (ds : List Deferred) (n : Nat) (S : Slots) (a : Act) : Prop := a.defers = ds ∧ a.tmps.size = n ∧ ∀ t v, S.lookup t = some v → a.tmps[t]? = some v

abbrev Sl (n : Nat) (S : Slots) (a : Act) : Prop := SlD [] n S a

def evS (S : Slots) : Operand → Option Value
 | .tmp t => S.lookup t
 | .const v => some v
 | .global g => some (.pointer (some ⟨g, 0, none⟩))
 | .func f => some (.func (.func f) #[] #[])

theorem SlD.ev {n : Nat} {S : Slots} {a : Act} (h : SlD ds n S a) {x : Operand} {v : Value} (hx : evS S x = some v) : a.eval x = v := by
 cases x with
 | tmp t =>
  have := h.2.2 t v hx
  obtain ⟨h1, h2⟩ := Array.getElem?_eq_some_iff.1 this
  simp only [Act.eval, Array.getD]
  rw [dif_pos h1]
  exact h2
 | const c => injection hx
 | global g => injection hx
 | func f => injection hx

theorem put_tmps (a : Act) (d : Nat) (v : Value) : (a.put (some d) v).tmps = a.tmps.setIfInBounds d v := rfl

theorem lookup_cons (t d : Nat) (v : Value) (S : Slots) : List.lookup t ((d, v) :: S) = if t = d then some v else S.lookup t := by
 simp only [List.lookup_cons]
 by_cases h : t = d
 ·simp [h]
 ·rw [if_neg h, show (t == d) = false from beq_eq_false_iff_ne.2 h]

theorem SlD.put {n : Nat} {S : Slots} {a : Act} (h : SlD ds n S a) {d : Nat} (hd : d < n) (v : Value) : SlD ds n ((d, v) :: S) (a.put (some d) v) := by
 refine ⟨h.1, by rw [put_tmps, Array.size_setIfInBounds]; exact h.2.1, fun t u hu => ?_⟩
 rw [put_tmps, Array.getElem?_setIfInBounds]
 rw [lookup_cons] at hu
 by_cases ht : t = d
 ·subst ht
  rw [if_pos rfl] at hu
  rw [if_pos rfl, if_pos (by rw [h.2.1]; exact hd)]
  exact hu
 ·rw [if_neg ht] at hu
  rw [if_neg (fun e => ht e.symm)]
  exact h.2.2 t u hu

def pickS (S : Slots) : List Nat → Option Slots
 | [] => some []
 | t :: ts => match S.lookup t, pickS S ts with
  | some v, some r => some ((t, v) :: r)
  | _, _ => none

theorem SlD.sub {n : Nat} {S : Slots} {a : Act} (h : SlD ds n S a) : ∀ {ts : List Nat} {S' : Slots}, pickS S ts = some S' → SlD ds n S' a
 | [], S', e => by simp only [pickS, Option.some.injEq] at e; subst e; exact ⟨h.1, h.2.1, fun t v hv => by simp at hv⟩
 | t :: ts, S', e => by
  unfold pickS at e
  split at e
  ·rename_i v r h1 h2
   injection e with e; subst e
   have ih := SlD.sub h h2
   refine ⟨h.1, h.2.1, fun k u hu => ?_⟩
   rw [lookup_cons] at hu
   split at hu
   ·rename_i ek; subst ek; injection hu with hu; subst hu; exact h.2.2 _ _ h1
   ·exact ih.2.2 _ _ hu
  ·cases e

/-- a known slot's value, told otherwise -/
theorem SlD.conv {n : Nat} {S : Slots} {a : Act} (h : SlD ds n S a) {t : Nat} {v v' : Value} (hv : S.lookup t = some v) (e : v = v') : SlD ds n ((t, v') :: S) a := by
 refine ⟨h.1, h.2.1, fun k u hu => ?_⟩
 rw [lookup_cons] at hu
 split at hu
 ·rename_i ek; subst ek; subst e; injection hu with hu; subst hu; exact h.2.2 _ _ hv
 ·exact h.2.2 _ _ hu

/-- what types are, for those that a walk asks for: fields' offsets, strings, bools, slices with their elements, sizes -/
structure TabL where
 fas : List (Nat × Nat)
 strs : List Nat
 bools : List Nat
 sls : List (Nat × (Nat × Nat))
 szs : List (Nat × (Nat × Bool))

def faOk (P : Program) (e : Nat × Nat) : Bool := match P.underlying (e.1 / 1024) with
 | some (.struct fs) => (match fs[e.1 % 1024]? with
  | some f => f.offset == e.2 && (match P.info? f.type with | some i => i.size != 0 | none => false)
  | none => false)
 | _ => false

def strOk (P : Program) (t : Nat) : Bool := match P.underlying t with | some .string => true | _ => false

def boolOk (P : Program) (t : Nat) : Bool := match P.underlying t with | some .bool => true | _ => false

def slOk (P : Program) (e : Nat × (Nat × Nat)) : Bool := match P.underlying e.1 with | some (.slice x) => x == e.2.1 && (match P.info? x with | some i => i.size == e.2.2 | none => false) | _ => false

def szOk (P : Program) (e : Nat × (Nat × Bool)) : Bool := (match P.underlying e.1 with | some (.struct _) => e.2.2 | some (.array _ _) => e.2.2 | some _ => !e.2.2 | none => false) && (match P.info? e.1 with | some i => i.size == e.2.1 | none => false)

def TabL.ok (P : Program) (L : TabL) : Bool := L.fas.all (faOk P) && L.strs.all (strOk P) && L.bools.all (boolOk P) && L.sls.all (slOk P) && L.szs.all (szOk P)

structure Tab (P : Program) where
 L : TabL
 ok : L.ok P = true

section tab
variable {P : Program} (T : Tab P)
def Tab.fa (t f : Nat) : Option Nat := T.L.fas.lookup (t * 1024 + f)

def Tab.isStr (t : Nat) : Bool := T.L.strs.contains t

def Tab.isBool (t : Nat) : Bool := T.L.bools.contains t

def Tab.sl (t : Nat) : Option (Nat × Nat) := T.L.sls.lookup t

def Tab.isSl (t : Nat) : Bool := (T.sl t).isSome

def Tab.sz (t : Nat) : Option (Nat × Bool) := T.L.szs.lookup t

theorem mem_of_lookup {α β : Type} [BEq α] [LawfulBEq α] {k : α} {v : β} : ∀ {l : List (α × β)}, l.lookup k = some v → (k, v) ∈ l
 | [], h => by simp at h
 | (a, b) :: l, h => by
  simp only [List.lookup_cons] at h
  split at h
  ·rename_i e; injection h with h; subst h; simp at e; subst e; simp
  ·exact List.mem_cons_of_mem _ (mem_of_lookup h)

theorem TabL.all {L : TabL} (h : L.ok P = true) : (∀ e ∈ L.fas, faOk P e = true) ∧ (∀ t ∈ L.strs, strOk P t = true) ∧ (∀ t ∈ L.bools, boolOk P t = true) ∧ (∀ e ∈ L.sls, slOk P e = true) ∧ (∀ e ∈ L.szs, szOk P e = true) := by
 unfold TabL.ok at h
 simp only [Bool.and_eq_true] at h
 obtain ⟨⟨⟨⟨h1, h2⟩, h3⟩, h4⟩, h5⟩ := h
 exact ⟨List.all_eq_true.1 h1, List.all_eq_true.1 h2, List.all_eq_true.1 h3, List.all_eq_true.1 h4, List.all_eq_true.1 h5⟩

theorem run_sizeOf_of {t : Nat} {i : TypeInfo} (h : P.info? t = some i) (w : World) : (sizeOf t).run P w = .ok i.size w := by simp [sizeOf, typeInfo, h]

theorem addr_add (b off n : Nat) : (⟨b, off, none⟩ : Addr).add n = ⟨b, off + n, none⟩ := by
 unfold Addr.add
 split
 ·rename_i h; simp [h]
 ·rfl

theorem Tab.hfa {t f o : Nat} (h : T.fa t f = some o) (hf : f < 1024) (b off : Nat) (w : World) : (Instr.fieldAt t (.pointer (some ⟨b, off, none⟩)) f).run P w = .ok (.pointer (some ⟨b, off + o, none⟩)) w := by
 have h1 := (TabL.all T.ok).1 _ (mem_of_lookup h)
 unfold faOk at h1
 simp only [show (t * 1024 + f) / 1024 = t by omega, show (t * 1024 + f) % 1024 = f by omega] at h1
 split at h1
 ·rename_i fs hu
  split at h1
  ·rename_i x hx
   simp only [Bool.and_eq_true] at h1
   obtain ⟨h2, h3⟩ := h1
   split at h3
   ·rename_i i hi
    have e2 : x.offset = o := by simpa using h2
    have e3 : i.size ≠ 0 := by simpa using h3
    have hs := run_sizeOf_of (P := P) hi
    simp [Instr.fieldAt, run_underlying hu, hx, Instr.sureAddr, fieldPlace, hs, e3, addr_add, e2]
   ·cases h3
  ·cases h1
 ·cases h1

theorem Tab.hStr {t : Nat} (h : T.isStr t = true) : P.underlying t = some .string := by
 have h1 := (TabL.all T.ok).2.1 t (by simpa [Tab.isStr] using h)
 unfold strOk at h1
 split at h1
 ·assumption
 ·cases h1

theorem Tab.hBool {t : Nat} (h : T.isBool t = true) : P.underlying t = some .bool := by
 have h1 := (TabL.all T.ok).2.2.1 t (by simpa [Tab.isBool] using h)
 unfold boolOk at h1
 split at h1
 ·assumption
 ·cases h1

theorem Tab.hsl {t e m : Nat} (h : T.sl t = some (e, m)) : P.underlying t = some (.slice e) ∧ ∃ i, P.info? e = some i ∧ i.size = m := by
 have h1 := (TabL.all T.ok).2.2.2.1 _ (mem_of_lookup h)
 unfold slOk at h1
 split at h1
 ·rename_i x hu
  simp only [Bool.and_eq_true] at h1
  obtain ⟨h2, h3⟩ := h1
  have e2 : x = e := by simpa using h2
  subst e2
  split at h3
  ·rename_i i hi
   exact ⟨hu, i, hi, by simpa using h3⟩
  ·cases h3
 ·cases h1

theorem Tab.hSl {t : Nat} (h : T.isSl t = true) : ∃ e, P.underlying t = some (.slice e) := by
 obtain ⟨⟨e, m⟩, h1⟩ := Option.isSome_iff_exists.1 h
 exact ⟨e, (T.hsl h1).1⟩

theorem Tab.hsz {t n : Nat} {g : Bool} (h : T.sz t = some (n, g)) (w : World) : (isAgg t).run P w = .ok g w ∧ (sizeOf t).run P w = .ok n w := by
 have h1 := (TabL.all T.ok).2.2.2.2 _ (mem_of_lookup h)
 unfold szOk at h1
 simp only [Bool.and_eq_true] at h1
 obtain ⟨h2, h3⟩ := h1
 constructor
 ·split at h2
  ·rename_i hu; simp [isAgg, run_underlying hu]; exact h2
  ·rename_i hu; simp [isAgg, run_underlying hu]; exact h2
  ·rename_i d hn1 hn2 hu
   have : g = false := by simpa using h2
   subst this
   simp only [isAgg, Sem.run_bind, run_underlying hu, Result.andThen_ok]
   rfl
  ·cases h2
 ·split at h3
  ·rename_i i hi
   have e : i.size = n := by simpa using h3
   rw [run_sizeOf_of hi, e]
  ·cases h3

end tab

def seqB (x y : ByteArray) : Bool := x.toList == y.toList

def sltB (x y : ByteArray) : Bool := Op.bytesLess x.toList y.toList

theorem seqB_iff {x y : ByteArray} : seqB x y = true ↔ x = y := by
 unfold seqB
 rw [beq_iff_eq, ByteArray.toList_eq, ByteArray.toList_eq]
 constructor
 ·intro h
  cases x; cases y; simp only [Array.toList_inj] at h; rw [h]
 ·intro h; rw [h]

theorem seqB_eq (x y : ByteArray) : seqB x y = decide (x = y) := by rw [Bool.eq_iff_iff, seqB_iff, decide_eq_true_iff]

theorem seqB_false {x y : ByteArray} : seqB x y = false ↔ x ≠ y := by rw [seqB_eq, decide_eq_false_iff_not]

def cbin (T : Nat → Bool) (op : BinOp) (t : Nat) : Value → Value → Option Value
 | .int k x, .int k' y => if k = k' then (match op with
  | .eql => some (.bool (x == y)) | .neq => some (.bool (x != y)) | .lss => some (.bool (decide (x < y))) | .leq => some (.bool (decide (x ≤ y))) | .gtr => some (.bool (decide (x > y))) | .geq => some (.bool (decide (x ≥ y))) | _ => none) else none
 | .string x, .string y => (match op with
  | .eql => some (.bool (seqB x y)) | .neq => some (.bool (!seqB x y)) | .lss => some (.bool (sltB x y)) | .leq => some (.bool (sltB x y || seqB x y)) | .gtr => some (.bool (!(sltB x y || seqB x y))) | .geq => some (.bool (!sltB x y)) | _ => none)
 | .bool x, .bool y => if T t then (match op with | .eql => some (.bool (x == y)) | .neq => some (.bool (!(x == y))) | _ => none) else none
 | _, _ => none

def mn2 : Value → Value → Option Value
 | .int k x, .int _ y => some (.int k (min x y))
 | _, _ => none

def mx2 : Value → Value → Option Value
 | .int k x, .int _ y => some (.int k (max x y))
 | _, _ => none

/-- what an operation that only computes comes to -/
def cval {P : Program} (T : Tab P) (ev : Operand → Option Value) : Op → Option Value
 | .move x => ev x
 | .assign x => ev x
 | .nilCheck x => match ev x with
  | some (.pointer (some p)) => some (.pointer (some p))
  | _ => none
 | .fieldAddr t x f => if f < 1024 then (match ev x, T.fa t f with
  | some (.pointer (some ⟨b, off, none⟩)), some o => some (.pointer (some ⟨b, off + o, none⟩))
  | _, _ => none) else none
 | .binOp op t x y _ => match ev x, ev y with
  | some u, some v => cbin T.isBool op t u v
  | _, _ => none
 | .unOp .not _ x => match ev x with
  | some (.bool b) => some (.bool (!b))
  | _ => none
 | .extract x i => match ev x with
  | some (.tuple vs) => vs[i]?
  | _ => none
 | .makeFunc fn first captured => match first.toList, captured.toList.mapM ev with
  | [], some vs => some (.func fn #[] vs.toArray)
  | _, _ => none
 | .call c => match c.callee, c.args.toList, c.argTypes.toList with
  | .builtin .len, [x], [t] => (match ev x with
   | some (.string s) => if T.isStr t then some (.int .i64 s.size) else none
   | some (.slice _ n _) => if T.isSl t then some (.int .i64 n) else none
   | _ => none)
  | .builtin .min, [x, y], _ => (match ev x, ev y with
   | some u, some v => mn2 u v
   | _, _ => none)
  | .builtin .max, [x, y], _ => (match ev x, ev y with
   | some u, some v => mx2 u v
   | _, _ => none)
  | _, _, _ => none
 | _ => none

/-- an operation that leaves the world alone, by what it comes to -/
def Ob (P : Program) (ev : Operand → Option Value) (o : Oper) (v : Value) (w : World) : Prop := ∀ ρ : Operand → Value, (∀ x u, ev x = some u → ρ x = u) → (execOp ρ o).run P w = .ok (.value v) w

theorem run_cbin {P : Program} (T : Tab P) (op : BinOp) (t : Nat) (u v r : Value) (x y : Operand) (h : cbin T.isBool op t u v = some r) (w : World) : (do eqGuard op t x y u v; binOp op t u v : Sem Value).run P w = .ok r w := by
 unfold cbin at h
 split at h
 ·split at h
  ·rename_i e; subst e
   split at h <;> first | (injection h with h; subst h; simp [eqGuard, binOp, Op.intCmp, Bool.bne_eq_xor]; done) | (injection h with h; subst h; simp [eqGuard, binOp, Op.intCmp]; done) | cases h
  ·cases h
 ·split at h <;> first | (injection h with h; subst h; simp [eqGuard, binOp, Op.stringOp, seqB, sltB]; done) | cases h
 ·split at h
  ·rename_i ht
   have hu := T.hBool ht
   split at h <;> first | (injection h with h; subst h; have hq := fun a b => run_equal_bool (P := P) (w := w) t a b hu; simp [eqGuard, binOp]; rw [hq]; simp; done) | cases h
  ·cases h
 ·cases h

theorem cval_ob {P : Program} (T : Tab P) (ev : Operand → Option Value) (o : Oper) (v : Value) (h : cval T ev o.op = some v) (w : World) : Ob P ev o v w := by
 intro ρ hρ
 unfold execOp
 unfold cval at h
 split at h
 ·rename_i x ho; simp only [ho, hρ _ _ h]; rfl
 ·rename_i x ho; simp only [ho, hρ _ _ h]; rfl
 ·rename_i x ho
  split at h
  ·rename_i p hp; injection h with h; subst h; simp only [ho, hρ _ _ hp]; rfl
  ·cases h
 ·rename_i t x f ho
  split at h
  ·rename_i hlt
   split at h
   ·rename_i b off o' hp hf; injection h with h; subst h; simp only [ho, hρ _ _ hp, Sem.run_bind, T.hfa hf hlt]; rfl
   ·cases h
  ·cases h
 ·rename_i op t x y t2 ho
  split at h
  ·rename_i u u2 h1 h2
   simp only [ho, hρ _ _ h1, hρ _ _ h2, Sem.run_bind]
   have := run_cbin T op t u u2 v x y h w
   simp only [Sem.run_bind] at this
   simp only [this]; rfl
  ·cases h
 ·rename_i t x ho
  split at h
  ·rename_i b hp; injection h with h; subst h; simp only [ho, hρ _ _ hp, Op.unary]; rfl
  ·cases h
 ·rename_i x i ho
  split at h
  ·rename_i vs hp; simp only [ho, hρ _ _ hp, Instr.extract, h]; rfl
  ·cases h
 ·rename_i fn first captured ho
  split at h
  ·rename_i vs h1 h2
   injection h with h; subst h
   have hm : ∀ (l : List Operand) (vs : List Value), l.mapM ev = some vs → l.map ρ = vs := by
    intro l
    induction l with
    | nil => intro vs h; simp at h; simp [h]
    | cons x l ih =>
     intro vs h
     simp only [List.mapM_cons, Option.bind_eq_bind, Option.bind_eq_some_iff] at h
     obtain ⟨u, hu, us, hus, h⟩ := h
     injection h with h; subst h
     rw [List.map_cons, hρ _ _ hu, ih _ hus]
   have e1 : first.map ρ = #[] := by
    apply Array.toList_inj.1
    rw [Array.toList_map, h1]; rfl
   have e2 : captured.map ρ = vs.toArray := by
    apply Array.toList_inj.1
    rw [Array.toList_map, hm _ _ h2]
   simp only [ho, Instr.makeFunc, e1, e2]; rfl
  ·cases h
 ·rename_i c ho
  have hargs : c.args.map ρ = (c.args.toList.map ρ).toArray := by apply Array.toList_inj.1; simp
  split at h
  ·rename_i x t h1 h2 h3
   have hty : c.argTypes = #[t] := by apply Array.toList_inj.1; exact h3
   rw [h2] at hargs
   split at h
   ·rename_i s hp
    split at h
    ·rename_i ht; injection h with h; subst h
     simp [ho, resolve, h1, hargs, hty, invoke, builtin, Builtin.len_, hρ _ _ hp, run_underlying (T.hStr ht), goInt]
    ·cases h
   ·rename_i a1 n c hp
    split at h
    ·rename_i ht; injection h with h; subst h
     obtain ⟨e, he⟩ := T.hSl ht
     simp [ho, resolve, h1, hargs, hty, invoke, builtin, Builtin.len_, hρ _ _ hp, run_underlying he, goInt]
    ·cases h
   ·cases h
  ·rename_i x y h1 h2
   rw [h2] at hargs
   split at h
   ·rename_i u u2 hp hq
    unfold mn2 at h
    split at h
    ·injection h with h; subst h
     simp [ho, resolve, h1, hargs, invoke, builtin, Builtin.min_, hρ _ _ hp, hρ _ _ hq, Builtin.min2]; split <;> omega
    ·cases h
   ·cases h
  ·rename_i x y h1 h2
   rw [h2] at hargs
   split at h
   ·rename_i u u2 hp hq
    unfold mx2 at h
    split at h
    ·injection h with h; subst h
     simp [ho, resolve, h1, hargs, invoke, builtin, Builtin.max_, hρ _ _ hp, hρ _ _ hq, Builtin.max2]; split <;> omega
    ·cases h
   ·cases h
  ·cases h
 ·cases h

/-- a guarded slot: it holds v where its guard's answer c is as wanted -/
structure GV where
 t : Nat
 g : Nat
 pol : Bool
 c : Bool
 v : Value

def GV.ok (ops : Array Oper) (a : Act) (q : GV) : Prop := (∃ d, (ops[q.g]?).bind (·.dst) = some d ∧ a.tmps[d]? = some (.bool q.c)) ∧ (q.c = q.pol → a.tmps[q.t]? = some q.v)

/-- what is known in the midst of a region -/
structure PsD (ds : List Deferred) (ops : Array Oper) (n : Nat) (S : Slots) (G : List GV) (a : Act) : Prop where
 sl : SlD ds n S a
 gv : ∀ q ∈ G, q.ok ops a

theorem PsD.start {ops : Array Oper} {n : Nat} {S : Slots} {a : Act} (h : SlD ds n S a) : PsD ds ops n S [] a := ⟨h, fun q hq => by cases hq⟩

/-- the guards that lean on slot d are forgotten when d is written anew: d must not be one of them -/
def gFree (ops : Array Oper) (G : List GV) (d : Nat) : Bool := G.all fun q => q.t != d && (match (ops[q.g]?).bind (·.dst) with | some e => e != d | none => true)

theorem GV.put {ops : Array Oper} {a : Act} {G : List GV} {d : Nat} (h : ∀ q ∈ G, q.ok ops a) (hf : gFree ops G d = true) (v : Value) : ∀ q ∈ G, q.ok ops (a.put (some d) v) := by
 intro q hq
 obtain ⟨⟨e, he, hc⟩, hv⟩ := h q hq
 unfold gFree at hf
 rw [List.all_eq_true] at hf
 have := hf q hq
 simp only [he, Bool.and_eq_true, bne_iff_ne, ne_eq] at this
 refine ⟨⟨e, he, ?_⟩, fun hp => ?_⟩
 ·rw [put_tmps, Array.getElem?_setIfInBounds, if_neg (fun x => this.2 x.symm)]; exact hc
 ·rw [put_tmps, Array.getElem?_setIfInBounds, if_neg (fun x => this.1 x.symm)]; exact hv hp

theorem PsD.put {ops : Array Oper} {n : Nat} {S : Slots} {G : List GV} {a : Act} (h : PsD ds ops n S G a) {d : Nat} (hd : d < n) (hf : gFree ops G d = true) (v : Value) : PsD ds ops n ((d, v) :: S) G (a.put (some d) v) :=
 ⟨h.sl.put hd v, GV.put h.gv hf v⟩

section rules
variable {P : Program} {ops : Array Oper} {Q : Exit → Act → World → Prop} {a : Act} {w : World} {rest : List Oper} {o : Oper} {n : Nat} {S : Slots} {G : List GV}

theorem wanted_none (h : o.guard = none) (y : Nat → Option Bool) : Region.wanted o y = true := by simp [Region.wanted, h]

theorem wpList_ob {ev : Operand → Option Value} {v : Value} (hev : ∀ x u, ev x = some u → a.eval x = u) (hob : Ob P ev o v w) (hw : Region.wanted o (yielded ops a.tmps) = true)
  (h : wpList P ops Q rest (a.put o.dst v) w) : wpList P ops Q (o :: rest) a w := by
 unfold wpList
 rw [if_pos hw]
 left
 unfold Oper.wp
 rw [hob a.eval hev]
 exact h

/-- an operation without a guard, by its answer -/
theorem s_ob (hok : PsD ds ops n S G a) {d : Nat} {v : Value} (hg : o.guard = none) (hd : o.dst = some d) (hdn : d < n) (hf : gFree ops G d = true) (hob : Ob P (evS S) o v w)
  (h : ∀ a', PsD ds ops n ((d, v) :: S) G a' → wpList P ops Q rest a' w) : wpList P ops Q (o :: rest) a w :=
 wpList_ob (fun x u hx => hok.sl.ev hx) hob (wanted_none hg _) (by rw [hd]; exact h _ (hok.put hdn hf v))

/-- a run of operations that only compute -/
def cvals {P : Program} (T : Tab P) : List Oper → Slots → Option Slots
 | [], S => some S
 | o :: r, S => match o.guard, o.dst, cval T (evS S) o.op with
  | none, some d, some v => cvals T r ((d, v) :: S)
  | _, _, _ => none

def dstsOk (ops : Array Oper) (n : Nat) (G : List GV) (l : List Oper) : Bool := l.all fun o => match o.dst with | some d => decide (d < n) && gFree ops G d | none => true

theorem s_run (T : Tab P) {S' : Slots} : ∀ (l : List Oper) (S : Slots) (a : Act), PsD ds ops n S G a → dstsOk ops n G l = true → cvals T l S = some S' → (∀ a', PsD ds ops n S' G a' → wpList P ops Q rest a' w) → wpList P ops Q (l ++ rest) a w
 | [], S, a, hok, _, hv, h => by
  simp only [cvals, Option.some.injEq] at hv
  subst hv
  exact h a hok
 | o :: r, S, a, hok, hl, hv, h => by
  unfold dstsOk at hl
  simp only [List.all_cons, Bool.and_eq_true] at hl
  unfold cvals at hv
  split at hv
  ·rename_i d v hg hd hc
   rw [hd] at hl
   simp only [Bool.and_eq_true, decide_eq_true_eq] at hl
   exact s_ob hok hg hd hl.1.1 hl.1.2 (cval_ob T _ _ _ hc w) fun a' ha' => s_run T r _ a' ha' hl.2 hv h
  ·cases hv

end rules

end Go.Proofs.YtglfajjcgbfehaaGreat
