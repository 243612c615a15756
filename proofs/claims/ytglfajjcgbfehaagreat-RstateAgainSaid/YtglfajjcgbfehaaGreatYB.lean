/- Walks of functions by what they compute: the plain function's checks, loops and joints; slices as opaque values. No program is named here. -/
import Derived.Test.YtglfajjcgbfehaaGreatQS
import Derived.Laws.Pointers
namespace Go.Proofs.YtglfajjcgbfehaaGreat
open Go.RowKit
variable {ds : List Deferred}

/-- a check -/
def chk {β : Type} (p : Prop) [Decidable p] (k : Option β) : Option β := if p then k else none

theorem chk_in {β : Type} {p : Prop} [Decidable p] {k : Option β} {r : β} (h : chk p k = some r) : p ∧ k = some r := by
 unfold chk at h
 split at h
 ·exact ⟨by assumption, h⟩
 ·cases h

theorem bnd_in {α β : Type} {x : Option α} {k : α → Option β} {r : β} (h : x.bind k = some r) : ∃ y, x = some y ∧ k y = some r := by
 cases x with
 | none => cases h
 | some y => exact ⟨y, rfl, h⟩

theorem ite_t {β : Type} {c : Bool} {x y : Option β} {r : β} (hc : c = true) (h : (if c = true then x else y) = some r) : x = some r := by rwa [if_pos hc] at h

theorem ite_f {β : Type} {c : Bool} {x y : Option β} {r : β} (hc : c = false) (h : (if c = true then x else y) = some r) : y = some r := by rw [if_neg (by simp [hc])] at h; exact h

theorem bsplit {X : Prop} (b : Bool) (h1 : b = true → X) (h2 : b = false → X) : X := by cases b; exact h2 rfl; exact h1 rfl

theorem some_in {β : Type} {x r : β} (h : some x = some r) : x = r := Option.some.inj h

def optE {α β : Type} (o : Option α) (x : β) (f : α → β) : β := match o with | none => x | some y => f y

theorem optE_in {α β : Type} {o : Option α} {x : Option β} {f : α → Option β} {r : β} (h : optE o x f = some r) : (o = none ∧ x = some r) ∨ ∃ y, o = some y ∧ f y = some r := by
 cases o with
 | none => exact .inl ⟨rfl, h⟩
 | some y => exact .inr ⟨y, rfl, h⟩

/-- .. under a guard -/
def gif {α : Type} (p : Bool) (x : Option α) (d : α) : Option α := if p = true then x else some d

theorem gif_no {α : Type} {p : Bool} {x : Option α} {d y : α} (h : gif p x d = some y) (hp : p = false) : y = d := by unfold gif at h; rw [if_neg (by rw [hp]; exact Bool.false_ne_true)] at h; exact (Option.some.inj h).symm

theorem gif_in {α : Type} {p : Bool} {x : Option α} {d y : α} (h : gif p x d = some y) (hp : p = true) : x = some y := by unfold gif at h; rwa [if_pos hp] at h

/-- rounds -/
def iter {σ R : Type} (body : (σ → Option R) → σ → Option R) : Nat → σ → Option R
 | 0, _ => none
 | n + 1, s => body (iter body n) s

def FU : Nat := 18446744073709551616

section flow
variable {P : Program} {Q : Exit → Act → World → Prop} {a : Act} {w : World} {n : Nat} {S : Slots}

theorem f_iter {c : Code} {σ R : Type} {body : (σ → Option R) → σ → Option R} {r : R} {m : Nat} {s : σ} (hF : iter body m s = some r) (I : σ → Act → World → Prop) (h0 : I s a w)
  (round : ∀ rec s a w, I s a w → body rec s = some r → c.wp P (Exit.then (fun a' w' => ∃ s', I s' a' w' ∧ rec s' = some r) Q) a w) : (Code.loop c).wp P Q a w := by
 refine f_loop (σ := Nat × σ) (fun p a' w' => I p.2 a' w' ∧ iter body p.1 p.2 = some r) (fun p => p.1) (m, s) ⟨h0, hF⟩ ?_
 rintro ⟨k, s1⟩ a1 w1 ⟨h1, h2⟩
 cases k with
 | zero => cases h2
 | succ k =>
  refine wp_mono (round (iter body k) s1 a1 w1 h1 h2) fun e a2 w2 hq => ?_
  cases e with
  | normal =>
   obtain ⟨s', h3, h4⟩ := hq
   exact ⟨(k, s'), ⟨h3, h4⟩, Nat.lt_succ_self k⟩
  | _ => exact hq

theorem f_cut {A B : Code} (J : Act → World → Prop) (hB : ∀ a w, J a w → B.wp P Q a w) (hA : A.wp P (Exit.then J Q) a w) : (Code.seq A B).wp P Q a w := by
 refine wp_seq (wp_mono hA fun e a2 w2 hq => ?_)
 cases e with
 | normal => exact hB _ _ hq
 | _ => exact hq

end flow

-- numbers
def inI (x : Int) : Prop := -9223372036854775808 ≤ x ∧ x ≤ 9223372036854775807

def inU (x : Int) : Prop := 0 ≤ x ∧ x ≤ 18446744073709551615

def inB (x : Int) : Prop := 0 ≤ x ∧ x ≤ 255

def inH (x : Int) : Prop := 0 ≤ x ∧ x ≤ 65535

instance (x : Int) : Decidable (inI x) := inferInstanceAs (Decidable (_ ∧ _))

instance (x : Int) : Decidable (inU x) := inferInstanceAs (Decidable (_ ∧ _))

instance (x : Int) : Decidable (inB x) := inferInstanceAs (Decidable (_ ∧ _))

instance (x : Int) : Decidable (inH x) := inferInstanceAs (Decidable (_ ∧ _))

theorem wrI {x : Int} (h : inI x) : IntKind.i64.wrap x = x := IntWalk.i64_in _ h

-- slices as opaque values
def oofOf : Value → Nat | .slice (some a) _ _ => a.off | _ => 0

def slS (v : Value) (n : Nat) : Prop := ∃ ao cap, v = .slice ao n cap ∧ n ≤ cap ∧ cap ≤ maxLen

def subV (v : Value) (i j m : Nat) : Value := match v with | .slice ao _ cap => .slice (subA ao cap i m) (j - i) (cap - i) | x => x

theorem slS.one {v : Value} {n : Nat} (h : slS v n) : v.oneCell' = true := by obtain ⟨ao, cap, rfl, _⟩ := h; rfl

theorem slS.cells {v : Value} {n : Nat} (h : slS v n) : v.cells = [v].toArray := by obtain ⟨ao, cap, rfl, _⟩ := h; rfl

theorem slS.nil : slS (.slice none 0 0) 0 := ⟨none, 0, rfl, Nat.le_refl _, Nat.zero_le _⟩

theorem one_nil : ∀ u ∈ ([] : List Value), u.oneCell' = true := fun _ h => by cases h

theorem one_cons {v : Value} {l : List Value} (h : v.oneCell' = true) (hl : ∀ u ∈ l, u.oneCell' = true) : ∀ u ∈ v :: l, u.oneCell' = true := fun u hu => by
 cases hu with
 | head => exact h
 | tail _ hu => exact hl u hu

section obs
variable {P : Program} (T : Tab P) {ev : Operand → Option Value} {o : Oper} {w : World}

theorem Ob_slen {x : Operand} {t n : Nat} {v : Value} (ho : o.op = .call { callee := .builtin .len, args := #[x], argTypes := #[t] }) (hx : ev x = some v) (ht : T.isSl t = true) (hv : slS v n) : Ob P ev o (.int .i64 (n : Int)) w := by
 obtain ⟨ao, cap, rfl, _⟩ := hv
 refine cval_ob T ev o _ ?_ w
 simp [cval, ho, hx, ht]

/-- an element's address -/
def slP (v : Value) (n : Nat) : Prop := v = .slice (some ⟨blkOf v, oofOf v, none⟩) n (capOf v)

theorem Ob_sidx {t n : Nat} {x i : Operand} {v : Value} {k : IntKind} {z : Int} {e m : Nat} (ho : o.op = .indexAddr t x i) (hx : ev x = some v) (hi : ev i = some (.int k z)) (ht : T.sl t = some (e, m)) (hv : slP v n) (hz : 0 ≤ z ∧ z < (n : Int)) :
  Ob P ev o (.pointer (some ⟨blkOf v, oofOf v + z.toNat * m, none⟩)) w :=
 Ob_idx T (b := blkOf v) (off := oofOf v) z.toNat ho (hx.trans (congrArg some hv)) rfl hi ht (by omega) (by omega)

theorem Ob_sub_from {t n e m : Nat} {x lo : Operand} {v : Value} {z : Int} (ho : o.op = .slice t x (some lo) none none) (hx : ev x = some v) (hlo : ev lo = some (.int .i64 z)) (ht : T.sl t = some (e, m)) (hv : slS v n) (hz : 0 ≤ z ∧ z ≤ (n : Int)) : Ob P ev o (subV v z.toNat n m) w := by
 obtain ⟨ao, cap, rfl, hc, _⟩ := hv
 exact Ob_sl_from T z.toNat ho hx hlo ht (by omega) (by omega) hc

theorem Ob_sub_to {t n e m : Nat} {x hi : Operand} {v : Value} {z : Int} (ho : o.op = .slice t x none (some hi) none) (hx : ev x = some v) (hhi : ev hi = some (.int .i64 z)) (ht : T.sl t = some (e, m)) (hv : slS v n) (hz : 0 ≤ z ∧ z ≤ (n : Int)) : Ob P ev o (subV v 0 z.toNat m) w := by
 obtain ⟨ao, cap, rfl, hc, _⟩ := hv
 exact Ob_sl_to T z.toNat ho hx hhi ht (by omega) (by omega)

end obs

section els
variable {α : Type} [Inhabited α] {R : Rp α} {A : Nat → Prop} {w : World} {v : Value} {l : List α} {z : Int}

theorem slPl (h : slRep R A w v l) (hz : 0 ≤ z ∧ z < (l.length : Int)) : slP v l.length := by
 obtain ⟨ao, cap, rfl, _, _⟩ := h.shape
 obtain ⟨h1, _⟩ := elt h z.toNat (by omega)
 unfold slP
 rw [h1]; rfl

theorem slEl (h : slRep R A w v l) (hz : 0 ≤ z ∧ z < (l.length : Int)) : (A (blkOf v) ∧ blkOf v < w.heap.size) ∧ ∃ cl, R.rep A w cl (l.getD z.toNat default) ∧ At w (blkOf v) (oofOf v + z.toNat * R.n) cl := by
 have hp := slPl h hz
 obtain ⟨ao, cap, rfl, _, _⟩ := h.shape
 obtain ⟨h1, h2, cl, h3, h4⟩ := elt h z.toNat (by omega)
 rw [h1] at hp h2 h4 ⊢
 exact ⟨h2, cl, h3, h4⟩

theorem slFl {n : Nat} {ok : α → Prop} {enc : α → List Value} {hl h1} (h : slRep (Rp.flat n ok enc hl h1) A w v l) (hz : 0 ≤ z ∧ z < (l.length : Int)) : At w (blkOf v) (oofOf v + z.toNat * n) (enc (l.getD z.toNat default)) := by
 obtain ⟨_, cl, ⟨rfl, _⟩, h4⟩ := slEl h hz
 exact h4

omit [Inhabited α] in
theorem slRep.subV (h : slRep R A w v l) (i j m : Nat) (hm : R.n = m) (hij : i ≤ j) (hj : j ≤ l.length) : slRep R A w (subV v i j m) ((l.take j).drop i) := by
 obtain ⟨ao, cap, rfl, _, _⟩ := h.shape
 exact h.sub m i j hm hij hj

end els

/-- cells at a place that never turns, if p -/
def AtG (p : Prop) (b off : Nat) (cl : List Value) : Ch where
 P I w fp := (∀ k, ¬ fp k) ∧ (p → I b ∧ b < w.heap.size ∧ At w b off cl)
 keep := fun ⟨h1, h2⟩ hI hk => ⟨h1, fun hp => by
  obtain ⟨h3, h4, h5⟩ := h2 hp
  exact ⟨hI _ h3, Nat.lt_of_lt_of_le h4 hk.1, h5.keep (I := fun k => k = b) ⟨hk.1, fun k e hl => hk.2 k (.inl (e ▸ h3)) hl⟩ rfl h4⟩⟩
 pur := true
 hpur := fun _ _ _ _ h => h.1

section hf
variable {I0 D : Dm} {w0 : World} {I : Dm} {w : World} {cs : List Ch} {α : Type} {R : Rp α}

theorem Hf.elG [Inhabited α] (H : Hf I0 D w0 I w cs) (i : Nat) {v : Value} {l : List α} (h : cs[i]? = some (SlC R v l)) (z : Int) (hd : ∃ cl, R.rep I w cl default) : ∃ cl, R.rep I w cl (l.getD z.toNat default) ∧ Hf I0 D w0 I w (AtG (0 ≤ z ∧ z < (l.length : Int)) (blkOf v) (oofOf v + z.toNat * R.n) cl :: cs) := by
 have hs := H.sl i h
 by_cases hz : 0 ≤ z ∧ z < (l.length : Int)
 ·obtain ⟨⟨h1, h2⟩, cl, h3, h4⟩ := slEl hs hz
  exact ⟨cl, h3, H.add (f := fun _ => False) (c := AtG _ _ _ cl) ⟨fun _ => id, fun _ => ⟨h1, h2, h4⟩⟩ fun _ => id⟩
 ·by_cases h0 : z.toNat < l.length
  ·obtain ⟨_, b, off, _, _, _, _, _, hx⟩ := id hs
   obtain ⟨cl, h3, _⟩ := hx z.toNat h0
   rw [← getD_get _ _ default h0] at h3
   exact ⟨cl, h3, H.add (f := fun _ => False) (c := AtG _ _ _ cl) ⟨fun _ => id, fun hp => absurd hp hz⟩ fun _ => id⟩
  ·obtain ⟨cl, h3⟩ := hd
   refine ⟨cl, ?_, H.add (f := fun _ => False) (c := AtG _ _ _ cl) ⟨fun _ => id, fun hp => absurd hp hz⟩ fun _ => id⟩
   rw [List.getD_eq_getElem?_getD, List.getElem?_eq_none (by omega)]
   exact h3

theorem Hf.atg (H : Hf I0 D w0 I w cs) (i : Nat) {p : Prop} {b off : Nat} {cl : List Value} (h : cs[i]? = some (AtG p b off cl)) (hp : p) : At w b off cl := ((H.get i h).choose_spec.1.2 hp).2.2

theorem Hf.slNil (H : Hf I0 D w0 I w cs) (R : Rp α) : Hf I0 D w0 I w (SlC R (.slice none 0 0) [] :: cs) := H.addsl (slRep.nil R _ _ none 0 (by decide))

theorem Hf.openX {β : Type} {f : β → List Ch} (H : Hf I0 D w0 I w cs) (i : Nat) (hi : cs[i]? = some (ExC f)) : ∃ x, Hf I0 D w0 I w (f x ++ cs.eraseIdx i) := by
 obtain ⟨fp, h1, h2⟩ := H.star
 obtain ⟨g1, g2, ⟨x, hx⟩, h4, h5, h6⟩ := h1.take hi
 exact ⟨x, H.frm, H.imm, H.imm2, _, (hx.app h4 h5).iff h6, h2⟩

theorem Hf.shutX {β : Type} {f : β → List Ch} (x : β) (H : Hf I0 D w0 I w cs) (js : List (Nat × Bool)) {rst : List Ch} (hp : pickN js cs = some (f x, rst)) : Hf I0 D w0 I w (ExC f :: rst) := by
 obtain ⟨fp, h1, h2⟩ := H.star
 obtain ⟨g1, g2, h3, h4, h5, h6⟩ := h1.pick hp
 exact ⟨H.frm, H.imm, H.imm2, fp, ⟨g1, g2, ⟨x, h3⟩, h4, h5, h6⟩, h2⟩

end hf

section rules
variable {P : Program} (T : Tab P) {ops : Array Oper} {Q : Exit → Act → World → Prop} {a : Act} {w : World} {rest : List Oper} {o : Oper} {n : Nat} {S : Slots} {G : List GV}
variable {I0 D : Dm} {w0 : World} {I : Dm} {cs : List Ch}

theorem h_appO (hok : PsD ds ops n S G a) (H : Hf I0 D w0 I w cs) (i : Nat) {d t e m bytes : Nat} {s x : Operand} {α : Type} {R : Rp α} (E : Elem P t e m bytes) {vs vx : Value} {l : List α} (l2 : List α) (hi : cs[i]? = some (OwC R e vs l)) (hn : R.n = m)
  (hg : o.guard = none) (ho : o.op = .call { callee := .builtin .append, args := #[s, x], argTypes := #[t, t] }) (hd : o.dst = some d) (hdn : d < n) (hf : gFree ops G d = true)
  (hs : evS S s = some vs) (hx : evS S x = some vx) (hsrc : slRep2 R AnyA I w vx l2) (hb : ((l.length + l2.length : Nat) : Int) * bytes ≤ 140737488355328) (hp : bytes ≠ 0)
  (h : ∀ v a' w', Hf I0 D w0 I w' (OwC R e v (l ++ l2) :: cs.eraseIdx i) → PsD ds ops n ((d, v) :: S) G a' → wpList P ops Q rest a' w') : wpList P ops Q (o :: rest) a w := by
 have hb' : (l.length + l2.length) * bytes ≤ 140737488355328 := by rw [← Int.natCast_mul] at hb; omega
 have hb2 : l.length + l2.length ≤ (l.length + l2.length) * bytes := Nat.le_mul_of_pos_right _ (Nat.pos_of_ne_zero hp)
 exact h_app hok H i E l2 hi hn hg ho hd hdn hf hs hx hsrc (by unfold maxLen; omega) hb' fun ao cap a' w' h1 _ _ h4 => h _ a' w' h1 h4

end rules

-- readings
def Ni64 : Rp Int := Rp.flat 1 (fun _ => True) (fun x => [.int .i64 x]) (fun _ => rfl) (fun x c hc => by simp at hc; rw [hc]; rfl)

def Nu64 : Rp Int := Rp.flat 1 (fun _ => True) (fun x => [.int .u64 x]) (fun _ => rfl) (fun x c hc => by simp at hc; rw [hc]; rfl)

def NS : Rp ByteArray := Rp.flat 1 (fun _ => True) (fun x => [.string x]) (fun _ => rfl) (fun x c hc => by simp at hc; rw [hc]; rfl)

def NBo : Rp Bool := Rp.flat 1 (fun _ => True) (fun x => [.bool x]) (fun _ => rfl) (fun x c hc => by simp at hc; rw [hc]; rfl)

instance : Inhabited ByteArray := ⟨ByteArray.empty⟩

section obs2
variable {P : Program} (T : Tab P) {ev : Operand → Option Value} {o : Oper} {w : World}
theorem Ob_pnil {t t2 : Nat} {x y : Operand} {p : Option Addr} {op : BinOp} {c : Bool} (ho : o.op = .binOp op t x y t2) (hx : ev x = some (.pointer p)) (hy : ev y = some (.pointer none)) {e : TypeId} (ht0 : P.underlying t = some (.pointer e)) (hc : (op = .eql ∧ c = p.isNone) ∨ (op = .neq ∧ c = !p.isNone)) : Ob P ev o (.bool c) w := by
 intro ρ hρ
 have ht : P.underlying t = some (.pointer (P.pointee t)) := by unfold Program.pointee; rw [ht0]
 unfold execOp
 rcases hc with ⟨rfl, rfl⟩ | ⟨rfl, rfl⟩
 ·simp [ho, hρ _ _ hx, hρ _ _ hy, run_eql_pointer_nil w t p ht, eqGuard]
 ·simp [ho, hρ _ _ hx, hρ _ _ hy, run_neq_pointer_nil w t p ht, eqGuard]

end obs2

theorem slPart {α : Type} {R : Rp α} {A : Dm} {w : World} {v : Value} {l : List α} (h : slRep R A w v l) (i j m : Nat) (hm : R.n = m) (hij : i ≤ j) (hj : j ≤ l.length) : slRep R A w (subV v i j m) ((l.take j).drop i) := h.subV i j m hm hij hj

section parts
variable {I0 D : Dm} {w0 : World} {I : Dm} {w : World} {cs : List Ch} {α : Type} {R : Rp α}
theorem Hf.slPart_from (H : Hf I0 D w0 I w cs) (i : Nat) {v : Value} {l : List α} (h : cs[i]? = some (SlC R v l)) {z : Int} (hz : 0 ≤ z ∧ z ≤ (l.length : Int)) (m : Nat) (hm : R.n = m) : Hf I0 D w0 I w (SlC R (subV v z.toNat l.length m) (l.drop z.toNat) :: cs) := by
 have := slPart (H.sl i h) z.toNat l.length m hm (by omega) (Nat.le_refl _)
 rw [List.take_length] at this
 exact H.addsl this

theorem Hf.slPart_to (H : Hf I0 D w0 I w cs) (i : Nat) {v : Value} {l : List α} (h : cs[i]? = some (SlC R v l)) {z : Int} (hz : 0 ≤ z ∧ z ≤ (l.length : Int)) (m : Nat) (hm : R.n = m) : Hf I0 D w0 I w (SlC R (subV v 0 z.toNat m) (l.take z.toNat) :: cs) := by
 have := slPart (H.sl i h) 0 z.toNat m hm (Nat.zero_le _) (by omega)
 rw [List.drop_zero] at this
 exact H.addsl this

theorem Ow.slS {A : Dm} {base : Nat} {e : TypeId} {v : Value} {l : List α} (h : Ow R A base e w v l) : slS v l.length := h.len_le

/-- an owned slice is cut short -/
theorem Hf.truncO (H : Hf I0 D w0 I w cs) (i : Nat) {e : TypeId} {v : Value} {l : List α} (hi : cs[i]? = some (OwC R e v l)) {z : Int} (hz : 0 ≤ z ∧ z ≤ (l.length : Int)) (m : Nat) : Hf I0 D w0 I w (OwC R e (subV v 0 z.toNat m) (l.take z.toNat) :: cs.eraseIdx i) := by
 obtain ⟨ao, cap, rfl, hc, hm⟩ := H.owshape i hi
 have := H.trunc i hi z.toNat m (by omega)
 simpa [subV] using this

/-- an element of a slice of the walk's own, its parts -/
theorem Hf.owEl [Inhabited α] (H : Hf I0 D w0 I w cs) (i : Nat) {e : TypeId} {v : Value} {l : List α} (hi : cs[i]? = some (OwC R e v l)) {z : Int} (hz : 0 ≤ z ∧ z < (l.length : Int)) : ∃ cl, R.rep I w cl (l.getD z.toNat default) ∧ At w (blkOf v) (oofOf v + z.toNat * R.n) cl := by
 obtain ⟨ao, cap, rfl, hc, hm⟩ := H.owshape i hi
 obtain ⟨h1, _, cl, h3, h4⟩ := H.eltO i hi z.toNat (by omega)
 refine ⟨cl, h3, ?_⟩
 rw [h1] at h4 ⊢
 exact h4

theorem Hf.pick0 (H : Hf I0 D w0 I w cs) {js : List (Nat × Bool)} {cin rst : List Ch} (hp : pickN js cs = some (cin, rst)) (hpu : cin.all (·.pur) = true) : St I NoD w cin := by
 obtain ⟨fp, h1, h2⟩ := H.star
 obtain ⟨f, g, h3, h4, h5, h6⟩ := h1.pick hp
 have key : ∀ (l : List Ch) (f : Dm), l.all (·.pur) = true → Star I w l f → ∀ k, ¬ f k := by
  intro l
  induction l with
  | nil => intro f _ h; exact h
  | cons c l ih =>
   intro f hp ⟨f1, f2, a, b, d, e⟩ k hk
   simp only [List.all_cons, Bool.and_eq_true] at hp
   rcases (e k).1 hk with h | h
   ·exact c.hpur hp.1 a k h
   ·exact ih f2 hp.2 b k h
 have h7 := key cin f hpu h3
 exact ⟨fun k hk => (H.imm2 k hk).1, h3.iff fun k => ⟨fun h => h.elim, fun h => h7 k h⟩, fun k h => h.elim⟩

end parts

theorem slRep2.part_from {α : Type} {R : Rp α} {A0 A : Dm} {w : World} {v : Value} {l : List α} (h : slRep2 R A0 A w v l) {z : Int} (hz : 0 ≤ z ∧ z ≤ (l.length : Int)) (m : Nat) (hm : R.n = m) : slRep2 R A0 A w (subV v z.toNat l.length m) (l.drop z.toNat) := by
 obtain ⟨ao, b, off, cap, rfl, hc, hx⟩ := id h
 have := h.sub m z.toNat l.length hm (by omega) (Nat.le_refl _)
 rwa [List.take_length] at this

theorem plainC {P : Program} {f : Nat} {args : Array Value} {I : Dm} {w : World} {x : Value} {cs : List Ch} (h : Calls P f args w (Ret fun v w' => v = x ∧ ∃ I', Hf I NoD w I' w' cs)) : Calls P f args w (Ret fun r w' => r = x ∧ Below w.heap.size w w') :=
 Ret.mono h fun _ _ h => ⟨h.1, h.2.choose_spec.below fun _ h => h⟩

section rules3
variable {P : Program} (T : Tab P) {ops : Array Oper} {Q : Exit → Act → World → Prop} {a : Act} {w : World} {rest : List Oper} {o : Oper} {n : Nat} {S : Slots}
variable {I0 D : Dm} {w0 : World} {I : Dm} {cs : List Ch}
/-- a call under a guard that turns the world -/
theorem h_gcall (hok : PsD ds ops n S [] a) (H : Hf I0 D w0 I w cs) {js : List (Nat × Bool)} {cin rst : List Ch} (hp0 : pickN js cs = some (cin, rst)) {d i e f : Nat} {pol p : Bool} {v ve : Value} {S' : Slots} {c : Call} {fv : Operand} {caps : Array Value} {vs : List Value} (co : Bool → List Ch) (hf : IsFn P f)
  (hg : o.guard = some (i, pol)) (hi : (ops[i]?).bind (·.dst) = some e) (he : S.lookup e = some ve) (hp : wantB ve pol = p) (hd : o.dst = some d) (hdn : d < n)
  (hS : p = true → SlD ds n S a → SlD ds n S' a) (ho : o.op = .call c) (hcv : c.callee = .value fv) (hfv : evS S' fv = some (.func (.func f) #[] caps)) (hx : c.args.toList.mapM (evS S') = some vs)
  (hc : p = true → ∀ D1, St I D1 w cin → Calls P f (vs.toArray ++ caps) w (Ret fun r w' => r = v ∧ ∃ I', Hf I D1 w I' w' (co true))) (hno : p = false → Hf I0 D w0 I w (co false ++ rst))
  (h : ∀ a' w' I2, Hf I0 D w0 I2 w' (co p ++ rst) → PsD ds ops n ((d, cond p v undef) :: S) [] a' → wpList P ops Q rest a' w') : wpList P ops Q (o :: rest) a w := by
 have hw := wanted_want (ops := ops) hg hi (hok.sl.2.2 _ _ he)
 unfold wpList
 rw [hw, hp]
 cases p with
 | true =>
  have hS' := hS rfl hok.sl
  rw [if_pos rfl]
  left
  have e1 : c.args.map a.eval = vs.toArray := by
   apply Array.toList_inj.1
   rw [Array.toList_map, evs_map (fun x u hx => hS'.ev hx) _ _ hx]
  unfold Oper.wp
  rw [run_callv hf ho hcv (hS'.ev hfv) e1, Oper.upon_enter]
  obtain ⟨D1, h1, h2⟩ := H.call hp0
  refine (hc rfl D1 h1).mono fun ed w' he => ?_
  cases ed with
  | returned r =>
   obtain ⟨rfl, I', K⟩ := he
   show wpList P ops Q rest (a.put o.dst _) w'
   rw [hd]
   exact h _ _ _ (h2 K) (hok.put hdn rfl _)
  | panicked c => exact he.elim
  | outgrown => exact he.elim
 | false =>
  rw [if_neg (by simp), hd]
  exact h _ _ _ (hno rfl) (hok.put hdn rfl _)

end rules3

theorem fieldsOf_of {P : Program} {t : Nat} {fs : Array Field} (h : P.underlying t = some (.struct fs)) : P.fieldsOf t = fs := by simp [Program.fieldsOf, h]

theorem beqS (x y : ByteArray) : (x.toList == y.toList) = decide (x = y) := seqB_eq x y

theorem run_eqGuard_agg {P : Program} {t : Nat} (h : P.eqGuardType P.depth t = false) (op : BinOp) (x y : Operand) (a b : Array Value) (w : World) : (eqGuard op t x y (.agg a) (.agg b)).run P w = .ok () w := by
 unfold eqGuard
 cases op <;> simp [h]

-- pointers that may be nil
def PtC {α : Type} (K : Nat → α → Ch) (v : Value) (o : Option α) : Ch := match o with
 | none => PfC (v = .pointer none)
 | some x => ExC fun (b : Nat) => [PfC (v = .pointer (some ⟨b, 0, none⟩)), K b x]

section opt
variable {I0 D : Dm} {w0 : World} {I : Dm} {w : World} {cs : List Ch} {α : Type} {K : Nat → α → Ch}
theorem Hf.optN (H : Hf I0 D w0 I w cs) (i : Nat) {v : Value} {o : Option α} (h : cs[i]? = some (PtC K v o)) (ho : o = none) : v = .pointer none ∧ Hf I0 D w0 I w (cs.eraseIdx i) := by
 subst ho
 refine ⟨H.pf i h, ?_⟩
 obtain ⟨fp, h1, h2⟩ := H.star
 obtain ⟨f, g, h3, h4, h5, h6⟩ := h1.take h
 exact ⟨H.frm, H.imm, H.imm2, g, h4, fun k hk => h2 k ((h6 k).2 (.inr hk))⟩

theorem Hf.drop1 (H : Hf I0 D w0 I w cs) (i : Nat) {c : Ch} (h : cs[i]? = some c) : Hf I0 D w0 I w (cs.eraseIdx i) := by
 obtain ⟨fp, h1, h2⟩ := H.star
 obtain ⟨f, g, h3, h4, h5, h6⟩ := h1.take h
 exact ⟨H.frm, H.imm, H.imm2, g, h4, fun k hk => h2 k ((h6 k).2 (.inr hk))⟩

theorem Hf.optS (H : Hf I0 D w0 I w cs) (i : Nat) {v : Value} {o : Option α} {x : α} (h : cs[i]? = some (PtC K v o)) (ho : o = some x) : ∃ b, v = .pointer (some ⟨b, 0, none⟩) ∧ Hf I0 D w0 I w (K b x :: cs.eraseIdx i) := by
 subst ho
 obtain ⟨b, H2⟩ := H.openX i h
 exact ⟨b, H2.pf 0 rfl, H2.drop1 0 rfl⟩

theorem Hf.optI (H : Hf I0 D w0 I w cs) (i : Nat) {v : Value} {o : Option α} (h : cs[i]? = some (PtC K v o)) : ∃ p, v = .pointer p ∧ p.isNone = o.isNone := by
 cases o with
 | none => exact ⟨none, H.pf i h, rfl⟩
 | some x =>
  obtain ⟨b, H2⟩ := H.openX i h
  exact ⟨_, H2.pf 0 rfl, rfl⟩

theorem Hf.mkN (H : Hf I0 D w0 I w cs) (K : Nat → α → Ch) : Hf I0 D w0 I w (PtC K (.pointer none) none :: cs) := H.add (f := fun _ => False) (c := PfC (Value.pointer none = .pointer none)) ⟨fun _ => id, rfl⟩ fun _ => id

theorem Hf.mkS (H : Hf I0 D w0 I w cs) (i : Nat) {b : Nat} {x : α} (h : cs[i]? = some (K b x)) : Hf I0 D w0 I w (PtC K (.pointer (some ⟨b, 0, none⟩)) (some x) :: cs.eraseIdx i) := by
 have H1 := H.add (f := fun _ => False) (c := PfC (Value.pointer (some ⟨b, 0, none⟩) = .pointer (some ⟨b, 0, none⟩))) ⟨fun _ => id, rfl⟩ fun _ => id
 have hp : pickN [(i, false)] cs = some ([K b x], cs.eraseIdx i) := by simp [pickN, h]
 exact Hf.shutX (f := fun (b' : Nat) => [PfC (Value.pointer (some ⟨b, 0, none⟩) = .pointer (some ⟨b', 0, none⟩)), K b' x]) b H1 [(0, false), (i, false)] (by simp [pickN, hp, h])

end opt
theorem Ob_popt {P : Program} {ev : Operand → Option Value} {o : Oper} {w : World} {α : Type} {x y : Operand} {t t2 : Nat} {v : Value} {q : Option α} {op : BinOp} {c : Bool} (ho : o.op = .binOp op t x y t2) (hx : ev x = some v) (hy : ev y = some (.pointer none)) {e : TypeId} (ht0 : P.underlying t = some (.pointer e)) (hv : ∃ p, v = .pointer p ∧ p.isNone = q.isNone) (hc : (op = .eql ∧ c = q.isNone) ∨ (op = .neq ∧ c = !q.isNone)) : Ob P ev o (.bool c) w := by
 obtain ⟨p, rfl, hp⟩ := hv
 exact Ob_pnil ho hx hy ht0 (by rw [hp]; exact hc)

-- a drawn region whose facts may name the value of one operation ahead
def owesM (P : Program) (ops : Array Oper) (E : List Nat) (rt : Nat → Nat) (F : Nat → Value → Value → Prop) (G : Nat → (Nat → Value) → World → Prop) (a : Act) (all : List Oper) : List Oper → List (Nat × Nat × Nat) → Nat → Prop
 | o :: r, (m, lo, hi) :: tb, k => (∀ s, lo ≤ s → s ≤ hi → ∀ (vals : Nat → Value) (w' : World), G s vals w' → (∀ j, m.testBit j = true → F j (vals (rt j)) (vals j)) → wpList P ops (OpPost (fun _ _ => True) (fun v y => F k (upd vals k v (rt k)) v ∧ G (if E.contains k then s + 1 else s) (upd vals k v) y) (putAll a vals all 0) o.dst w') [o] (putAll a vals all 0) w') ∧ owesM P ops E rt F G a all r tb (k + 1)
 | _, _, _ => True

theorem owesM_at {P : Program} {ops : Array Oper} {E : List Nat} {rt : Nat → Nat} {F : Nat → Value → Value → Prop} {G : Nat → (Nat → Value) → World → Prop} {a : Act} {all : List Oper} : ∀ (l : List Oper) (tb : List (Nat × Nat × Nat)) (k : Nat), owesM P ops E rt F G a all l tb k → ∀ i o m lo hi, l[i]? = some o → tb[i]? = some (m, lo, hi) →
  ∀ s, lo ≤ s → s ≤ hi → ∀ (vals : Nat → Value) (w' : World), G s vals w' → (∀ j, m.testBit j = true → F j (vals (rt j)) (vals j)) → wpList P ops (OpPost (fun _ _ => True) (fun v y => F (k + i) (upd vals (k + i) v (rt (k + i))) v ∧ G (if E.contains (k + i) then s + 1 else s) (upd vals (k + i) v) y) (putAll a vals all 0) o.dst w') [o] (putAll a vals all 0) w'
 | [], _, _, _, i, o, _, _, _, h, _ => by simp at h
 | _ :: _, [], _, _, i, o, _, _, _, _, h => by simp at h
 | x :: r, (m', lo', hi') :: tb, k, h, i, o, m, lo, hi, h1, h2 => by
  cases i with
  | zero => simp at h1 h2; obtain ⟨rfl, rfl, rfl⟩ := h2; subst h1; exact h.1
  | succ i =>
   have := owesM_at r tb (k + 1) h.2 i o m lo hi (by simpa using h1) (by simpa using h2)
   rw [show k + 1 + i = k + (i + 1) by omega] at this
   exact this

theorem owesM.cons {P : Program} {ops : Array Oper} {E : List Nat} {rt : Nat → Nat} {F : Nat → Value → Value → Prop} {G : Nat → (Nat → Value) → World → Prop} {a : Act} {all : List Oper} {o : Oper} {r : List Oper} {m lo hi : Nat} {tb : List (Nat × Nat × Nat)} {k : Nat}
  (h1 : ∀ s, lo ≤ s → s ≤ hi → ∀ (vals : Nat → Value) (w' : World), G s vals w' → (∀ j, m.testBit j = true → F j (vals (rt j)) (vals j)) → WpL P ops (fun v y => F k (upd vals k v (rt k)) v ∧ G (if E.contains k then s + 1 else s) (upd vals k v) y) o (putAll a vals all 0) w')
  (h2 : owesM P ops E rt F G a all r tb (k + 1)) : owesM P ops E rt F G a all (o :: r) ((m, lo, hi) :: tb) k := ⟨fun s a b vals w' c d => (h1 s a b vals w' c d).h, h2⟩

theorem owesM.nil {P : Program} {ops : Array Oper} {E : List Nat} {rt : Nat → Nat} {F : Nat → Value → Value → Prop} {G : Nat → (Nat → Value) → World → Prop} {a : Act} {all : List Oper} {k : Nat} : owesM P ops E rt F G a all [] [] k := trivial

theorem f_regionM {P : Program} {l : List Oper} {id : Nat} {Q : Exit → Act → World → Prop} {a : Act} {w : World} {n : Nat} {S : Slots} (hok : SlD ds n S a) (hm : P.follows .mixedOrders = true) (hE : edgesBack l = true) (hN : (dsts l).Nodup) (hd : (dsts l).all (decide <| · < n) = true)
  (E : List Nat) (tb : List (Nat × Nat × Nat)) (htb : okTab l E tb = true) (rt : Nat → Nat) (hrt : ((List.range l.length).all fun k => rt k == k || (tb.getD k (0, 0, 0)).1.testBit (rt k)) = true) (F : Nat → Value → Value → Prop) (G : Nat → (Nat → Value) → World → Prop) (hG : ∀ vals, G 0 vals w.drew)
  (hops : ∀ fr : (Nat → Value) → Act, (∀ vals, SlD ds n (regS vals l 0 ++ S.filter (fun p => !(dsts l).contains p.1)) (fr vals)) → (∀ vals, fr vals = putAll a vals l 0) → owesM P l.toArray E rt F G a l l tb 0)
  (hend : ∀ (vals : Nat → Value) (a' : Act) (w' : World), SlD ds n (regS vals l 0 ++ S.filter (fun p => !(dsts l).contains p.1)) a' → G E.length vals w' → (∀ j, j < l.length → F j (vals (rt j)) (vals j)) → Q .normal a' w') :
  (Code.region id l.toArray true).wp P Q a w := by
 unfold okTab at htb
 simp only [Bool.and_eq_true, beq_iff_eq, decide_eq_true_eq, List.all_eq_true, List.mem_range] at htb
 obtain ⟨⟨⟨⟨h1, h2⟩, h3⟩, h4⟩, h5⟩ := htb
 have hlen : tb.length = l.length := by
  have h6 := congrArg List.length h1
  have : ∀ (l : List Oper) (acc : List Nat), (masks l acc).length = acc.length + l.length := by
   intro l
   induction l with
   | nil => intro acc; simp [masks]
   | cons o r ih => intro acc; rw [masks, ih]; simp; omega
  rw [this] at h6
  simpa using h6.symm
 have hmask : ∀ k, (masks l []).getD k 0 = (tb.getD k (0, 0, 0)).1 := fun k => by
  rw [h1, List.getD_eq_getElem?_getD, List.getD_eq_getElem?_getD, List.getElem?_map]
  cases tb[k]? <;> rfl
 refine wp_region_L hm hE hN (fun L vals w' => (∀ j, j < l.length → L j = true → F j (vals (rt j)) (vals j)) ∧ G (E.countP L) vals w') ⟨fun _ _ h => (by cases h), ?_⟩ (fun i o hi L vals w' hC hLi hf hcl => ?_) (fun L vals w' hC hL => ?_)
 ·have : E.countP (fun _ => false) = 0 := by simp
  rw [this]; exact hG _
 ·have hil : i < l.length := (List.getElem?_eq_some_iff.1 hi).1
  have hanc : ∀ (i : Nat) (q : Nat), (tb.getD i (0, 0, 0)).1.testBit q = true → L i = true → L q = true := fun i q h hL =>
   masks_in (D := fun i => L i = true) (fun i o hi h => hcl i o hi h) l [] (fun i o h => by simpa using h) (fun i q h => by simp at h) i q (by rw [hmask]; exact h) hL
  -- the forerunners of the operation at hand are listed
  have hanc2 : ∀ q, (tb.getD i (0, 0, 0)).1.testBit q = true → L q = true ∧ q < l.length := fun q h => by
   have h6 := masks_in (D := fun k => k = i ∨ L k = true) (fun k o' hk h j hj => by
    rcases h with rfl | h
    ·rw [hi] at hk; injection hk with hk; subst hk; exact .inr (hf j hj)
    ·exact .inr (hcl k o' hk h j hj)) l [] (fun i o h => by simpa using h) (fun i q h => by simp at h) i q (by rw [hmask]; exact h) (.inl rfl)
   have h7 := masks_in (D := fun k => k ≤ i) (fun k o' hk h j hj => by have := fore_lt hE k o' hk j hj; omega) l [] (fun i o h => by simpa using h) (fun i q h => by simp at h) i q (by rw [hmask]; exact h) (Nat.le_refl i)
   have hne : q ≠ i := fun e => by
    subst e
    have h8 := masks_in (D := fun k => k < q ∨ L k = true) (fun k o' hk h j hj => by
     rcases h with h | h
     ·have := fore_lt hE k o' hk j hj; exact .inl (by omega)
     ·exact .inr (hcl k o' hk h j hj)) l [] (fun i o h => by simpa using h) (fun i q h => by simp at h)
    -- a forerunner stands strictly ahead
    have key : ∀ (l' : List Oper) (acc : List Nat), (∀ i o, l'[i]? = some o → l[acc.length + i]? = some o) → (∀ i q, (acc.getD i 0).testBit q = true → q < i) → ∀ i q, ((masks l' acc).getD i 0).testBit q = true → q < i := by
     intro l'
     induction l' with
     | nil => intro acc _ ha i q h; exact ha i q h
     | cons o r ih =>
      intro acc hl ha
      refine ih _ (fun i o' hi => ?_) (fun i q h => ?_)
      ·rw [List.length_append, show acc.length + [(fore o).foldl (fun m j => m ||| ((1 <<< j) ||| acc.getD j 0)) 0].length + i = acc.length + (i + 1) by simp; omega]
       exact hl (i + 1) o' (by simpa using hi)
      ·by_cases h1 : i < acc.length
       ·rw [List.getD_eq_getElem?_getD, List.getElem?_append_left h1, ← List.getD_eq_getElem?_getD] at h
        exact ha i q h
       ·by_cases h2 : i = acc.length
        ·subst h2
         rw [List.getD_eq_getElem?_getD, List.getElem?_append_right (Nat.le_refl _), Nat.sub_self] at h
         simp only [List.getElem?_cons_zero, Option.getD_some] at h
         rcases foldl_bit acc q _ _ h with h3 | ⟨j, h3, h4⟩
         ·simp at h3
         ·have h5 := fore_lt hE _ o (hl 0 o rfl) j h3
          rcases h4 with rfl | h4
          ·exact h5
          ·have := ha j q h4; omega
        ·rw [List.getD_eq_getElem?_getD, List.getElem?_eq_none (by simp; omega)] at h
         simp at h
    have := key l [] (fun i o h => by simpa using h) (fun i q h => by simp at h) q q (by rw [hmask]; exact h)
    omega
   exact ⟨h6.resolve_left hne, by omega⟩
  have htb : tb[i]? = some (tb.getD i (0, 0, 0)) := by
   rw [List.getD_eq_getElem?_getD, List.getElem?_eq_getElem (by omega)]; rfl
  have h6 := h5 i hil
  obtain ⟨hlo, hhi⟩ := h6
  have hlo2 : (tb.getD i (0, 0, 0)).2.1 ≤ E.countP L := Nat.le_trans hlo (List.countP_mono_left fun e _ he => (hanc2 e he).1)
  have hchain : ∀ j j' (hj : j < E.length) (hj' : j' < E.length), j ≤ j' → L E[j'] = true → L E[j] = true := fun j j' hj hj' hle h => by
   by_cases e : j = j'
   ·subst e; exact h
   ·have := h4 j' hj' j (by omega)
    rw [getD_get _ _ _ hj', getD_get _ _ _ hj] at this
    exact hanc _ _ this h
  have hstage : ∀ j (hj : j < E.length), L E[j] = false → E.countP L ≤ j := fun j hj h => countP_le_of j hj fun q hq hle => by
   cases hx : L E[q] with
   | false => rfl
   | true => rw [hchain j q hj hq hle hx] at h; cases h
  have hhi2 : E.countP L ≤ (tb.getD i (0, 0, 0)).2.2 := by
   split at hhi
   ·rename_i hc
    have hc' : i ∈ E := by simpa using hc
    have hlt := List.idxOf_lt_length_of_mem hc'
    have := hstage (E.idxOf i) hlt (by rw [List.getElem_idxOf]; exact hLi)
    have := of_decide_eq_true hhi
    omega
   ·rw [Bool.or_eq_true, Bool.and_eq_true] at hhi
    rcases hhi with hh | ⟨hh, hb⟩
    ·have h7 := of_decide_eq_true hh
     have : E.countP L ≤ E.length := List.countP_le_length
     omega
    ·have hlt := of_decide_eq_true hh
     refine hstage _ hlt ?_
     cases hx : L E[(tb.getD i (0, 0, 0)).2.2] with
     | false => rfl
     | true =>
      rw [getD_get E _ _ hlt] at hb
      rw [hanc _ _ hb hx] at hLi; cases hLi
  have ho := owesM_at l tb 0 (hops (fun vals => putAll a vals l 0) (fun vals => hok.reg hN hd vals) (fun _ => rfl)) i o _ _ _ hi htb (E.countP L) hlo2 hhi2 vals w' hC.2 (fun j hj => hC.1 j (hanc2 j hj).2 (hanc2 j hj).1)
  rw [Nat.zero_add] at ho
  refine ⟨_, ho, fun v w'' ⟨hFv, hGv⟩ => ⟨fun j hj hLj => ?_, ?_⟩⟩
  ·by_cases hne : j = i
   ·subst hne; rw [show upd vals j v j = v from if_pos rfl]; exact hFv
   ·have e1 : upd vals i v j = vals j := if_neg hne
    rw [e1]
    have hLj' : L j = true := by simpa [hne] using hLj
    have h9 := hC.1 j hj hLj'
    rw [List.all_eq_true] at hrt
    have h8 := hrt j (by simpa using hj)
    rw [Bool.or_eq_true, beq_iff_eq] at h8
    have hrj : rt j ≠ i := fun e => by
     rcases h8 with h8 | h8
     ·exact hne (by rw [← h8]; exact e)
     ·have := hanc j _ h8 hLj'; rw [e, hLi] at this; cases this
    rw [show upd vals i v (rt j) = vals (rt j) from if_neg hrj]; exact h9
  ·have : E.countP (fun j => L j || j == i) = if E.contains i then E.countP L + 1 else E.countP L := by
    split
    ·rename_i hc; exact countP_upd h2 (by simpa using hc) hLi
    ·rename_i hc
     refine List.countP_congr fun x hx => ?_
     have : x ≠ i := fun e => by subst e; exact hc (by simpa using hx)
     simp [this]
   rw [this]; exact hGv
 ·refine hend vals _ w' (hok.reg hN hd vals) ?_ (fun j hj => hC.1 j hj (hL j hj))
  have : E.countP L = E.length := by
   rw [List.countP_eq_length]
   exact fun e he => hL e (h3 e he)
  rw [← this]; exact hC.2

section lrules2
variable {P : Program} (T : Tab P) {ops : Array Oper} {Fv : Value → World → Prop} {a : Act} {w : World} {o : Oper} {n : Nat} {S : Slots}
variable {I0 D : Dm} {w0 : World} {I : Dm} {cs : List Ch}
theorem L_gw (hS : SlD ds n S a) {i e : Nat} {pol p : Bool} {ve : Value} (hg : o.guard = some (i, pol)) (hi : (ops[i]?).bind (·.dst) = some e) (he : S.lookup e = some ve) (hp : wantB ve pol = p)
  (hyes : p = true → WpL P ops Fv { o with guard := none } a w) (hno : p = false → Fv undef w) : WpL P ops Fv o a w := by
 refine ⟨?_⟩
 have hw := wanted_want (ops := ops) hg hi (hS.2.2 _ _ he)
 cases p with
 | true =>
  have h := (hyes rfl).h
  unfold wpList at h ⊢
  rw [if_pos (wanted_none rfl _)] at h
  rw [hw, hp, if_pos rfl]
  exact h
 | false =>
  unfold wpList
  rw [hw, hp, if_neg (by simp)]
  exact ⟨undef, rfl, trivial, hno rfl⟩

theorem L_appO (H : Hf I0 D w0 I w cs) (i : Nat) {t e m bytes : Nat} {s x : Operand} {α : Type} {R : Rp α} (E : Elem P t e m bytes) {vs vx : Value} {l : List α} (l2 : List α) (hi : cs[i]? = some (OwC R e vs l)) (hn : R.n = m)
  (hS : SlD ds n S a) (hg : o.guard = none) (ho : o.op = .call { callee := .builtin .append, args := #[s, x], argTypes := #[t, t] })
  (hs : evS S s = some vs) (hx : evS S x = some vx) (hsrc : slRep2 R AnyA I w vx l2) (hb : ((l.length + l2.length : Nat) : Int) * bytes ≤ 140737488355328) (hp : bytes ≠ 0)
  (h : ∀ v w', Keep I w w' → Hf I0 D w0 I w' (OwC R e v (l ++ l2) :: cs.eraseIdx i) → Fv v w') : WpL P ops Fv o a w := by
 have hb' : (l.length + l2.length) * bytes ≤ 140737488355328 := by rw [← Int.natCast_mul] at hb; omega
 have hb2 : l.length + l2.length ≤ (l.length + l2.length) * bytes := Nat.le_mul_of_pos_right _ (Nat.pos_of_ne_zero hp)
 exact L_app H i E l2 hi hn hS hg ho hs hx hsrc (by unfold maxLen; omega) hb' fun ao cap w' h1 h2 _ _ => h _ w' h1 h2

end lrules2

open Go.RowKit
abbrev vI (x : Int) : Value := .int .i64 x
abbrev vU (x : Int) : Value := .int .u64 x
abbrev vS (x : ByteArray) : Value := .string x
abbrev vT (x : Bool) : Value := .bool x
abbrev pp (b c : Nat) : Value := .pointer (some ⟨b, c, none⟩)
abbrev nS : Value := .slice none 0 0
abbrev nP : Value := .pointer none
abbrev gi {α : Type} [Inhabited α] (l : List α) (x : Int) : α := l.getD x.toNat default
abbrev ln {α : Type} (l : List α) : Int := (l.length : Int)
def o1 (ops : Array Oper) (n : Nat) (G : List GV) (o : Oper) : Option Nat := match o.guard, o.dst with
  | none, some d => match Nat.blt d n, gFree ops G d with
    | true, true => some d
    | _, _ => none
  | _, _ => none
theorem o1_in {ops : Array Oper} {n : Nat} {G : List GV} {o : Oper} {d : Nat} (h : o1 ops n G o = some d) : o.guard = none ∧ o.dst = some d ∧ d < n ∧ gFree ops G d = true := by
  unfold o1 at h
  split at h
  · rename_i h1 h2
    split at h
    · rename_i h3 h4
      injection h with h; subst h
      exact ⟨h1, h2, of_decide_eq_true (by simpa [Nat.blt_eq] using h3), h4⟩
    · cases h
  · cases h
/-- the slots of a guarded operation -/
inductive GS (p : Bool) (S : Slots) : Slots → Prop
  | z : GS p S []
  | n {S' : Slots} (t : Nat) {v : Value} (e : S.lookup t = some v) (r : GS p S S') : GS p S ((t, v) :: S')
  | c {S' : Slots} (t : Nat) {q : Bool} {v u : Value} (e : S.lookup t = some (cond q v u)) (f : p = true → q = true) (r : GS p S S') : GS p S ((t, v) :: S')
theorem GS.sl {p : Bool} {S S' : Slots} (h : GS p S S') (hp : p = true) {ds : List Deferred} {n : Nat} {a : Act} (hok : SlD ds n S a) : SlD ds n S' a := by
  induction h with
  | z => exact ⟨hok.1, hok.2.1, fun t v hv => by simp at hv⟩
  | n t e r ih =>
    refine ⟨hok.1, hok.2.1, fun k u hu => ?_⟩
    rw [lookup_cons] at hu
    split at hu
    · rename_i ek; subst ek; injection hu with hu; subst hu; exact hok.2.2 _ _ e
    · exact ih.2.2 _ _ hu
  | c t e f r ih =>
    refine ⟨hok.1, hok.2.1, fun k u hu => ?_⟩
    rw [lookup_cons] at hu
    split at hu
    · rename_i ek; subst ek; injection hu with hu; subst hu
      rw [f hp] at e
      exact hok.2.2 _ _ e
    · exact ih.2.2 _ _ hu
def g1 (ops : Array Oper) (n : Nat) (S : Slots) (o : Oper) : Option (Value × Bool × Nat) := match o.guard, o.dst with
  | some (i, pol), some d => match (ops[i]?).bind (·.dst) with
    | some e => match S.lookup e, Nat.blt d n with
      | some ve, true => some (ve, pol, d)
      | _, _ => none
    | none => none
  | _, _ => none
theorem g1_in {ops : Array Oper} {n : Nat} {S : Slots} {o : Oper} {ve : Value} {pol : Bool} {d : Nat} (h : g1 ops n S o = some (ve, pol, d)) : ∃ i e, o.guard = some (i, pol) ∧ (ops[i]?).bind (·.dst) = some e ∧ S.lookup e = some ve ∧ o.dst = some d ∧ d < n := by
  unfold g1 at h
  split at h
  · rename_i i pol' d' h1 h2
    split at h
    · rename_i e h3
      split at h
      · rename_i ve' h4 h5
        injection h with h
        injection h with e1 e2
        injection e2 with e2 e3
        subst e1; subst e2; subst e3
        exact ⟨i, e, h1, h3, h4, h2, of_decide_eq_true (by simpa [Nat.blt_eq] using h5)⟩
      · cases h
    · cases h
  · cases h
section
variable {P : Program} {ops : Array Oper} {Q : Exit → Act → World → Prop} {C : World → Prop} {Qq : Act → Prop} {a : Act} {w : World} {rest : List Oper} {o : Oper} {n : Nat} {S : Slots} {G : List GV} {ds : List Deferred}
theorem sR {id : Nat} {l : List Oper} {y : Code} {Q : Exit → Act → World → Prop} (hok : SlD ds n S a) (h : PsD ds l.toArray n S [] a → wpList P l.toArray (Exit.then (y.wp P Q) Q) l a w) : (Code.seq (Code.region id l.toArray false) y).wp P Q a w := wp_seq (f_region hok h)
theorem pR {id : Nat} {l : List Oper} {y : Code} {Q R : Exit → Act → World → Prop} (hok : SlD ds n S a) (h : PsD ds l.toArray n S [] a → wpList P l.toArray (Exit.then (y.wp P Q) Q) l a w) : Exit.then ((Code.seq (Code.region id l.toArray false) y).wp P Q) R .normal a w := wp_seq (f_region hok h)
theorem sO (hok : PsD ds ops n S G a) (v : Value) {d : Nat} (e : o1 ops n G o = some d) (hob : Ob P (evS S) o v w) (h : ∀ a', PsD ds ops n ((d, v) :: S) G a' → wpList P ops Q rest a' w) : wpList P ops Q (o :: rest) a w :=
  have k := o1_in e; s_ob hok k.1 k.2.1 k.2.2.1 k.2.2.2 hob h
theorem qO (hok : PsD ds ops n S G a) (v : Value) {d : Nat} (e : o1 ops n G o = some d) (hob : ∀ w, C w → Ob P (evS S) o v w) (h : ∀ a', PsD ds ops n ((d, v) :: S) G a' → wpQuiet P ops C Qq rest a') : wpQuiet P ops C Qq (o :: rest) a :=
  have k := o1_in e; q_ob hok k.1 k.2.1 k.2.2.1 k.2.2.2 hob h
theorem gO (hok : PsD ds ops n S [] a) (v : Value) {d : Nat} {pol p : Bool} {ve : Value} {S' : Slots} (e : g1 ops n S o = some (ve, pol, d)) (hp : wantB ve pol = p) (hS : GS p S S') (hob : p = true → Ob P (evS S') o v w) (h : ∀ a', PsD ds ops n ((d, cond p v undef) :: S) [] a' → wpList P ops Q rest a' w) : wpList P ops Q (o :: rest) a w := by
  obtain ⟨i, e', k1, k2, k3, k4, k5⟩ := g1_in e
  exact g_ob hok k1 k2 k3 hp k4 k5 (fun hp => hS.sl hp) hob h
theorem jO (hok : PsD ds ops n S [] a) (v : Value) {d : Nat} {pol p : Bool} {ve : Value} {S' : Slots} (e : g1 ops n S o = some (ve, pol, d)) (hp : wantB ve pol = p) (hS : GS p S S') (hob : p = true → ∀ w, C w → Ob P (evS S') o v w) (h : ∀ a', PsD ds ops n ((d, cond p v undef) :: S) [] a' → wpQuiet P ops C Qq rest a') : wpQuiet P ops C Qq (o :: rest) a := by
  obtain ⟨i, e', k1, k2, k3, k4, k5⟩ := g1_in e
  exact gq_ob hok k1 k2 k3 hp k4 k5 (fun hp => hS.sl hp) hob h
end
section
variable {P : Program} (T : Tab P) {ev : Operand → Option Value} {o : Oper} {w : World}
def l1 (ev : Operand → Option Value) (o : Oper) : Option (Nat × Nat × Nat) := match o.op with
  | .load t x => match ev x with
    | some (.pointer (some ⟨b, off, none⟩)) => some (t, b, off)
    | _ => none
  | _ => none
theorem l1_in {t b off : Nat} (h : l1 ev o = some (t, b, off)) : ∃ x, o.op = .load t x ∧ ev x = some (.pointer (some ⟨b, off, none⟩)) := by
  unfold l1 at h
  split at h
  · rename_i t' x ho
    split at h
    · rename_i b' off' hx
      injection h with h; injection h with e1 e2; injection e2 with e2 e3
      subst e1; subst e2; subst e3
      exact ⟨x, ho, hx⟩
    · cases h
  · cases h
theorem oL {t b off n : Nat} {v : Value} (e : l1 ev o = some (t, b, off)) (ht : T.sz t = some (n, false)) (hc : w.cell? ⟨b, off, none⟩ = some v) : Ob P ev o v w := by
  obtain ⟨x, h1, h2⟩ := l1_in e
  exact Ob_load T h1 h2 ht hc
theorem oA {t b off : Nat} {cs : List Value} (e : l1 ev o = some (t, b, off)) (ht : T.sz t = some (cs.length, true)) (hc : At w b off cs) : Ob P ev o (.agg cs.toArray) w := by
  obtain ⟨x, h1, h2⟩ := l1_in e
  exact Ob_loads T h1 h2 ht hc
end
/-- the chunks, told plainly -/
def evL : List Ch → Option (List Ch)
  | [] => some []
  | c :: l => match evL l with
    | some r => some (c :: r)
    | none => none
theorem evL_eq : ∀ {l r : List Ch}, evL l = some r → l = r
  | [], r, h => by injection h
  | c :: l, r, h => by
    unfold evL at h
    split at h
    · rename_i r' h1; injection h with h; rw [← h, evL_eq h1]
    · cases h
section
variable {I0 D : Dm} {w0 : World} {I : Dm} {w : World} {cs cs' : List Ch}
theorem Hf.nf (H : Hf I0 D w0 I w cs) (e : evL cs = some cs') : Hf I0 D w0 I w cs' := H.eq (evL_eq e)
theorem Hf.sX (H : Hf I0 D w0 I w cs) (c : Ch) {β : Type} {f : β → List Ch} (x : β) (js : List (Nat × Bool)) {rst rst' : List Ch} (e : c = ExC f) (hp : pickN js cs = some (f x, rst)) (hn : evL rst = some rst') : Hf I0 D w0 I w (c :: rst') := by
  subst e
  rw [← evL_eq hn]
  exact H.shutX x js hp
theorem Hf.bc (H : Hf I0 D w0 I w cs) (i j : Nat) {b : Nat} {t : TypeId} {l : List Value} {v : Value} (h : cs[i]? = some (BxC b t l)) (hv : l[j]? = some v) : w.cell? ⟨b, j, none⟩ = some v := (H.bx i h).cell j hv
end
section
variable {P : Program} {ops : Array Oper} {Q : Exit → Act → World → Prop} {a : Act} {w w0 : World} {rest : List Oper} {o : Oper} {n : Nat} {S : Slots} {G : List GV} {ds : List Deferred} {I0 D I : Dm} {cs : List Ch}
theorem hA (hok : PsD ds ops n S G a) (H : Hf I0 D w0 I w cs) (cl : List Value) {d t : Nat} (e : o1 ops n G o = some d) (ho : o.op = .alloc t) (hz : (P.info? t).map (·.zero) = some (some (.agg cl.toArray)))
    (h : ∀ a' w' b, Hf I0 D w0 I w' (BxC b t cl :: cs) → PsD ds ops n ((d, .pointer (some ⟨b, 0, none⟩)) :: S) G a' → wpList P ops Q rest a' w') : wpList P ops Q (o :: rest) a w :=
  have k := o1_in e; h_alloc hok H k.1 ho k.2.1 k.2.2.1 k.2.2.2 hz rfl h
theorem hA1 (hok : PsD ds ops n S G a) (H : Hf I0 D w0 I w cs) (z : Value) {d t : Nat} (e : o1 ops n G o = some d) (ho : o.op = .alloc t) (hz : (P.info? t).map (·.zero) = some (some z)) (hc : z.cells = [z].toArray)
    (h : ∀ a' w' b, Hf I0 D w0 I w' (BxC b t [z] :: cs) → PsD ds ops n ((d, .pointer (some ⟨b, 0, none⟩)) :: S) G a' → wpList P ops Q rest a' w') : wpList P ops Q (o :: rest) a w :=
  have k := o1_in e; h_alloc hok H k.1 ho k.2.1 k.2.2.1 k.2.2.2 hz hc h
theorem hB (hok : PsD ds ops n S G a) (H : Hf I0 D w0 I w cs) (cl : List Value) {d t : Nat} {x : Operand} {v : Value} (e : o1 ops n G o = some d) (ho : o.op = .box t x) (hx : evS S x = some v) (hcs : v.cells = cl.toArray)
    (h : ∀ a' w' b, Hf I0 D w0 I w' (BxC b t cl :: cs) → PsD ds ops n ((d, .pointer (some ⟨b, 0, none⟩)) :: S) G a' → wpList P ops Q rest a' w') : wpList P ops Q (o :: rest) a w :=
  have k := o1_in e; h_boxv hok H k.1 ho k.2.1 k.2.2.1 k.2.2.2 hx hcs h
def c1 (S : Slots) (o : Oper) : Option (Value × List Value) := match o.op with
  | .call c => match c.callee with
    | .value fv => match evS S fv, c.args.toList.mapM (evS S) with
      | some v, some vs => some (v, vs)
      | _, _ => none
    | _ => none
  | _ => none
theorem c1_in {v : Value} {vs : List Value} (h : c1 S o = some (v, vs)) : ∃ c fv, o.op = .call c ∧ c.callee = .value fv ∧ evS S fv = some v ∧ c.args.toList.mapM (evS S) = some vs := by
  unfold c1 at h
  split at h
  · rename_i c ho
    split at h
    · rename_i fv hc
      split at h
      · rename_i v' vs' h1 h2
        injection h with h; injection h with e1 e2; subst e1; subst e2
        exact ⟨c, fv, ho, hc, h1, h2⟩
      · cases h
    · cases h
  · cases h
theorem hC (hok : PsD ds ops n S G a) (H : Hf I0 D w0 I w cs) (js : List (Nat × Bool)) {cin rst : List Ch} (hp : pickN js cs = some (cin, rst)) (caps : Array Value) {d f : Nat} {vs : List Value} {R : Dm → Value → World → Prop} (hf : IsFn P f) (e : o1 ops n G o = some d) (ec : c1 S o = some (.func (.func f) #[] caps, vs))
    (hc : ∀ D1, St I D1 w cin → Calls P f (vs.toArray ++ caps) w (Ret (R D1)))
    (h : ∀ v a' w' D1, R D1 v w' → (∀ {I' co}, Hf I D1 w I' w' co → Hf I0 D w0 I' w' (co ++ rst)) → PsD ds ops n ((d, v) :: S) G a' → wpList P ops Q rest a' w') : wpList P ops Q (o :: rest) a w := by
  obtain ⟨c, fv, k1, k2, k3, k4⟩ := c1_in ec
  have k := o1_in e
  exact h_call hok H hp hf k.1 k1 k2 k3 k.2.1 k.2.2.1 k.2.2.2 k4 hc h
def t1 (S : Slots) (o : Oper) : Option (Nat × Nat × Nat × Value) := match o.op, o.guard, o.dst with
  | .store t p x, none, none => match evS S p, evS S x with
    | some (.pointer (some ⟨b, off, none⟩)), some v => some (t, b, off, v)
    | _, _ => none
  | _, _, _ => none
theorem t1_in {t b off : Nat} {v : Value} (h : t1 S o = some (t, b, off, v)) : ∃ p x, o.op = .store t p x ∧ o.guard = none ∧ o.dst = none ∧ evS S p = some (.pointer (some ⟨b, off, none⟩)) ∧ evS S x = some v := by
  unfold t1 at h
  split at h
  · rename_i t' p x h1 h2 h3
    split at h
    · rename_i b' off' v' h4 h5
      injection h with h; injection h with e1 h; injection h with e2 h; injection h with e3 e4
      subst e1; subst e2; subst e3; subst e4
      exact ⟨p, x, h1, h2, h3, h4, h5⟩
    · cases h
  · cases h
theorem hT (T : Tab P) (hok : PsD ds ops n S G a) (H : Hf I0 D w0 I w cs) (i : Nat) {t e b off m : Nat} {g : Bool} {v : Value} {cl us cl' : List Value} (hi : cs[i]? = some (BxC b e cl)) (es : t1 S o = some (t, b, off, v))
    (hus : v.cells = us.toArray) (ht : T.sz t = some (m, g)) (hm : us.length = m) (h1 : ∀ u ∈ us, u.oneCell' = true) (hlt : off + us.length ≤ cl.length) (hcs : putCells cl off us = cl')
    (h : ∀ w', Hf I0 D w0 I w' (BxC b e cl' :: cs.eraseIdx i) → wpList P ops Q rest a w') : wpList P ops Q (o :: rest) a w := by
  obtain ⟨p, x, k1, k2, k3, k4, k5⟩ := t1_in es
  exact h_store T hok H i hi k2 k1 k3 k4 k5 hus ht hm h1 hlt hcs h
end
theorem onR {us : List Value} (k : Nat) (e : (us.take k).all Value.oneCell' = true) (h : ∀ u ∈ us.drop k, u.oneCell' = true) : ∀ u ∈ us, u.oneCell' = true := fun u hu => by
  rw [← List.take_append_drop k us] at hu
  rcases List.mem_append.1 hu with hu | hu
  · exact List.all_eq_true.1 e u hu
  · exact h u hu

end Go.Proofs.YtglfajjcgbfehaaGreat
