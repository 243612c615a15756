/- Entries of a log, whose operations' memory is the log's own: each block has a label (which batch it belongs to), so that different entries lie in different blocks. -/
import Derived.Test.YtglfajjcgbfehaaGreatYNote
import Derived.Test.YtglfajjcgbfehaaGreatYRv
namespace Go.Proofs.YtglfajjcgbfehaaGreat
open Go.RowKit

/-- whose a block is: a batch's client and number -/
abbrev Lb := Nat → Option (Int × Int)

def LbX (T0 : Lb) (A0 : Dm) := {T : Lb // ∀ k, A0 k → T k = T0 k}

def LbX.start (T0 : Lb) (A0 : Dm) : LbX T0 A0 := ⟨T0, fun _ _ => rfl⟩

/-- an entry's operations: a slice that was its owner's, in a block with its label -/
structure LbE (T : Lb) (A : Dm) (w : World) (u : Value) (e : EBatch) : Prop where
 sl : slRep NEOp A w u e.ops
 ow : Ow NEOp NoD 0 58 w u e.ops
 lb : ∀ k, u.ownBlock = some k → A k ∧ k < w.heap.size ∧ T k = some (e.client, e.req)

theorem LbE.mono {T : Lb} {A A' : Dm} {w w' : World} {u : Value} {e : EBatch} (h : LbE T A w u e) (hA : ∀ k, A k → A' k) (hk : Keep A w w') : LbE T A' w' u e :=
 ⟨h.sl.mono hA hk, h.ow.keepO (fun _ h => h) (hk.sub fun _ h => h.elim) fun k h1 h2 => hk.2 k (h.lb k h1).1 h2, fun k hk' => ⟨hA k (h.lb k hk').1, Nat.lt_of_lt_of_le (h.lb k hk').2.1 hk.1, (h.lb k hk').2.2⟩⟩

def NEEntryO (T : Lb) : Rp EEntry where
 n := 4
 rep A w cs e := ∃ u, cs = cEEntry e u ∧ LbE T A w u e.batch
 len := fun ⟨u, h, _⟩ => by rw [h]; rfl
 one := fun ⟨u, h, L⟩ c hc => NEEntry.one (A := fun _ => True) ⟨u, h, L.sl.mono (fun _ _ => trivial) (Keep.refl _ _)⟩ c hc
 mono := fun ⟨u, h, L⟩ hA hk => ⟨u, h, L.mono hA hk⟩
 bound := fun ⟨u, h, L⟩ => ⟨u, h, L.sl.bound, L.ow, fun k hk => ⟨⟨(L.lb k hk).1, (L.lb k hk).2.1⟩, (L.lb k hk).2⟩⟩

theorem NEEntryO.dft (T : Lb) (A : Dm) (w : World) : ∃ cl, (NEEntryO T).rep A w cl default :=
 ⟨_, .slice none 0 0, rfl, slRep.nil _ _ _ _ _ (Nat.zero_le _), Ow.nil _ _ _ _ _ _, fun k hk => by cases hk⟩

theorem NEEntryO.base {T : Lb} {A : Dm} {w : World} {cs : List Value} {e : EEntry} (h : (NEEntryO T).rep A w cs e) : NEEntry.rep A w cs e := by
 obtain ⟨u, h1, h2⟩ := h; exact ⟨u, h1, h2.sl⟩

theorem slRep.weak {α : Type} {R R' : Rp α} (hn : R.n = R'.n) {A : Dm} {w : World} (hr : ∀ cs x, R.rep A w cs x → R'.rep A w cs x) {v : Value} {l : List α} (h : slRep R A w v l) : slRep R' A w v l := by
 obtain ⟨ao, b, off, cap, h1, h2, h3, h4, h5⟩ := h
 refine ⟨ao, b, off, cap, h1, h2, h3, h4, fun i hi => ?_⟩
 obtain ⟨cs, g1, g2⟩ := h5 i hi
 exact ⟨cs, hr _ _ g1, fun j hj => by rw [← hn]; exact g2 j hj⟩

theorem slRep.unl {T : Lb} {A : Dm} {w : World} {v : Value} {l : List EEntry} (h : slRep (NEEntryO T) A w v l) : slRep NEEntry A w v l := slRep.weak (R := NEEntryO T) (R' := NEEntry) rfl (fun _ _ h => NEEntryO.base h) h

theorem Ow.lab {T T' : Lb} {A : Dm} {base : Nat} {e : TypeId} {w : World} {v : Value} {l : List EEntry} (h : Ow (NEEntryO T) A base e w v l) (hT : ∀ k, A k → T' k = T k) : Ow (NEEntryO T') A base e w v l := by
 rcases h with ⟨ao, rfl, rfl⟩ | ⟨g, cap, css, h1, h2, h3, h4⟩
 ·exact Ow.nil _ _ _ _ _ _
 ·refine .inr ⟨g, cap, css, h1, h2, h3, fun i a b => ?_⟩
  obtain ⟨u, g1, g2⟩ := h4 i a b
  exact ⟨u, g1, g2.sl, g2.ow, fun k hk => ⟨(g2.lb k hk).1, (g2.lb k hk).2.1, by rw [hT k (g2.lb k hk).1.1]; exact (g2.lb k hk).2.2⟩⟩

/-- a laid part -/
def LbC (T : Lb) (u : Value) (x : EEntry) : Ch where
 P I w fp := (∀ k, ¬ fp k) ∧ LbE T I w u x.batch
 keep := fun ⟨h1, h2⟩ hI hk => ⟨h1, h2.mono hI (hk.sub fun _ h => .inl h)⟩
 pur := true
 hpur := fun _ _ _ _ h => h.1

/-- what a part of a log's own becomes, once it is laid into the log: its block is labelled, and never turns any more -/
theorem Hf.label {I0 D : Dm} {w0 : World} {I : Dm} {w : World} {cs : List Ch} {T0 : Lb} {A0 : Dm} {T : LbX T0 A0} (H : Hf I0 D w0 I w cs) (i j : Nat) {e : TypeId} {v u : Value} {l : List EEntry} (x : EEntry)
  (hi : cs[i]? = some (OwC (NEEntryO T.1) e v l)) (hj : cs[j]? = some (OwC NEOp 58 u x.batch.ops)) (hA : ∀ k, A0 k → I k) (js : List (Nat × Bool)) {rst : List Ch} (hp : pickN js cs = some ([OwC NEOp 58 u x.batch.ops, OwC (NEEntryO T.1) e v l], rst)) :
  ∃ (I' : Dm) (T' : LbX T0 A0), (∀ k, I k → I' k) ∧ LbE T'.1 I' w u x.batch ∧ Hf I0 D w0 I' w (OwC (NEEntryO T'.1) e v l :: rst) := by
 have how := H.ow j hj
 have hlt := H.owlt j hj
 have hnI := H.ownI j hj
 have H2 : Hf I0 D w0 I w ([OwC NEOp 58 u x.batch.ops, OwC (NEEntryO T.1) e v l] ++ rst) := by
  obtain ⟨fp, h1, h2⟩ := H.star
  obtain ⟨f, g, h3, h4, h5, h6⟩ := h1.pick hp
  exact ⟨H.frm, H.imm, H.imm2, _, h3.app h4 h5, fun k hk => h2 k ((h6 k).2 hk)⟩
 let T1 : Lb := fun k => if u.ownBlock = some k then some (x.batch.client, x.batch.req) else T.1 k
 have hT : ∀ k, I k → T1 k = T.1 k := fun k hk => if_neg (hnI k hk)
 have H3 : Hf I0 D w0 I w (OwC (NEEntryO T1) e v l :: OwC NEOp 58 u x.batch.ops :: rst) := H2.as 1 (c' := OwC (NEEntryO T1) e v l) rfl fun f hf _ => ⟨f, ⟨hf.1, hf.2.1, hf.2.2.lab hT⟩, fun _ h => h⟩
 obtain ⟨I', hI, H5⟩ := H3.freeze 1 (c' := LbC T1 u x) rfl fun f I' hf hI => ⟨fun _ => False, ⟨fun _ => id, Ow.slO hf.2.2 (fun k hk => (hI k).2 (.inl hk)) fun k hk => (hI k).2 (.inr ((hf.1 k).2 hk)), (show Ow NEOp NoD 0 58 w u x.batch.ops from hf.2.2), fun k hk => ⟨(hI k).2 (.inr ((hf.1 k).2 hk)), hf.2.1 k hk, if_pos hk⟩⟩, fun _ => id⟩
 have hL : LbE T1 I' w u x.batch := (H5.get 0 rfl).choose_spec.1.2
 exact ⟨I', ⟨T1, fun k hk => (hT k (hA k hk)).trans (T.2 k hk)⟩, hI, hL, H5.erase 0 rfl⟩

/-- an entry whose operations lie in memory that is new -/
def NEEntryN (A0 : Dm) : Rp EEntry where
 n := 4
 rep A w cs e := ∃ u, cs = cEEntry e u ∧ slRep NEOp (fun k => A k ∧ ¬ A0 k) w u e.batch.ops
 len := fun ⟨u, h, _⟩ => by rw [h]; rfl
 one := fun ⟨u, h, L⟩ c hc => NEEntry.one (A := fun _ => True) ⟨u, h, L.mono (fun _ _ => trivial) (Keep.refl _ _)⟩ c hc
 mono := fun ⟨u, h, L⟩ hA hk => ⟨u, h, L.mono (fun k hk => ⟨hA k hk.1, hk.2⟩) (hk.sub fun _ h => h.1)⟩
 bound := fun ⟨u, h, L⟩ => ⟨u, h, L.bound.mono (fun k hk => ⟨⟨hk.1.1, hk.2⟩, hk.1.2⟩) (Keep.refl _ _)⟩

theorem Ow.flatA {α : Type} {R : Rp α} (hF : R.Flat) {A A' : Dm} {base : Nat} {e : TypeId} {w : World} {v : Value} {l : List α} (h : Ow R A base e w v l) : Ow R A' base e w v l := by
 rcases h with ⟨ao, rfl, rfl⟩ | ⟨g, cap, css, h1, h2, h3, h4⟩
 ·exact Ow.nil _ _ _ _ _ _
 ·exact .inr ⟨g, cap, css, h1, h2, h3, fun i a b => hF _ _ _ _ _ _ (h4 i a b)⟩

def SlN {α : Type} (A0 : Dm) (R : Rp α) (u : Value) (l : List α) : Ch where
 P I w fp := (∀ k, ¬ fp k) ∧ slRep R (fun k => I k ∧ ¬ A0 k) w u l
 keep := fun ⟨h1, h2⟩ hI hk => ⟨h1, h2.mono (fun k hk => ⟨hI k hk.1, hk.2⟩) (hk.sub fun _ h => .inl h.1)⟩
 pur := true
 hpur := fun _ _ _ _ h => h.1

theorem Hf.frzN {I0 D : Dm} {w0 : World} {I : Dm} {w : World} {cs : List Ch} {A0 : Dm} {α : Type} {R : Rp α} (H : Hf I0 D w0 I w cs) (j : Nat) {e : TypeId} {u : Value} {l : List α} (hj : cs[j]? = some (OwC R e u l)) (hF : R.Flat) (hA : ∀ k, A0 k → I k) :
  ∃ I', (∀ k, I k → I' k) ∧ slRep R (fun k => I' k ∧ ¬ A0 k) w u l ∧ Hf I0 D w0 I' w (SlC R u l :: cs.eraseIdx j) := by
 have hnI := H.ownI j hj
 obtain ⟨I', hI, H5⟩ := H.freeze j (c' := SlN A0 R u l) hj fun f I' hf hI => ⟨fun _ => False, ⟨fun _ => id, Ow.slO (Ow.flatA (A' := NoD) hF hf.2.2) (fun k hk => hk.elim) fun k hk => ⟨(hI k).2 (.inr ((hf.1 k).2 hk)), fun h => hnI k (hA k h) hk⟩⟩, fun _ => id⟩
 have hN := (H5.get 0 rfl).choose_spec.1.2
 exact ⟨I', hI, hN, H5.as 0 (c' := SlC R u l) rfl fun f hf _ => ⟨f, ⟨hf.1, hf.2.mono (fun _ h => h.1) (Keep.refl _ _)⟩, fun _ h => h⟩⟩

/-- a log's entries: whatever labels there are above the first blocks -/
def OxC (T0 : Lb) (A0 : Dm) (e : TypeId) (v : Value) (l : List EEntry) : Ch := ExC fun (T : LbX T0 A0) => [OwC (NEEntryO T.1) e v l]

section lrules
variable {ds : List Deferred} {P : Program} {ops : Array Oper} {a : Act} {o : Oper} {n : Nat} {S : Slots} {Fv : Value → World → Prop}
variable {I0 D : Dm} {w0 : World} {I : Dm} {w : World} {cs : List Ch}
theorem Hf.oxshape {T0 : Lb} {A0 : Dm} (H : Hf I0 D w0 I w cs) (i : Nat) {e : TypeId} {v : Value} {l : List EEntry} (hi : cs[i]? = some (OxC T0 A0 e v l)) : slS v l.length := by
 obtain ⟨f, ⟨T, hf⟩, _⟩ := H.get i hi
 obtain ⟨f1, f2, h1, _⟩ := hf
 exact h1.2.2.slS

/-- an entry is laid behind the others: its operations' memory is the log's from now on -/
theorem L_appX (H : Hf I0 D w0 I w cs) (i j : Nat) {T0 : Lb} {A0 : Dm} {T : LbX T0 A0} {t e m bytes : Nat} {s x : Operand} (E : Elem P t e m bytes) {vs u : Value} {l : List EEntry} (y : EEntry) (hi : cs[i]? = some (OwC (NEEntryO T.1) e vs l)) (hj : cs[j]? = some (OwC NEOp 58 u y.batch.ops))
  (hA : ∀ k, A0 k → I k) (js : List (Nat × Bool)) {rst : List Ch} (hp : pickN js cs = some ([OwC NEOp 58 u y.batch.ops, OwC (NEEntryO T.1) e vs l], rst)) (q : Nat) {b : Nat} {e2 : TypeId} (hq : rst[q]? = some (BxC b e2 (cEEntry y u))) (hn : (NEEntryO T.1).n = m)
  (hS : SlD ds n S a) (hg : o.guard = none) (ho : o.op = .call { callee := .builtin .append, args := #[s, x], argTypes := #[t, t] })
  (hs : evS S s = some vs) (hx : evS S x = some (.slice (some ⟨b, 0, none⟩) 1 1)) (hb : ((l.length + [y].length : Nat) : Int) * bytes ≤ 140737488355328) (hpb : bytes ≠ 0)
  (h : ∀ v w' I', (∀ k, I k → I' k) → Keep I' w w' → Hf I0 D w0 I' w' (OxC T0 A0 e v (l ++ [y]) :: rst) → Fv v w') : WpL P ops Fv o a w := by
 obtain ⟨I', T', hI, hL, H2⟩ := H.label i j y hi hj hA js hp
 have hbx := H2.bx (q + 1) (by simpa using hq)
 refine L_appO H2 0 E [y] rfl hn hS hg ho hs hx (slRep2.box1 hbx ⟨u, rfl, hL⟩) hb hpb fun v w' hK H3 => h v w' I' hI hK ?_
 exact Hf.shutX (f := fun (T : LbX T0 A0) => [OwC (NEEntryO T.1) e v (l ++ [y])]) T' H3 [(0, false)] rfl

end lrules
end Go.Proofs.YtglfajjcgbfehaaGreat
