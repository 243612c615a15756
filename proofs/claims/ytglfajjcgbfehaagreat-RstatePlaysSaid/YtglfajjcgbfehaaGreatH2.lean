/- Steps of a walk over chunks. No program is named here. -/
import Derived.Test.YtglfajjcgbfehaaGreatH
namespace Go.Proofs.YtglfajjcgbfehaaGreat
open Go.RowKit
variable {ds : List Deferred}

section
variable {I0 D : Dm} {w0 : World} {I : Dm} {w : World} {cs : List Ch} {α : Type} {R : Rp α}

theorem Ow.slO {α : Type} {R : Rp α} {A : Nat → Prop} {base : Nat} {e : TypeId} {w : World} {v : Value} {l : List α} (h : Ow R A base e w v l) {A' : Nat → Prop} (hA : ∀ k, A k → A' k) (hb : ∀ k, v.ownBlock = some k → A' k) : slRep R A' w v l := by
 rcases h with ⟨ao, rfl, rfl⟩ | ⟨g, cap, css, rfl, hown, hl, hr⟩
 ·exact slRep.nil R A' w ao 0 (Nat.zero_le _)
 ·have hlen : ∀ cs ∈ css, cs.length = R.n := by
   intro cs hcs
   obtain ⟨i, hi, rfl⟩ := List.getElem_of_mem hcs
   exact R.len (hr i hi (by omega))
  have hcell := hown.cells (g := g) rfl
  rcases hown.2 with ⟨h1, _⟩ | ⟨g', cap', cur, hv, hbase, hg, hnc, hcm, hcs, htake⟩
  ·injection h1 with h1; cases h1
  ·injection hv with e1 e2 e3
   injection e1 with e1
   injection e1 with e1
   subst e1; subst e3
   refine ⟨_, g, 0, cap, rfl, hnc, hcm, fun _ => ⟨rfl, hb _ rfl, (Array.getElem?_eq_some_iff.1 hg).1⟩, fun i hi => ⟨css[i]'(by omega), R.mono (hr i (by omega) hi) (fun k hk => hA k hk.1) (Keep.refl _ _), fun j hj => ?_⟩⟩
   have hci := hlen (css[i]'(by omega)) (List.getElem_mem _)
   have hn : 0 < R.n := by omega
   have hj' : j < R.n := by omega
   have hget : css.flatten[i * R.n + j]? = some (css[i]'(by omega))[j] := by
    rw [flat_get hn hlen, Nat.mul_comm, Nat.mul_add_div hn, Nat.div_eq_of_lt hj', Nat.mul_add_mod, Nat.mod_eq_of_lt hj', Nat.add_zero, List.getElem?_eq_getElem (by omega)]
    simp
   have := hcell _ _ hget
   have hadd : (⟨g, 0, none⟩ : Addr).add (i * R.n + j) = ⟨g, 0 + i * R.n + j, none⟩ := by
    unfold Addr.add
    split
    ·simp
    ·simp
   rw [hadd] at this
   exact this

theorem Hf.store (H : Hf I0 D w0 I w cs) (i : Nat) {b : Nat} {e : TypeId} {cl cl' : List Value} (hi : cs[i]? = some (BxC b e cl)) {w' : World} (ht : Turn b w w') (hb : Box w' b e cl') : Hf I0 D w0 I w' (BxC b e cl' :: cs.eraseIdx i) :=
 H.turn i hi fun f hf _ => ⟨⟨ht.os, ht.tape, ht.output, Nat.le_of_eq ht.size.symm, fun k _ hk => ht.block k fun e => hk ((hf.1 k).2 e)⟩, f, ⟨hf.1, hb⟩, fun k hk => ⟨.inl hk, by rw [(hf.1 k).1 hk]; exact hb.lt⟩⟩

theorem Hf.newbx (H : Hf I0 D w0 I w cs) {w' : World} {b : Nat} {e : TypeId} {cl : List Value} (hb : Below w.heap.size w w') (h0 : b = w.heap.size) (hB : Box w' b e cl) : Hf I0 D w0 I w' (BxC b e cl :: cs) :=
 H.new hb (f := (· = b)) (c := BxC b e cl) ⟨fun _ => Iff.rfl, hB⟩ fun k hk => by subst hk; exact ⟨Nat.le_of_eq h0.symm, hB.lt⟩

theorem Hf.nilow (H : Hf I0 D w0 I w cs) (R : Rp α) (e : TypeId) : Hf I0 D w0 I w (OwC R e (.slice none 0 0) [] :: cs) :=
 H.add (f := fun _ => False) (c := OwC R e (.slice none 0 0) []) ⟨fun k => ⟨False.elim, fun h => by cases h⟩, fun k h => by (cases h), Ow.nil _ _ _ _ _ _⟩ fun _ => id

/-- an empty slice's block -/
theorem Hf.emptyow (H : Hf I0 D w0 I w cs) (i : Nat) {b : Nat} {e : TypeId} {cl : List Value} (hi : cs[i]? = some (BxC b e cl)) (R : Rp α) : Hf I0 D w0 I w (OwC R e (.slice (some ⟨b, 0, none⟩) 0 0) [] :: cs.eraseIdx i) :=
 H.as i hi fun f hf _ => ⟨f, ⟨fun k => by rw [hf.1]; simp [Value.ownBlock]; exact eq_comm, fun k h => by simp [Value.ownBlock] at h; subst h; exact hf.2.lt, Ow.nil _ _ _ _ _ _⟩, fun _ h => h⟩

theorem Hf.ownI (H : Hf I0 D w0 I w cs) (i : Nat) {e : TypeId} {v : Value} {l : List α} (hi : cs[i]? = some (OwC R e v l)) : ∀ k, I k → v.ownBlock ≠ some k := fun k hk h => by
 obtain ⟨f, hf, h2⟩ := H.get i hi
 exact (h2 k ((hf.1 k).2 h)).1 hk

theorem Hf.app (H : Hf I0 D w0 I w cs) (i : Nat) {e : TypeId} {v v' : Value} {l l' : List α} (hi : cs[i]? = some (OwC R e v l)) {w' : World} (ho : Ow R I 0 e w' v' l') (hb : Below 0 w w') (hblk : ∀ k, k < w.heap.size → v.ownBlock ≠ some k → w'.heap[k]? = w.heap[k]?)
  (hown : ∀ k, v'.ownBlock = some k → v.ownBlock = some k ∨ w.heap.size ≤ k) (hlt : ∀ k, v'.ownBlock = some k → k < w'.heap.size) : Hf I0 D w0 I w' (OwC R e v' l' :: cs.eraseIdx i) :=
 H.turn i hi fun f hf hk => ⟨⟨hb.os, hb.tape, hb.output, hb.size, fun k hl hn => hblk k hl fun h => hn ((hf.1 k).2 h)⟩, fun k => v'.ownBlock = some k, ⟨fun _ => Iff.rfl, hlt, ho⟩, fun k h => ⟨(hown k h).imp (hf.1 k).2 id, hlt k h⟩⟩

/-- a slice of the walk's own is given away: only read from now on -/
theorem Hf.frzow (H : Hf I0 D w0 I w cs) (i : Nat) {e : TypeId} {v : Value} {l : List α} (hi : cs[i]? = some (OwC R e v l)) : ∃ I', (∀ k, I k → I' k) ∧ Hf I0 D w0 I' w (SlC R v l :: cs.eraseIdx i) :=
 H.freeze i hi fun f I' hf hI => ⟨fun _ => False, ⟨fun _ => id, hf.2.2.slO (fun k h => (hI k).2 (.inl h)) fun k h => (hI k).2 (.inr ((hf.1 k).2 h))⟩, fun _ => id⟩

/-- a literal's block is given away -/
theorem Hf.frzlit (H : Hf I0 D w0 I w cs) (i : Nat) {b : Nat} {e : TypeId} {cl : List Value} (hi : cs[i]? = some (BxC b e cl)) (css : List (List Value)) (l : List α) (hcs : cl = css.flatten) (hl : css.length = l.length) (hr : ∀ i (h1 : i < css.length) (h2 : i < l.length), R.rep I w css[i] l[i]) (hm : l.length ≤ maxLen) {n : Nat} (hn : l.length = n) :
  ∃ I', (∀ k, I k → I' k) ∧ Hf I0 D w0 I' w (SlC R (.slice (some ⟨b, 0, none⟩) n n) l :: cs.eraseIdx i) := by
 subst hn
 exact H.freeze i hi fun f I' hf hI => ⟨fun _ => False, ⟨fun _ => id, slRep.lit css hf.2 hcs hl (fun i h1 h2 => R.mono (hr i h1 h2) (fun k h => (hI k).2 (.inl h)) (Keep.refl _ _)) ((hI b).2 (.inr ((hf.1 b).2 rfl))) hm⟩, fun _ => id⟩

/-- a source of an append -/
theorem Hf.sl2 (H : Hf I0 D w0 I w cs) (i : Nat) {v : Value} {l : List α} (h : cs[i]? = some (SlC R v l)) : slRep2 R AnyA I w v l := (H.sl i h).two

theorem Hf.ow2 [Inhabited α] (H : Hf I0 D w0 I w cs) (i : Nat) {e : TypeId} {v : Value} {l : List α} (h : cs[i]? = some (OwC R e v l)) : slRep2 R AnyA I w v l := by
 obtain ⟨ao, cap, rfl, hc, hm⟩ := H.owshape i h
 refine ⟨ao, bOf ao, oOf ao, cap, rfl, hc, hm, fun h0 => ?_, fun k hk => ?_⟩
 ·obtain ⟨e1, ⟨_, e2⟩, _⟩ := H.eltO i h 0 h0
  exact ⟨e1, trivial, e2⟩
 ·obtain ⟨e1, ⟨_, e2⟩, cl, e3, e4⟩ := H.eltO i h k hk
  rw [getD_get _ _ _ hk] at e3
  exact ⟨cl, e3, fun j hj => e4 j _ (List.getElem?_eq_getElem hj)⟩

theorem slRep2.sub {A0 A : Dm} {ao : Option Addr} {n cap : Nat} {l : List α} (h : slRep2 R A0 A w (.slice ao n cap) l) (m i j : Nat) (hm : R.n = m) (hij : i ≤ j) (hj : j ≤ n) : slRep2 R A0 A w (.slice (subA ao cap i m) (j - i) (cap - i)) ((l.take j).drop i) := by
 subst hm
 obtain ⟨ao', b, off, cap', hv, hc, hmx, hb, hx⟩ := h
 injection hv with e1 e2 e3; subst e1; subst e2; subst e3
 have hl : ((l.take j).drop i).length = j - i := by simp; omega
 refine ⟨subA ao cap i R.n, b, off + i * R.n, cap - i, by rw [hl], by rw [hl]; omega, by omega, fun h0 => ?_, fun k hk => ?_⟩
 ·rw [hl] at h0
  obtain ⟨h1, h2, h3⟩ := hb (by omega)
  refine ⟨?_, h2, h3⟩
  subst h1
  unfold subA
  rw [if_neg (by omega)]
  simp only [Option.map_some, Addr.add]
  split
  ·rename_i h; simp [h]
  ·rfl
 ·rw [hl] at hk
  obtain ⟨cl, h1, h2⟩ := hx (i + k) (by omega)
  refine ⟨cl, ?_, fun q hq => ?_⟩
  ·have : ((l.take j).drop i)[k]'(by rw [hl]; exact hk) = l[i + k]'(by omega) := by simp
   rw [this]; exact h1
  ·have := h2 q hq
   rw [Nat.add_mul] at this
   rw [show off + i * R.n + k * R.n + q = off + (i * R.n + k * R.n) + q by omega]
   exact this

/-- of a slice of the walk's own the first so many -/
theorem Ow.takeA {A : Dm} {base : Nat} {e : TypeId} {ao : Option Addr} {n cap : Nat} {l : List α} (h : Ow R A base e w (.slice ao n cap) l) (j : Nat) (hj : j ≤ l.length) : Ow R A base e w (.slice ao j cap) (l.take j) := by
 rcases id h with ⟨ao', h1, rfl⟩ | ⟨g, cap', css, h2, hown, hl, hr⟩
 ·injection h1 with e1 e2 e3; subst e2; subst e3
  have : j = 0 := by simpa using hj
  subst this
  exact .inl ⟨ao, rfl, by simp⟩
 ·injection h2 with e1 e2 e3; subst e1
  exact h.take j hj

theorem Hf.trunc (H : Hf I0 D w0 I w cs) (i : Nat) {e : TypeId} {ao : Option Addr} {n cap : Nat} {l : List α} (hi : cs[i]? = some (OwC R e (.slice ao n cap) l)) (j m : Nat) (hj : j ≤ l.length) : Hf I0 D w0 I w (OwC R e (.slice (subA ao cap 0 m) j cap) (l.take j) :: cs.eraseIdx i) :=
 H.as i hi fun f hf hk => by
  have e1 : subA ao cap 0 m = ao := by
   unfold subA
   split
   ·rfl
   ·cases ao with
    | none => rfl
    | some a => simp [Addr.add]
  rw [e1]
  have h2 : (Value.slice ao j cap).ownBlock = (Value.slice ao n cap).ownBlock := by cases ao <;> rfl
  exact ⟨f, ⟨fun k => by rw [hf.1, h2], fun k h => hf.2.1 k (h2 ▸ h), hf.2.2.takeA j hj⟩, fun _ h => h⟩

end

section rules
variable {P : Program} (T : Tab P) {ops : Array Oper} {Q : Exit → Act → World → Prop} {a : Act} {w : World} {rest : List Oper} {o : Oper} {n : Nat} {S : Slots} {G : List GV}
variable {I0 D : Dm} {w0 : World} {I : Dm} {cs : List Ch}

theorem h_alloc (hok : PsD ds ops n S G a) (H : Hf I0 D w0 I w cs) {d t : Nat} {z : Value} {cl : List Value} (hg : o.guard = none) (ho : o.op = .alloc t) (hd : o.dst = some d) (hdn : d < n) (hf : gFree ops G d = true)
  (hz : (P.info? t).map (·.zero) = some (some z)) (hcs : z.cells = cl.toArray)
  (h : ∀ a' w' b, Hf I0 D w0 I w' (BxC b t cl :: cs) → PsD ds ops n ((d, .pointer (some ⟨b, 0, none⟩)) :: S) G a' → wpList P ops Q rest a' w') : wpList P ops Q (o :: rest) a w :=
 s_alloc hok hg ho hd hdn hf hz hcs fun a' w' b h0 _ hb hB => h a' w' b (H.newbx hb h0 hB)

theorem h_boxv (hok : PsD ds ops n S G a) (H : Hf I0 D w0 I w cs) {d t : Nat} {x : Operand} {v : Value} {cl : List Value} (hg : o.guard = none) (ho : o.op = .box t x) (hd : o.dst = some d) (hdn : d < n) (hf : gFree ops G d = true)
  (hx : evS S x = some v) (hcs : v.cells = cl.toArray)
  (h : ∀ a' w' b, Hf I0 D w0 I w' (BxC b t cl :: cs) → PsD ds ops n ((d, .pointer (some ⟨b, 0, none⟩)) :: S) G a' → wpList P ops Q rest a' w') : wpList P ops Q (o :: rest) a w :=
 s_boxv hok hg ho hd hdn hf hx hcs fun a' w' b h0 _ hb hB => h a' w' b (H.newbx hb h0 hB)

theorem h_bslice (hok : PsD ds ops n S G a) (H : Hf I0 D w0 I w cs) {d t e k : Nat} {ps : Array (Nat × Operand)} {vs : List (Nat × Value)} {cl : List Value} (hg : o.guard = none) (ho : o.op = .buildSlice t k ps) (hd : o.dst = some d) (hdn : d < n) (hf : gFree ops G d = true)
  (hx : (ps.toList.mapM fun p => (evS S p.2).map fun v => (p.1, v)) = some vs)
  (hr : ∀ w : World, (Instr.buildSlice t k vs.toArray).run P w = .ok (.slice (some ⟨w.heap.size, 0, none⟩) k k) (w.alloc (.cells cl.toArray e)))
  (h : ∀ a' w' b, Hf I0 D w0 I w' (BxC b e cl :: cs) → PsD ds ops n ((d, .slice (some ⟨b, 0, none⟩) k k) :: S) G a' → wpList P ops Q rest a' w') : wpList P ops Q (o :: rest) a w :=
 s_bslice hok hg ho hd hdn hf hx hr fun a' w' b h0 _ hb hB => h a' w' b (H.newbx hb h0 hB)

theorem h_store (hok : PsD ds ops n S G a) (H : Hf I0 D w0 I w cs) (i : Nat) {t e b off m : Nat} {g : Bool} {p x : Operand} {v : Value} {cl us cl' : List Value} (hi : cs[i]? = some (BxC b e cl)) (hg : o.guard = none) (ho : o.op = .store t p x) (hd : o.dst = none)
  (hp : evS S p = some (.pointer (some ⟨b, off, none⟩))) (hx : evS S x = some v) (hus : v.cells = us.toArray) (ht : T.sz t = some (m, g)) (hm : us.length = m) (h1 : ∀ u ∈ us, u.oneCell' = true) (hlt : off + us.length ≤ cl.length) (hcs : putCells cl off us = cl')
  (h : ∀ w', Hf I0 D w0 I w' (BxC b e cl' :: cs.eraseIdx i) → wpList P ops Q rest a w') : wpList P ops Q (o :: rest) a w :=
 s_store T hok (H.bx i hi) hg ho hd hp hx hus ht hm h1 hlt hcs fun w' ht hb => h w' (H.store i hi ht hb)

theorem h_app (hok : PsD ds ops n S G a) (H : Hf I0 D w0 I w cs) (i : Nat) {d t e m bytes : Nat} {s x : Operand} {α : Type} {R : Rp α} (E : Elem P t e m bytes) {vs vx : Value} {l : List α} (l2 : List α) (hi : cs[i]? = some (OwC R e vs l)) (hn : R.n = m)
  (hg : o.guard = none) (ho : o.op = .call { callee := .builtin .append, args := #[s, x], argTypes := #[t, t] }) (hd : o.dst = some d) (hdn : d < n) (hf : gFree ops G d = true)
  (hs : evS S s = some vs) (hx : evS S x = some vx) (hsrc : slRep2 R AnyA I w vx l2)
  (h63 : l.length + l2.length ≤ maxLen) (hbytes : (l.length + l2.length) * bytes ≤ 140737488355328)
  (h : ∀ ao cap a' w', Hf I0 D w0 I w' (OwC R e (.slice ao (l ++ l2).length cap) (l ++ l2) :: cs.eraseIdx i) → (l ++ l2).length ≤ cap → cap ≤ maxLen → PsD ds ops n ((d, .slice ao (l ++ l2).length cap) :: S) G a' → wpList P ops Q rest a' w') : wpList P ops Q (o :: rest) a w :=
 s_app2 hok R I 0 E hn l l2 AnyA I hg ho hd hdn hf hs hx (H.ow i hi) hsrc (fun cl y hr => R.mono hr (fun k hk => ⟨hk, H.ownI i hi k hk⟩) (Keep.refl _ _)) h63 hbytes (Nat.zero_le _) (fun k hk => ⟨Nat.zero_le _, H.owlt i hi k hk⟩)
  fun ao cap a' w' h1 h2 h3 h4 h5 h6 h7 => h ao cap a' w' (H.app i hi h1 h4 h5 h6 fun k hk => (h7 k hk).2) h2 h3

theorem h_call (hok : PsD ds ops n S G a) (H : Hf I0 D w0 I w cs) {js : List (Nat × Bool)} {cin rst : List Ch} (hp : pickN js cs = some (cin, rst)) {d f : Nat} {c : Call} {fv : Operand} {caps : Array Value} {vs : List Value} {R : Dm → Value → World → Prop} (hf : IsFn P f) (hg : o.guard = none) (ho : o.op = .call c) (hcv : c.callee = .value fv) (hfv : evS S fv = some (.func (.func f) #[] caps)) (hd : o.dst = some d) (hdn : d < n) (hgf : gFree ops G d = true)
  (hx : c.args.toList.mapM (evS S) = some vs) (hc : ∀ D1, St I D1 w cin → Calls P f (vs.toArray ++ caps) w (Ret (R D1)))
  (h : ∀ v a' w' D1, R D1 v w' → (∀ {I' co}, Hf I D1 w I' w' co → Hf I0 D w0 I' w' (co ++ rst)) → PsD ds ops n ((d, v) :: S) G a' → wpList P ops Q rest a' w') : wpList P ops Q (o :: rest) a w := by
 obtain ⟨D1, h1, h2⟩ := H.call hp
 exact s_call hok hf hg ho hcv hfv hd hdn hgf hx (hc D1 h1) fun v a' w' hr => h v a' w' D1 hr h2

theorem St.cons {I : Dm} {w : World} {cs : List Ch} (h : St I NoD w cs) {c : Ch} {f : Dm} (hc : c.P I w f) (hf : ∀ k, ¬ f k) : St I NoD w (c :: cs) :=
 ⟨h.imm, ⟨f, NoD, hc, h.star, fun k a => (hf k a).elim, fun k => ⟨fun h => h.elim, fun h => h.elim (hf k) id⟩⟩, h.sep⟩

end rules

end Go.Proofs.YtglfajjcgbfehaaGreat
