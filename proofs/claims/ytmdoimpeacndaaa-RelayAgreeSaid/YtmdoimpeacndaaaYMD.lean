/- Maps: an entry is deleted; maps that an object has, or has not; keys that are structs of two numbers; parts of owned slices looked at. No program is named here. -/
import Derived.Test.YtmdoimpeacndaaaYM
namespace Go.Proofs.Ytmdoimpeacndaaa
open Go.RowKit
open Go.WideMaps (KeyLaw)

theorem keyOf_two {P : Program} {k e : TypeId} {fs : Array Field} (hu : P.underlying k = some (.struct fs)) (hkt : P.keyType k = true) (hc : P.cellsOf k = 2) (hce : P.cellsOf e = 1) (hnm : fs.all (·.name != "_") = true) (hf : fs.toList.map (fun f => (f.type, f.offset)) = [(e, 0), (e, 1)])
  (he : P.underlying e = some (.int .i64)) (hsz : ∃ m, P.types.size = m + 1) {a b : Int} (wa : (Lit.int .i64 a).wf = true) (wb : (Lit.int .i64 b).wf = true) : ∃ s, keyOf P k (.agg #[.int .i64 a, .int .i64 b]) = some s := by
 obtain ⟨m, hm⟩ := hsz
 unfold keyOf
 simp only [hu]
 rw [if_pos (by simp [hkt, Value.formed, hu, hc]), hm]
 unfold Program.keyLits
 simp only [hu, Value.cells]
 rw [if_pos ⟨by rw [hc]; rfl, hnm⟩]
 have h2 : ∃ f0 f1, fs.toList = [f0, f1] ∧ f0.type = e ∧ f0.offset = 0 ∧ f1.type = e ∧ f1.offset = 1 := by
  match h : fs.toList with
  | [] => rw [h] at hf; cases hf
  | [x] => rw [h] at hf; simp at hf
  | [x, y] => rw [h] at hf; simp at hf; exact ⟨x, y, rfl, hf.1.1, hf.1.2, hf.2.1, hf.2.2⟩
  | x :: y :: z :: r => rw [h] at hf; simp at hf
 obtain ⟨f0, f1, h3, h4, h5, h6, h7⟩ := h2
 rw [h3, List.mapM_cons, List.mapM_cons, List.mapM_nil]
 simp [h4, h5, h6, h7, hce, Program.keyLits, he, wa, wb]

section
variable {α β : Type} [DecidableEq α]
def mdel (l : List (α × β)) (k : α) : List (α × β) := match l with
 | [] => []
 | p :: r => if p.1 = k then r else p :: mdel r k

theorem mdel_none : ∀ {l : List (α × β)} {k : α}, (∀ p ∈ l, p.1 ≠ k) → mdel l k = l
 | [], _, _ => rfl
 | p :: r, k, h => by unfold mdel; rw [if_neg (h p (by simp)), mdel_none fun q hq => h q (by simp [hq])]

theorem mdel_at : ∀ {l : List (α × β)} {k : α} {j : Nat} {u : β}, (l.map Prod.fst).Nodup → l[j]? = some (k, u) → mdel l k = l.eraseIdx j
 | [], _, _, _, _, h => by simp at h
 | p :: r, k, 0, u, _, h => by
  simp only [List.getElem?_cons_zero, Option.some.injEq] at h
  subst h; unfold mdel; rw [if_pos rfl]; rfl
 | p :: r, k, j + 1, u, hn, h => by
  rw [List.map_cons, List.nodup_cons] at hn
  rw [List.getElem?_cons_succ] at h
  have hm : (k, u) ∈ r := List.mem_of_getElem? h
  unfold mdel
  rw [if_neg fun e => hn.1 (List.mem_map.2 ⟨_, hm, e.symm⟩), mdel_at hn.2 h]; rfl

theorem eraseIdx_map' {γ δ : Type} (f : γ → δ) : ∀ (l : List γ) (j : Nat), (l.eraseIdx j).map f = (l.map f).eraseIdx j
 | [], _ => rfl
 | _ :: _, 0 => rfl
 | x :: l, j + 1 => by simp only [List.eraseIdx_cons_succ, List.map_cons, eraseIdx_map' f l j]

theorem mdel_sub (k : α) : ∀ l : List (α × β), (mdel l k).Sublist l
 | [] => .slnil
 | p :: r => by
  unfold mdel
  split
  ·exact List.sublist_cons_self p r
  ·exact (mdel_sub k r).cons_cons p

theorem run_mdel {P : Program} {w : World} {t kt et ty b : Nat} {M : MapE α β} {l : List (α × β)} (K : KeyLaw P kt) (hk : ∀ a, M.ok a → ∃ s, keyOf P kt (M.ke a) = some s) (ht : P.underlying t = some (.map kt et)) {I fp : Dm} (hc : (MpC M b l).P I w fp) (a : α) (ha : M.ok a) :
  ∃ w', (Builtin.delete_ #[t, kt] ty #[.map (some b), M.ke a]).run P w = .ok (.tuple #[]) w' ∧ Turn b w w' ∧ ∀ I', (MpC M b (mdel l a)).P I' w' fp := by
 obtain ⟨h1, h2, h3, h4, es, clock, h5, h6, hB⟩ := hc
 obtain ⟨s, hs⟩ := hk a ha
 have hok : ∀ p ∈ mdel l a, M.ok p.1 := fun p hp => h4 p ((mdel_sub a l).subset hp)
 have hnd : ((mdel l a).map Prod.fst).Nodup := h3.sublist ((mdel_sub a l).map Prod.fst)
 rcases map_find (w := w) K hk h3 h4 h6 a ha with ⟨h7, h8, h9⟩ | ⟨j, e0, u, h7, h8, h9, h10, h11, h12⟩
 ·refine ⟨ChangeMaps.setBlock w b (.map es clock), ?_, setBlock_turn _ _ _, fun I' => ⟨h1, by have := (setBlock_turn w b (.map es clock)).size; omega, hnd, hok, _, _, setBlock_at _ h2, ?_, hB⟩⟩
  ·simp [Builtin.delete_, run_underlying ht, MapKept.run_getObj_map h5, K.check w _ hs, h9, MapKept.run_setObj_map _ h5, Result.andThen, ChangeMaps.setBlock]
  ·rw [mdel_none h8]; exact h6
 ·have hjl : j < es.toList.length := (List.getElem?_eq_some_iff.1 h9).1
  have hjs : j < es.size := by simpa using hjl
  have hsub : (es.eraseIdxIfInBounds j).toList = es.toList.eraseIdx j := by
   unfold Array.eraseIdxIfInBounds
   rw [dif_pos hjs]
   simp
  refine ⟨ChangeMaps.setBlock w b (.map (es.eraseIdxIfInBounds j) clock), ?_, setBlock_turn _ _ _, fun I' => ⟨h1, by have := (setBlock_turn w b (.map (es.eraseIdxIfInBounds j) clock)).size; omega, hnd, hok, _, _, setBlock_at _ h2, ?_, bornOk_sub hB (by rw [hsub]; exact List.eraseIdx_sublist ..)⟩⟩
  ·simp [Builtin.delete_, run_underlying ht, MapKept.run_getObj_map h5, K.check w _ hs, h12, MapKept.run_setObj_map _ h5, Result.andThen, ChangeMaps.setBlock]
  ·rw [hsub, mdel_at h3 h8, eraseIdx_map', h6, eraseIdx_map']

/-- what a program says of a map type, by its key's type -/
structure MapK (P : Program) (t kt : Nat) (M : MapE α β) : Prop where
 ex : ∃ et, KeyLaw P kt ∧ (∀ a, M.ok a → ∃ s, keyOf P kt (M.ke a) = some s) ∧ P.underlying t = some (.map kt et)

omit [DecidableEq α] in
theorem MapF.keyed {P : Program} {t kt et : Nat} {M : MapE α β} {d : β} (F : MapF P t M d) (ht : P.underlying t = some (.map kt et)) : ∃ et, KeyLaw P kt ∧ (∀ a, M.ok a → ∃ s, keyOf P kt (M.ke a) = some s) ∧ P.underlying t = some (.map kt et) := by
 obtain ⟨kt', et', K, hk, ht', _⟩ := F.ex
 rw [ht] at ht'
 injection ht' with ht'
 injection ht' with e1 e2
 subst e1
 exact ⟨et, K, hk, ht⟩

/-- a map, or none -/
def PmC (M : MapE α β) (v : Value) (o : Option (List (α × β))) : Ch := match o with
 | none => PfC (v = .map none)
 | some x => ExC fun (b : Nat) => [PfC (v = .map (some b)), MpC M b x]

end
section
variable {α β : Type} [DecidableEq α] {I0 D : Dm} {w0 : World} {I : Dm} {w : World} {cs : List Ch} {M : MapE α β}
omit [DecidableEq α] in
theorem Hf.optMN (H : Hf I0 D w0 I w cs) (i : Nat) {v : Value} {o : Option (List (α × β))} (h : cs[i]? = some (PmC M v o)) (ho : o = none) : v = .map none ∧ Hf I0 D w0 I w (cs.eraseIdx i) := by
 subst ho
 exact ⟨H.pf i h, H.drop1 i h⟩

omit [DecidableEq α] in
theorem Hf.optMS (H : Hf I0 D w0 I w cs) (i : Nat) {v : Value} {o : Option (List (α × β))} {x : List (α × β)} (h : cs[i]? = some (PmC M v o)) (ho : o = some x) : ∃ b, v = .map (some b) ∧ Hf I0 D w0 I w (MpC M b x :: cs.eraseIdx i) := by
 subst ho
 obtain ⟨b, H2⟩ := H.openX i h
 exact ⟨b, H2.pf 0 rfl, H2.drop1 0 rfl⟩

omit [DecidableEq α] in
theorem Hf.optMI (H : Hf I0 D w0 I w cs) (i : Nat) {v : Value} {o : Option (List (α × β))} (h : cs[i]? = some (PmC M v o)) : ∃ p, v = .map p ∧ p.isNone = o.isNone := by
 cases o with
 | none => exact ⟨none, H.pf i h, rfl⟩
 | some x =>
  obtain ⟨b, H2⟩ := H.openX i h
  exact ⟨_, H2.pf 0 rfl, rfl⟩

omit [DecidableEq α] in
theorem Hf.mkMS (H : Hf I0 D w0 I w cs) (i : Nat) {b : Nat} {x : List (α × β)} (h : cs[i]? = some (MpC M b x)) : Hf I0 D w0 I w (PmC M (.map (some b)) (some x) :: cs.eraseIdx i) := by
 have H1 := H.add (f := fun _ => False) (c := PfC (Value.map (some b) = .map (some b))) ⟨fun _ => id, rfl⟩ fun _ => id
 have hp : pickN [(i, false)] cs = some ([MpC M b x], cs.eraseIdx i) := by simp [pickN, h]
 exact Hf.shutX (f := fun (b' : Nat) => [PfC (Value.map (some b) = .map (some b')), MpC M b' x]) b H1 [(0, false), (i, false)] (by simp [pickN, hp, h])

end
theorem run_equalIn_map {P : Program} {t kt et : Nat} (d : Nat) (ht : P.underlying t = some (.map kt et)) (p : Option Nat) (w : World) : (Op.equalIn (d + 1) t (.map p) (.map none)).run P w = .ok p.isNone w := by
 cases p <;> simp [Op.equalIn, run_underlying ht]

theorem Ob_pmap {P : Program} {ev : Operand → Option Value} {o : Oper} {w : World} {x y : Operand} {t t2 kt et : Nat} {v : Value} {q : Bool} {op : BinOp} {c : Bool} (ho : o.op = .binOp op t x y t2) (hx : ev x = some v) (hy : ev y = some (.map none)) (ht : P.underlying t = some (.map kt et)) (hv : ∃ p, v = .map p ∧ p.isNone = q) (hc : (op = .eql ∧ c = q) ∨ (op = .neq ∧ c = !q)) : Ob P ev o (.bool c) w := by
 obtain ⟨p, rfl, rfl⟩ := hv
 intro ρ hρ
 have h1 : (Op.equalIn Op.maxDepth t (.map p) (.map none)).run P w = .ok p.isNone w := run_equalIn_map 9999 ht p w
 unfold execOp
 rcases hc with ⟨rfl, rfl⟩ | ⟨rfl, rfl⟩
 ·simp [ho, hρ _ _ hx, hρ _ _ hy, eqGuard, binOp, Op.equal, h1, Result.andThen]
 ·simp [ho, hρ _ _ hx, hρ _ _ hy, eqGuard, binOp, Op.equal, h1, Result.andThen]

section flow
variable {ds : List Deferred} {P : Program} {ops : Array Oper} {Q : Exit → Act → World → Prop} {a : Act} {w : World} {rest : List Oper} {o : Oper} {n : Nat} {S : Slots} {G : List GV}
variable {I0 D : Dm} {w0 : World} {I : Dm} {cs : List Ch} {α β : Type} [DecidableEq α]
theorem h_mdel (hok : PsD ds ops n S G a) (H : Hf I0 D w0 I w cs) (i : Nat) {M : MapE α β} {t kt b : Nat} {l : List (α × β)} {m x : Operand} (k : α) (F : MapK P t kt M)
  (hi : cs[i]? = some (MpC M b l)) (hg : o.guard = none) (ho : o.op = .call { callee := .builtin .delete, args := #[m, x], argTypes := #[t, kt] }) (hd : o.dst = none) (hm : evS S m = some (.map (some b))) (hx : evS S x = some (M.ke k)) (hko : M.ok k)
  (h : ∀ w', Hf I0 D w0 I w' (MpC M b (mdel l k) :: cs.eraseIdx i) → wpList P ops Q rest a w') : wpList P ops Q (o :: rest) a w := by
 obtain ⟨et, K, hk, ht⟩ := F.ex
 obtain ⟨f, hc, _⟩ := H.get i hi
 obtain ⟨w', hr, htn, hc'⟩ := run_mdel (ty := o.type) K hk ht hc k hko
 refine wpList_run hg (v := .tuple #[]) (w' := w') ?_ ?_
 ·unfold execOp
  simp [ho, hok.sl.ev hm, hok.sl.ev hx, hr, resolve, invoke, builtin, Result.andThen]
 ·rw [hd]
  refine h w' ?_
  exact H.turn i hi fun f hf hq => ⟨⟨htn.os, htn.tape, htn.output, Nat.le_of_eq htn.size.symm, fun k _ hk => htn.block k fun e => hk ((hf.1 k).2 e)⟩, f, by
   obtain ⟨w2, hr2, _, hc2⟩ := run_mdel (ty := o.type) K hk ht hf k hko
   have e : w' = w2 := by injection hr.symm.trans hr2
   rw [e]; exact hc2 I, fun k hk2 => ⟨.inl hk2, by have := (hq k hk2).1; rw [htn.size]; exact this⟩⟩

end flow
-- parts of owned slices
theorem slRep2.any {α : Type} {R : Rp α} {A0 A : Dm} {w : World} {v : Value} {l : List α} (h : slRep2 R A0 A w v l) : slRep R (fun _ => True) w v l := by
 obtain ⟨ao, b, off, cap, hv, hc, hm, hb, hx⟩ := h
 refine ⟨ao, b, off, cap, hv, hc, hm, fun h0 => ⟨(hb h0).1, trivial, (hb h0).2.2⟩, fun i hi => ?_⟩
 obtain ⟨cs, h1, h2⟩ := hx i hi
 exact ⟨cs, R.mono h1 (fun _ _ => trivial) (Keep.refl _ _), h2⟩

theorem slRep2.elG {α : Type} [Inhabited α] {R : Rp α} {A0 A : Dm} {w : World} {v : Value} {l : List α} (h : slRep2 R A0 A w v l) (z : Int) (hd : ∃ cl, R.rep A w cl default) : ∃ cl, R.rep A w cl (l.getD z.toNat default) ∧ (0 ≤ z ∧ z < (l.length : Int) → At w (blkOf v) (oofOf v + z.toNat * R.n) cl) := by
 by_cases h0 : z.toNat < l.length
 ·obtain ⟨ao, b, off, cap, rfl, hc, hm, hb, hx⟩ := h
  obtain ⟨cs, h1, h2⟩ := hx z.toNat h0
  obtain ⟨rfl, _, _⟩ := hb (by omega)
  refine ⟨cs, by rw [getD_get _ _ _ h0]; exact h1, fun _ j u hj => ?_⟩
  obtain ⟨hjl, rfl⟩ := List.getElem?_eq_some_iff.1 hj
  exact h2 j hjl
 ·obtain ⟨cl, h1⟩ := hd
  refine ⟨cl, ?_, fun h => absurd h (by omega)⟩
  rw [List.getD_eq_getElem?_getD, List.getElem?_eq_none (by omega)]; exact h1

end Go.Proofs.Ytmdoimpeacndaaa
