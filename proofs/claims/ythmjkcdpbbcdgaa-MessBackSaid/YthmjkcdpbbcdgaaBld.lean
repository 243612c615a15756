/- A row of bytes of the walk's own, appended to by strings, read out as a string; an object that holds one (strings.Builder at the head of a block). No program is named here. -/
import Derived.Test.YthmjkcdpbbcdgaaW1
import Derived.Lib.AppendStr
import Derived.Lib.UnsafeStr
import Derived.Lib.Builder
namespace Go.Proofs.Ythmjkcdpbbcdgaa
open Go.RowKit
variable {ds : List Deferred}

/-- a row with a block has room -/
def rowCap (v : Value) : Prop := ∀ x m c, v = .slice (some x) m c → 0 < c

/-- an owned row of bytes -/
def OrC (e : TypeId) (v : Value) (s : ByteArray) : Ch where
 P _ w fp := (∀ k, fp k ↔ v.ownBlock = some k) ∧ (∀ k, v.ownBlock = some k → k < w.heap.size) ∧ w.ownsRow 0 e 1 v s.size (Lib.strCells s) ∧ rowCap v
 keep := fun {I I' fp w w'} ⟨h1, h2, h3, h9⟩ _ hk => by
  refine ⟨h1, fun k h => Nat.lt_of_lt_of_le (h2 k h) hk.1, ⟨h3.1, ?_⟩, h9⟩
  rcases h3.2 with h4 | ⟨g, cap, cur, hv, hb, hg, rest⟩
  ·exact .inl h4
  ·refine .inr ⟨g, cap, cur, hv, hb, ?_, rest⟩
   have ho : v.ownBlock = some g := by rw [hv]; rfl
   rw [hk.2 g (.inr ((h1 g).2 ho)) (h2 g ho)]; exact hg
 pur := false
 hpur := fun h => by cases h

/-- an object: a builder (its own address, its bytes), a number, a mark that it was made -/
def WrG (T e : TypeId) (b : Nat) (s : ByteArray) (er : Int) : Ch :=
 ExC fun (p : Bool × Value) => [BxC b T [if p.1 then .pointer (some ⟨b, 0, none⟩) else .pointer none, p.2, .int .i64 er, .bool true], OrC e p.2 s]

section
variable {P : Program} {I0 D : Dm} {w0 : World} {I : Dm} {w : World} {cs : List Ch}

/-- what an opened chunk holds -/
theorem Hf.exC {α : Type} {f : α → List Ch} (H : Hf I0 D w0 I w cs) (i : Nat) (hi : cs[i]? = some (ExC f)) : ∃ x, Hf I0 D w0 I w (f x ++ cs.eraseIdx i) := by
 obtain ⟨fp, h1, h2⟩ := H.star
 obtain ⟨f1, g, h3, h4, h5, h6⟩ := h1.take hi
 obtain ⟨x, hx⟩ := h3
 exact ⟨x, H.frm, H.imm, H.imm2, _, hx.app h4 h5, fun k hk => h2 k ((h6 k).2 hk)⟩

theorem Hf.toEx {α : Type} {f : α → List Ch} (x : α) {cs1 : List Ch} (H : Hf I0 D w0 I w (f x ++ cs1)) : Hf I0 D w0 I w (ExC f :: cs1) := by
 obtain ⟨fp, h1, h2⟩ := H.star
 have key : ∀ (l : List Ch) (fp : Dm), Star I w (l ++ cs1) fp → ∃ f1 g, Star I w l f1 ∧ Star I w cs1 g ∧ (∀ k, f1 k → ¬ g k) ∧ ∀ k, fp k ↔ (f1 k ∨ g k) := by
  intro l
  induction l with
  | nil => intro fp h; exact ⟨fun _ => False, fp, fun _ => id, h, fun _ h => h.elim, fun k => by simp⟩
  | cons c l ih =>
   rintro fp ⟨f1, g1, a, b, d, e⟩
   obtain ⟨f2, g2, a2, b2, d2, e2⟩ := ih g1 b
   refine ⟨fun k => f1 k ∨ f2 k, g2, ⟨f1, f2, a, a2, fun k x y => d k x ((e2 k).2 (.inl y)), fun _ => Iff.rfl⟩, b2, fun k x y => ?_, fun k => ?_⟩
   ·rcases x with x | x
    ·exact d k x ((e2 k).2 (.inr y))
    ·exact d2 k x y
   ·rw [e, e2, or_assoc]
 obtain ⟨f1, g, a, b, d, e⟩ := key _ _ h1
 exact ⟨H.frm, H.imm, H.imm2, fp, ⟨f1, g, ⟨x, a⟩, b, d, e⟩, h2⟩

theorem Hf.tail {c : Ch} (H : Hf I0 D w0 I w (c :: cs)) : Hf I0 D w0 I w cs := by
 obtain ⟨fp, h1, h2⟩ := H.star
 obtain ⟨f1, g, a, b, d, e⟩ := h1
 exact ⟨H.frm, H.imm, H.imm2, g, b, fun k hk => h2 k ((e k).2 (.inr hk))⟩

theorem Hf.or (H : Hf I0 D w0 I w cs) (i : Nat) {e : TypeId} {v : Value} {s : ByteArray} (h : cs[i]? = some (OrC e v s)) : w.ownsRow 0 e 1 v s.size (Lib.strCells s) := (H.get i h).choose_spec.1.2.2.1

theorem Hf.orc (H : Hf I0 D w0 I w cs) (i : Nat) {e : TypeId} {v : Value} {s : ByteArray} (h : cs[i]? = some (OrC e v s)) : rowCap v := (H.get i h).choose_spec.1.2.2.2

theorem Hf.newwr (H : Hf I0 D w0 I w cs) (i : Nat) {T e b : Nat} (h : cs[i]? = some (BxC b T [.pointer none, .slice none 0 0, .int .i64 0, .bool true])) : Hf I0 D w0 I w (WrG T e b ByteArray.empty 0 :: cs.eraseIdx i) := by
 have hp : pickN [(i, false)] cs = some ([BxC b T [.pointer none, .slice none 0 0, .int .i64 0, .bool true]], cs.eraseIdx i) := by simp [pickN, h]
 have H1 : Hf I0 D w0 I w (BxC b T [.pointer none, .slice none 0 0, .int .i64 0, .bool true] :: cs.eraseIdx i) := by
  obtain ⟨D1, h1, h2⟩ := H.call hp
  exact h2 h1.hf
 have H2 : Hf I0 D w0 I w (OrC e (.slice none 0 0) ByteArray.empty :: BxC b T [.pointer none, .slice none 0 0, .int .i64 0, .bool true] :: cs.eraseIdx i) :=
  H1.add (f := fun _ => False) ⟨fun k => by simp [Value.ownBlock], fun k h => by simp [Value.ownBlock] at h, World.ownsRow_nil w 0 e 1, fun x m c h => by cases h⟩ fun _ => id
 have H3 : Hf I0 D w0 I w (BxC b T [.pointer none, .slice none 0 0, .int .i64 0, .bool true] :: OrC e (.slice none 0 0) ByteArray.empty :: cs.eraseIdx i) := by
  obtain ⟨D1, h1, h2⟩ := H2.call (js := [(1, false), (0, false)]) rfl
  exact h2 h1.hf
 exact Hf.toEx (f := fun (p : Bool × Value) => [BxC b T [if p.1 then .pointer (some ⟨b, 0, none⟩) else .pointer none, p.2, .int .i64 0, .bool true], OrC e p.2 ByteArray.empty]) (false, .slice none 0 0) H3

end

section
variable {P : Program} {ops : Array Oper} {Q : Exit → Act → World → Prop} {a : Act} {w : World} {rest : List Oper} {o : Oper} {n : Nat} {S : Slots} {G : List GV}
variable {I0 D : Dm} {w0 : World} {I : Dm} {cs : List Ch}

/-- As the kit's law of appending a string to an own row, and it says where the new row lies: in the old block or in a new one. -/
theorem run_apps {P : Program} (w : World) (base : Nat) (t u ty e : TypeId) (i : TypeInfo) (ht : P.underlying t = some (.slice e)) (hu : P.underlying u = some .string) (hi : P.info? e = some i) (hz : i.zero = some (.int .u8 0))
  (hsize : i.size = 1) (hby : i.bytes = 1) (v : Value) (n : Nat) (xs : List Value) (hown : w.ownsRow base e 1 v n xs) (s : ByteArray)
  (h63 : n + s.size ≤ maxLen) (hbytes : n + s.size ≤ 140737488355328) (hbase : base ≤ w.heap.size) :
  ∃ v' w', (Builtin.append_ #[t, u] ty #[v, .string s]).run P w = .ok v' w' ∧ w'.ownsRow base e 1 v' (n + s.size) (xs ++ Lib.strCells s) ∧ w.grownBy w' v.ownBlock ∧
   (∀ k, v'.ownBlock = some k → v.ownBlock = some k ∨ w.heap.size ≤ k) ∧ (rowCap v → rowCap v') := by
 obtain ⟨v', w', hr, ho, hgr, hnil⟩ := Lib.run_append_own_string (P := P) w base t u ty e i ht hu hi hz hsize hby v n xs hown s h63 hbytes hbase
 refine ⟨v', w', hr, ho, hgr, ?_⟩
 have hsmall : n + s.size ≤ 9223372036854775807 := by simp only [maxLen] at h63; omega
 have hxl : xs.length = n := by simpa using hown.1
 rcases hown.2 with ⟨rfl, rfl⟩ | ⟨g, cap, cur, rfl, hbg, hg, hnc, hcm, hcs, htake⟩
 ·by_cases hm : s.size = 0
  ·have := hnil.2 ⟨rfl, hm⟩
   subst this
   exact ⟨fun k hk => (by cases hk), fun h => h⟩
  ·have hr2 := run_append_nil_string (P := P) w t u ty e i (.int .u8 0) ht hu hi hz s (by omega) (by omega) (by rw [hby]; omega)
   rw [hr] at hr2
   injection hr2 with hv hw
   subst hv
   refine ⟨fun k hk => .inr ?_, fun _ x m c h => ?_⟩
   ·simp [Value.ownBlock] at hk
    omega
   ·cases h
    have := grownCap_ge w s.size 0 e
    omega
 ·by_cases hroom : n + s.size ≤ cap
  ·have hcs' : cur.size = cap := by simpa using hcs
   have hr2 := Lib.run_append_room_string (P := P) w t u ty e i ht hu hi hsize g n cap cur hg s hroom (by omega)
   rw [hr] at hr2
   injection hr2 with hv hw
   subst hv
   exact ⟨fun k hk => .inl hk, fun h x m c e => by cases e; exact h _ _ _ rfl⟩
  ·have holds : ∀ j u, xs[j]? = some u → w.cell? ((⟨g, 0, none⟩ : Addr).add j) = some u := hown.cells (g := g) rfl
   have hr2 := Lib.run_append_grow_string (P := P) w t u ty e i (.int .u8 0) ht hu hi hz ⟨g, 0, none⟩ n cap xs (by rw [hsize]; simpa using hxl) holds s (by omega) (by omega) (by rw [hby]; exact growslice_fits (by omega) (by omega))
   rw [hr] at hr2
   injection hr2 with hv hw
   subst hv
   refine ⟨fun k hk => .inr ?_, fun _ x m c h => ?_⟩
   ·simp [Value.ownBlock] at hk
    omega
   ·cases h
    have := grownCap_ge w (n + s.size) cap e
    omega

/-- append(row, s...) -/
theorem h_apps (hok : PsD ds ops n S G a) (H : Hf I0 D w0 I w cs) (i : Nat) {d t u e : Nat} {s x : Operand} {vs : Value} {l s2 : ByteArray} (ht : P.underlying t = some (.slice e)) (hu : P.underlying u = some .string) (hi : cs[i]? = some (OrC e vs l)) (hz : (P.info? e).map (fun i => (i.zero, i.size, i.bytes)) = some (some (.int .u8 0), 1, 1))
  (hg : o.guard = none) (ho : o.op = .call { callee := .builtin .append, args := #[s, x], argTypes := #[t, u] }) (hd : o.dst = some d) (hdn : d < n) (hf : gFree ops G d = true)
  (hs : evS S s = some vs) (hx : evS S x = some (.string s2)) (hsz : l.size + s2.size ≤ 140737488355328)
  (h : ∀ ao cap a' w', Hf I0 D w0 I w' (OrC e (.slice ao (l ++ s2).size cap) (l ++ s2) :: cs.eraseIdx i) → PsD ds ops n ((d, .slice ao (l ++ s2).size cap) :: S) G a' → wpList P ops Q rest a' w') : wpList P ops Q (o :: rest) a w := by
 obtain ⟨inf, h1, h2, h3, h4⟩ := info_parts hz
 have hown := H.or i hi
 obtain ⟨v', w', hr, ho', hgr, hwh, hrc⟩ := run_apps (P := P) w 0 t u o.type e inf ht hu h1 h2 h3 h4 vs l.size (Lib.strCells l) hown s2 (by unfold maxLen; omega) hsz (Nat.zero_le _)
 have hcells : Lib.strCells l ++ Lib.strCells s2 = Lib.strCells (l ++ s2) := by
  simp [Lib.strCells, ByteArray.data_append]
 rw [hcells, ← ByteArray.size_append] at ho'
 obtain ⟨ao, cap, rfl⟩ : ∃ ao cap, v' = .slice ao (l ++ s2).size cap := by
  rcases ho'.2 with ⟨h0, h00⟩ | ⟨g, cap, cur, rfl, _⟩
  ·exact ⟨none, 0, by rw [h0, h00]⟩
  ·exact ⟨some ⟨g, 0, none⟩, cap, rfl⟩
 refine wpList_run hg (v := .slice ao (l ++ s2).size cap) (w' := w') ?_ ?_
 ·unfold execOp
  simp [ho, resolve, invoke, builtin, hok.sl.ev hs, hok.sl.ev hx, hr]
 ·rw [hd]
  refine h _ _ _ _ (H.turn i hi fun f hf2 hk => ⟨⟨hgr.os, hgr.tape, hgr.output, hgr.size, fun k hl hn => ?_⟩, fun k => Value.ownBlock (.slice ao (l ++ s2).size cap) = some k, ⟨fun _ => Iff.rfl, fun k hk2 => (ho'.lt k hk2).2, ho', hrc (H.orc i hi)⟩, fun k hk2 => ⟨?_, (ho'.lt k hk2).2⟩⟩) (hok.put hdn hf _)
  ·exact hgr.block k hl fun hh => hn ((hf2.1 k).2 hh.symm)
  ·exact (hwh k hk2).imp (fun hh => (hf2.1 k).2 hh) id

end

section
variable {P : Program} {ev : Operand → Option Value} {o : Oper} {w : World}
theorem Box.shape {b : Nat} {t : TypeId} {cs : List Value} (h : Box w b t cs) : w.shape? b = some (t, cs.length) := by
 unfold World.shape?
 simp only [show w.heap[b]? = some (.cells cs.toArray t (0, 0)) from h]
 simp

/-- a pointer to what lies at the head of a block, as unsafe.Pointer -/
theorem Ob_tou {src dst t e b : Nat} {x : Operand} {cs : List Value} (ho : o.op = .convert src dst x) (hx : ev x = some (.pointer (some ⟨b, 0, none⟩))) (hs : P.underlying src = some (.pointer t)) (hd : P.underlying dst = some .unsafePointer) (hj : (P.info? t).map (fun j => j.size != 0) = some true)
  (hb : Box w b e cs) (hne : 0 < cs.length) : Ob P ev o (.pointer (some ⟨b, 0, none⟩)) w := by
 intro ρ hρ
 cases hi : P.info? t with
 | none => rw [hi] at hj; cases hj
 | some j =>
  rw [hi] at hj
  have h0 : j.size ≠ 0 := by simpa using hj
  unfold execOp
  simp [ho, hρ _ _ hx, Lib.run_to_unsafe w ⟨b, 0, none⟩ hs hd hi h0 hb.shape hne]

/-- .. and back -/
theorem Ob_fru {src dst u e b : Nat} {x : Operand} {cs : List Value} (ho : o.op = .convert src dst x) (hx : ev x = some (.pointer (some ⟨b, 0, none⟩))) (hs : P.underlying src = some .unsafePointer) (hd : P.underlying dst = some (.pointer u)) (hj : (P.info? u).isSome = true)
  (hb : Box w b e cs) (hl : liesAt P P.depth e (cs.length / P.cellsOf e) 0 u 1 = true) : Ob P ev o (.pointer (some ⟨b, 0, none⟩)) w := by
 intro ρ hρ
 cases hi : P.info? u with
 | none => rw [hi] at hj; cases hj
 | some j =>
  unfold execOp
  simp [ho, hρ _ _ hx, Lib.run_from_unsafe w ⟨b, 0, none⟩ hs hd hi hb.shape hl]

/-- a pointer is itself -/
theorem Ob_neps {t t2 te : Nat} {x y : Operand} {p : Addr} (ho : o.op = .binOp .neq t x y t2) (hx : ev x = some (.pointer (some p))) (hy : ev y = some (.pointer (some p))) (hp : P.underlying t = some (.pointer te)) (hj : (P.info? te).isSome = true) : Ob P ev o (.bool false) w := by
 intro ρ hρ
 cases hi : P.info? te with
 | none => rw [hi] at hj; cases hj
 | some j =>
  unfold execOp
  simp [ho, hρ _ _ hx, hρ _ _ hy, Lib.run_neq_ptr_same w p hp hi, eqGuard]

/-- the call of a function of the machine's own -/
theorem Ob_ext {f : Nat} {c : Call} {fv x : Operand} {v r : Value} {e : Array Value → Sem Value} (ho : o.op = .call c) (hcv : c.callee = .value fv) (hfv : ev fv = some (.func (.func f) #[] #[])) (ha : c.args = #[x]) (hx : ev x = some v)
  {fn : Func} (hf : P.funcs[f]? = some fn) (hname : (fn.name == "runtime.NumGoroutine") = false) (hb : fn.body.isNone = true) (hn : Extern.findNext fn = none) (he : Extern.find fn = some e) (hr : (e #[v]).run P w = .ok r w) : Ob P ev o r w := by
 intro ρ hρ
 have h := run_callFunc_extern hf hname hb hn he #[v] w
 rw [hr] at h
 unfold execOp
 simp [ho, resolve, hcv, hρ _ _ hfv, ha, hρ _ _ hx, Deferred.ofValue, invoke, h, Result.andThen]

end

section
variable {P : Program} {ops : Array Oper} {Q : Exit → Act → World → Prop} {a : Act} {w : World} {rest : List Oper} {o : Oper} {n : Nat} {S : Slots} {G : List GV}
variable {I0 D : Dm} {w0 : World} {I : Dm} {cs : List Ch}

theorem Ob_usd {ev : Operand → Option Value} {x : Operand} {ts : Array TypeId} {ao : Option Addr} {m cap : Nat} (ho : o.op = .call { callee := .builtin .unsafeSliceData, args := #[x], argTypes := ts }) (hx : ev x = some (.slice ao m cap)) (hc : rowCap (.slice ao m cap)) : Ob P ev o (.pointer ao) w := by
 intro ρ hρ
 have hr : (Builtin.unsafeSliceData_ ts o.type #[.slice ao m cap]).run P w = .ok (.pointer ao) w := by
  cases ao with
  | none => exact Lib.run_unsafeSliceData_nil w ts o.type m cap
  | some x => exact Lib.run_unsafeSliceData_row w ts o.type x m cap (Nat.pos_iff_ne_zero.1 (hc _ _ _ rfl))
 unfold execOp
 simp [ho, resolve, invoke, builtin, hρ _ _ hx, hr]

/-- what an owned row is -/
theorem Hf.orV (H : Hf I0 D w0 I w cs) (i : Nat) {e : TypeId} {v : Value} {s : ByteArray} (h : cs[i]? = some (OrC e v s)) : ∃ ao cap, v = .slice ao s.size cap := by
 rcases (H.or i h).2 with ⟨h0, h00⟩ | ⟨g, cap, cur, h1, _⟩
 ·exact ⟨none, 0, by rw [h0, h00]⟩
 ·exact ⟨_, cap, h1⟩

/-- the row is read out for good -/
theorem h_ustr (hok : PsD ds ops n S G a) (H : Hf I0 D w0 I w cs) (i : Nat) {d pt it e : Nat} {p x : Operand} {ao : Option Addr} {cap : Nat} {t : ByteArray} (hpt : P.underlying pt = some (.pointer e)) (hce : P.cellsOf e = 1) (hi : cs[i]? = some (OrC e (.slice ao t.size cap) t))
  (hg : o.guard = none) (ho : o.op = .call { callee := .builtin .unsafeString, args := #[p, x], argTypes := #[pt, it] }) (hd : o.dst = some d) (hdn : d < n) (hf : gFree ops G d = true)
  (hp : evS S p = some (.pointer ao)) (hx : evS S x = some (.int .i64 (t.size : Int)))
  (h : ∀ a' w', Hf I0 D w0 I w' (cs.eraseIdx i) → PsD ds ops n ((d, .string t) :: S) G a' → wpList P ops Q rest a' w') : wpList P ops Q (o :: rest) a w := by
 have hown := H.or i hi
 have htl : t.data.toList.length = t.size := by rw [Array.length_toList]; rfl
 have key : ∃ w', (Builtin.unsafeString_ #[pt, it] o.type #[.pointer ao, .int .i64 (t.size : Int)]).run P w = .ok (.string t) w' ∧ w'.os = w.os ∧ w'.tape = w.tape ∧ w'.output = w.output ∧ w'.heap.size = w.heap.size ∧ ∀ k, Value.ownBlock (.slice ao t.size cap) ≠ some k → w'.heap[k]? = w.heap[k]? := by
  by_cases h0 : t.size = 0
  ·have ht : t = ByteArray.empty := by
    apply ByteArray.ext
    apply Array.eq_empty_of_size_eq_zero
    exact h0
   refine ⟨w, ?_, rfl, rfl, rfl, rfl, fun _ _ => rfl⟩
   rw [ht]
   exact Lib.run_unsafeString_none w pt it o.type ao
  ·rcases hown.2 with ⟨hv, _⟩ | ⟨g, cap2, cur, hv, _, hb, hnc, hcm, hcs, htk⟩
   ·injection hv with h1 h2 h3
    exact absurd h2 h0
   ·injection hv with h1 h2 h3
    subst h1 h3
    have hsh : w.shape? g = some (e, cur.size) := by
     unfold World.shape?
     simp only [hb]
    have hr := Lib.run_unsafeString_row (P := P) w pt it o.type e hpt hce g cur.size hsh t.data.toList (by intro hh; rw [hh] at htl; exact h0 htl.symm) (by rw [htl]; omega) (by rw [htl]; unfold maxLen at hcm; omega) (fun j y hj => ?_)
    ·rw [htl] at hr
     refine ⟨_, hr, ?_, ?_, ?_, ?_, fun k hk => ?_⟩
     all_goals unfold World.freeze
     ·split <;> rfl
     ·split <;> rfl
     ·split <;> rfl
     ·split <;> simp
     ·split
      ·rfl
      ·simp only [Array.getElem?_modify]
       rw [if_neg]
       exact fun e => hk (by simp [Value.ownBlock, e])
    ·have := hown.cells (g := g) rfl
     refine this j _ ?_
     simp [Lib.strCells, hj]
 obtain ⟨w', hr, h1, h2, h3, h4, h5⟩ := key
 refine wpList_run hg (v := .string t) (w' := w') ?_ ?_
 ·unfold execOp
  simp [ho, resolve, invoke, builtin, hok.sl.ev hp, hok.sl.ev hx, hr]
 ·rw [hd]
  have H2 : Hf I0 D w0 I w' (OrC e (.slice none 0 0) ByteArray.empty :: cs.eraseIdx i) :=
   H.turn i hi fun f hf2 hk => ⟨⟨h1, h2, h3, by omega, fun k hl hn => h5 k fun hh => hn ((hf2.1 k).2 hh)⟩, fun _ => False, ⟨fun k => by simp [Value.ownBlock], fun k h => by simp [Value.ownBlock] at h, World.ownsRow_nil w' 0 e 1, fun x m c h => by cases h⟩, fun k hk2 => hk2.elim⟩
  exact h _ _ H2.tail (hok.put hdn hf _)

end

end Go.Proofs.Ythmjkcdpbbcdgaa
