/- Rules for numbers' bits, new slices, a store into an element, bytes as a string. No program is named here. -/
import Derived.Test.YthmjkcdpbbcdgaaQS
import Derived.Laws.MakeOwn
import Derived.Scope
import Derived.Laws.BytesString
namespace Go.Proofs.Ythmjkcdpbbcdgaa
open Go.RowKit
variable {ds : List Deferred}

section
variable {Q : Exit → Act → World → Prop} {a : Act} {w : World}
theorem p_scp_r (h : Q .ret a w) : Exit.noGoto Q .ret a w := h

end

section
variable {P : Program} {ev : Operand → Option Value} {o : Oper} {w : World}
theorem Ob_shr {t t2 : Nat} {x y : Operand} {k k2 : IntKind} {a b c : Int} (ho : o.op = .binOp .shr t x y t2) (hx : ev x = some (.int k a)) (hy : ev y = some (.int k2 b)) (hb : 0 ≤ b) (hc : a.fdiv (2 ^ min b.toNat k.bits) = c) : Ob P ev o (.int k c) w := by
 intro ρ hρ
 subst hc
 unfold execOp
 simp [ho, hρ _ _ hx, hρ _ _ hy, eqGuard, binOp, Op.shift, Int.not_lt.2 hb]

theorem Ob_shl {t t2 : Nat} {x y : Operand} {k k2 : IntKind} {a b c : Int} (ho : o.op = .binOp .shl t x y t2) (hx : ev x = some (.int k a)) (hy : ev y = some (.int k2 b)) (hb : 0 ≤ b) (hc : k.wrap (a * 2 ^ min b.toNat k.bits) = c) : Ob P ev o (.int k c) w := by
 intro ρ hρ
 subst hc
 unfold execOp
 simp [ho, hρ _ _ hx, hρ _ _ hy, eqGuard, binOp, Op.shift, Int.not_lt.2 hb]

theorem Ob_or {t t2 : Nat} {x y : Operand} {k : IntKind} {a b c : Int} (ho : o.op = .binOp .or t x y t2) (hx : ev x = some (.int k a)) (hy : ev y = some (.int k b)) (hc : k.wrap (BitVec.ofInt k.bits a ||| BitVec.ofInt k.bits b).toNat = c) : Ob P ev o (.int k c) w := by
 intro ρ hρ
 subst hc
 unfold execOp
 simp [ho, hρ _ _ hx, hρ _ _ hy, eqGuard, binOp, Op.intBits]

end

/-- a byte more, from the right -/
theorem or_byte (n b : Nat) (hn : n < 72057594037927936) (hb : b < 256) : IntKind.u64.wrap ((BitVec.ofInt IntKind.u64.bits ((n * 256 : Nat) : Int) ||| BitVec.ofInt IntKind.u64.bits (b : Int)).toNat) = ((n * 256 + b : Nat) : Int) := by
 have h1 : (BitVec.ofInt IntKind.u64.bits ((n * 256 : Nat) : Int)).toNat = n * 256 := by
  simp [BitVec.toNat_ofInt, IntKind.bits]; omega
 have h2 : (BitVec.ofInt IntKind.u64.bits (b : Int)).toNat = b := by
  simp [BitVec.toNat_ofInt, IntKind.bits]; omega
 rw [BitVec.toNat_or, h1, h2]
 have h3 : n * 256 ||| b = n * 256 + b := by
  have := Nat.two_pow_add_eq_or_of_lt (i := 8) (b := b) (by omega) n
  rw [Nat.mul_comm n 256]; exact this.symm
 rw [h3]
 exact IntWalk.u64_in _ (by omega)

theorem shl_byte (n : Nat) (hn : n < 72057594037927936) : IntKind.u64.wrap ((n : Int) * 2 ^ min (8 : Int).toNat IntKind.u64.bits) = ((n * 256 : Nat) : Int) := by
 have : (2 : Int) ^ min (8 : Int).toNat IntKind.u64.bits = 256 := by decide
 rw [this, IntWalk.u64_in _ (by omega)]; omega

theorem shr_byte (n : Nat) : (n : Int).fdiv (2 ^ min (8 : Int).toNat IntKind.u64.bits) = ((n / 256 : Nat) : Int) := by
 have : (2 : Int) ^ min (8 : Int).toNat IntKind.u64.bits = 256 := by decide
 rw [this, Int.fdiv_eq_ediv_of_nonneg _ (by decide)]; omega

section
variable {P : Program} (T : Tab P) {ops : Array Oper} {Q : Exit → Act → World → Prop} {a : Act} {w : World} {rest : List Oper} {o : Oper} {n : Nat} {S : Slots} {G : List GV}
variable {I0 D : Dm} {w0 : World} {I : Dm} {cs : List Ch}

theorem madeOw {α : Type} {R : Rp α} (hF : R.Flat) {e : TypeId} (w : World) (m cap : Nat) (I : Dm) {zs : Array Value} (l : List α) (hl : l.length = m) (hm : m ≤ cap) (hc : cap ≤ maxLen) (css : List (List Value)) (hs : zs.size = cap * R.n) (hz : zs.toList.take (m * R.n) = css.flatten) (hcl : css.length = m) (hr : ∀ i (h1 : i < css.length) (h2 : i < l.length), R.rep NoA w css[i] l[i]) :
  Ow R I 0 e (w.alloc (.cells zs e)) (.slice (some ⟨w.heap.size, 0, none⟩) m cap) l := by
 refine .inr ⟨w.heap.size, cap, css, by rw [hl], ?_, by omega, fun i h1 h2 => hF _ _ _ _ _ _ (hr i h1 h2)⟩
 rw [hl]
 refine ⟨?_, .inr ⟨w.heap.size, cap, zs, rfl, Nat.zero_le _, heap_alloc_new w _, hm, hc, hs, hz⟩⟩
 rw [← hz, List.length_take, Array.length_toList, hs]
 exact Nat.min_eq_left (Nat.mul_le_mul_right _ hm)

theorem Hf.newow {α : Type} {R : Rp α} (H : Hf I0 D w0 I w cs) {w' : World} {e : TypeId} {b m cap : Nat} {l : List α} (hb : Below w.heap.size w w') (h0 : b = w.heap.size) (h1 : b < w'.heap.size) (ho : Ow R I 0 e w' (.slice (some ⟨b, 0, none⟩) m cap) l) : Hf I0 D w0 I w' (OwC R e (.slice (some ⟨b, 0, none⟩) m cap) l :: cs) :=
 H.new hb (f := fun k => k = b) ⟨fun k => by simp [Value.ownBlock]; exact eq_comm, fun k hk => by simp [Value.ownBlock] at hk; omega, ho⟩ fun k hk => by omega

theorem made_take (m cap : Nat) (hm : m ≤ cap) : (madeCells #[Value.int .u8 0] cap).toList.take m = ((List.replicate m 0).map fun (x : Nat) => [Value.int .u8 (x : Int)]).flatten := by
 have e : (madeCells #[Value.int .u8 0] cap).toList = List.replicate cap (Value.int .u8 0) := by
  unfold madeCells
  apply List.ext_getElem
  ·simp
  ·intro i h1 h2; simp [Nat.mod_one]
 rw [e, List.take_replicate, Nat.min_eq_left hm]
 clear e hm
 induction m with
 | zero => rfl
 | succ m ih => rw [List.replicate_succ, List.replicate_succ, List.map_cons, List.flatten_cons, ← ih]; rfl

/-- make([]byte, m, cap) -/
theorem h_mk8 (hok : PsD ds ops n S G a) (H : Hf I0 D w0 I w cs) {d t e : Nat} {x y : Operand} (E : Elem P t e 1 1) {kl kc : IntKind} {z1 z2 : Int} (m cap : Nat) (hg : o.guard = none) (ho : o.op = .makeSlice t x y) (hd : o.dst = some d) (hdn : d < n) (hf : gFree ops G d = true)
  (hx : evS S x = some (.int kl z1)) (hy : evS S y = some (.int kc z2)) (hz1 : z1 = (m : Int)) (hz2 : z2 = (cap : Int)) (hm : m ≤ cap) (hcap : cap ≤ 281474976710656)
  (hz : (P.info? e).map (fun i => (i.zero, i.size, i.bytes)) = some (some (.int .u8 0), 1, 1))
  (h : ∀ a' w' b, Hf I0 D w0 I w' (OwC RB8 e (.slice (some ⟨b, 0, none⟩) (List.replicate m 0).length cap) (List.replicate m 0) :: cs) → PsD ds ops n ((d, .slice (some ⟨b, 0, none⟩) (List.replicate m 0).length cap) :: S) G a' → wpList P ops Q rest a' w') : wpList P ops Q (o :: rest) a w := by
 obtain ⟨i, hi, hzz, hsz, hby⟩ := info_parts hz
 have hr := run_make (P := P) w t e i (.int .u8 0) E.sl hi hzz kl kc m cap (by omega) (by omega) (by rw [hby]; omega) (by omega)
 rw [hsz] at hr
 simp only [Int.toNat_natCast, Nat.mul_one] at hr
 refine wpList_run hg (v := .slice (some ⟨w.heap.size, 0, none⟩) m cap) (w' := w.alloc (.cells (madeCells #[Value.int .u8 0] cap) e)) ?_ ?_
 ·unfold execOp
  have h1 := hok.sl.ev hx
  have h2 := hok.sl.ev hy
  rw [hz1] at h1; rw [hz2] at h2
  have hr' : (Instr.makeSlice t (.int kl (m : Int)) (.int kc (cap : Int))).run P w = .ok (.slice (some ⟨w.heap.size, 0, none⟩) m cap) (w.alloc (.cells (madeCells #[Value.int .u8 0] cap) e)) := hr
  simp [ho, h1, h2, hr']
 ·rw [hd]
  rw [List.length_replicate] at h
  refine h _ _ w.heap.size (H.newow ((Below.refl _ _).alloc (Nat.le_refl _) _) rfl (by simp) (madeOw RB8.isFlat w m cap I (R := RB8) (List.replicate m 0) (by simp) hm (by unfold maxLen; omega) ((List.replicate m 0).map fun (x : Nat) => [Value.int .u8 (x : Int)]) ?_ ?_ (by simp) ?_)) (hok.put hdn hf _)
  ·exact (size_madeCells _ _).trans (Nat.mul_one _).symm
  ·show _ = _
   rw [show m * RB8.n = m from Nat.mul_one m]
   exact made_take m cap hm
  ·intro i h1 h2
   refine ⟨?_, ?_⟩
   ·simp
   ·simp

end

/-- bytes as a string -/
def strB (l : List Nat) : ByteArray := ⟨(l.map UInt8.ofNat).toArray⟩

theorem strB_size (l : List Nat) : (strB l).size = l.length := by simp [strB, ByteArray.size]

theorem bytes_fold : ∀ (l : List Nat) (s : ByteArray), ((l.map fun (x : Nat) => (x : Int)).foldl (fun r n => r.push (UInt8.ofNat n.toNat)) s) = ⟨s.data ++ (l.map UInt8.ofNat).toArray⟩
 | [], s => by simp
 | x :: l, s => by
  rw [List.map_cons, List.foldl_cons, bytes_fold l]
  simp [ByteArray.push]

theorem run_b2s {P : Program} {w : World} {A : Dm} {src dst e : Nat} {v : Value} {l : List Nat} (hs : P.underlying src = some (.slice e)) (he : P.underlying e = some (.int .u8)) (hd : P.underlying dst = some .string) (h : slRep RB8 A w v l) : (convert src dst v).run P w = .ok (.string (strB l)) w := by
 obtain ⟨ao, b, off, cap, rfl, hc, hm, hb, hx⟩ := h
 rw [run_convert_bytes_string w src dst e ao l.length cap hs he hd]
 by_cases h0 : 0 < l.length
 ·obtain ⟨rfl, _, _⟩ := hb h0
  have hl : (loadCells ⟨b, off, none⟩ l.length).run P w = .ok ((l.map fun (x : Nat) => (x : Int)).map (Value.int .u8)).toArray w := by
   have := run_loadCells_list (P := P) w ⟨b, off, none⟩ ((l.map fun (x : Nat) => (x : Int)).map (Value.int .u8)) (fun j v hj => by
    rw [List.map_map, List.getElem?_map] at hj
    obtain ⟨x, hx1, rfl⟩ := Option.map_eq_some_iff.1 hj
    obtain ⟨hjl, rfl⟩ := List.getElem?_eq_some_iff.1 hx1
    obtain ⟨cl, ⟨rfl, _⟩, h2⟩ := hx j hjl
    have h3 := h2 0 (by simp)
    have e1 : RB8.n = 1 := rfl
    rw [e1, Nat.mul_one] at h3
    rw [addr_add]; exact h3)
   rw [List.length_map, List.length_map] at this
   exact this
  rw [run_bytesToString w _ _ _ _ hl, bytes_fold]
  simp [strB]
 ·have : l = [] := List.eq_nil_of_length_eq_zero (by omega)
  subst this
  cases ao with
  | none => simp [Conv.bytesToString, strB]; rfl
  | some ad =>
   have hl : (loadCells ad 0).run P w = .ok (([] : List Int).map (Value.int .u8)).toArray w := run_loadCells_list (P := P) w ad [] (fun j v hj => by simp at hj)
   rw [List.length_nil, run_bytesToString w _ _ _ _ hl]
   rfl

end Go.Proofs.Ythmjkcdpbbcdgaa
