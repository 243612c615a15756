/- Arrays whose cells stand for memory of their own: one chunk, opened at a place. No program is named here. -/
import Derived.Test.YtghkhndlpfmpfaaYAI
namespace Go.Proofs.Ytghkhndlpfmpfaa
open Go.RowKit

theorem Star.unapp {I : Dm} {w : World} : ∀ {c1 c2 : List Ch} {fp : Dm}, Star I w (c1 ++ c2) fp → ∃ f g, Star I w c1 f ∧ Star I w c2 g ∧ (∀ k, f k → ¬ g k) ∧ ∀ k, fp k ↔ (f k ∨ g k)
 | [], c2, fp, h => ⟨fun _ => False, fp, fun _ => id, h, fun _ h => h.elim, fun k => by simp⟩
 | c :: c1, c2, fp, ⟨f, g, h1, h2, h3, h4⟩ => by
  obtain ⟨f', g', a, b, d, e⟩ := Star.unapp h2
  refine ⟨fun k => f k ∨ f' k, g', ⟨f, f', h1, a, fun k x y => h3 k x ((e k).2 (.inl y)), fun k => Iff.rfl⟩, b, fun k x y => ?_, fun k => by rw [h4, e, or_assoc]⟩
  rcases x with x | x
  ·exact h3 k x ((e k).2 (.inr y))
  ·exact d k x y

/-- a chunk put in at a place -/
theorem Star.ins {I : Dm} {w : World} {c : Ch} {f : Dm} (hc : c.P I w f) : ∀ {cs : List Ch} {i : Nat} {g : Dm}, i < cs.length → Star I w (cs.eraseIdx i) g → (∀ k, f k → ¬ g k) → Star I w (cs.set i c) (fun k => f k ∨ g k)
 | [], _, _, h, _, _ => by simp at h
 | x :: cs, 0, g, _, h, hd => ⟨f, g, hc, h, hd, fun k => Iff.rfl⟩
 | x :: cs, i + 1, g, hi, ⟨f', g', h1, h2, h3, h4⟩, hd => by
  have hi' : i < cs.length := by simp at hi; omega
  refine ⟨f', fun k => f k ∨ g' k, h1, Star.ins hc hi' h2 fun k a b => hd k a ((h4 k).2 (.inr b)), fun k a b => ?_, fun k => ?_⟩
  ·rcases b with b | b
   ·exact hd k b ((h4 k).2 (.inl a))
   ·exact h3 k a b
  ·show (f k ∨ g k) ↔ (f' k ∨ (f k ∨ g' k))
   rw [h4]; constructor
   ·rintro (h | h | h)
    ·exact .inr (.inl h)
    ·exact .inl h
    ·exact .inr (.inr h)
   ·rintro (h | h | h)
    ·exact .inr (.inl h)
    ·exact .inl h
    ·exact .inr (.inr h)

/-- an array's block, and what its cells stand for -/
def ArC {α : Type} (N : Nat) (K : Value → α → Ch) (t : TypeId) (b : Nat) (xs : List α) : Ch := ExC fun (vs : List Value) => BxC b t vs :: PfC (vs.length = N ∧ xs.length = N) :: List.zipWith K vs xs

/-- what the other cells stand for -/
def ArR {α : Type} (K : Value → α → Ch) (xs : List α) (vs : List Value) (i : Nat) : Ch := ExC fun (_ : Unit) => (List.zipWith K vs xs).eraseIdx i

section
variable {I0 D : Dm} {w0 : World} {I : Dm} {w : World} {cs : List Ch} {α : Type} {N : Nat} {K : Value → α → Ch} {t : TypeId} {b : Nat} {xs : List α} {vs : List Value}

/-- the first chunks as one -/
theorem Hf.group {l1 l2 : List Ch} {c : Ch} (H : Hf I0 D w0 I w (l1 ++ l2)) (hc : ∀ f, Star I w l1 f → c.P I w f) : Hf I0 D w0 I w (c :: l2) := by
 obtain ⟨fp, h1, h2⟩ := H.star
 obtain ⟨f, g, h3, h4, h5, h6⟩ := h1.unapp
 exact ⟨H.frm, H.imm, H.imm2, fp, ⟨f, g, hc f h3, h4, h5, h6⟩, h2⟩

theorem Hf.ungroup {l1 l2 : List Ch} {c : Ch} (H : Hf I0 D w0 I w (c :: l2)) (hc : ∀ f, c.P I w f → Star I w l1 f) : Hf I0 D w0 I w (l1 ++ l2) := by
 obtain ⟨fp, ⟨f, g, h1, h2, h3, h4⟩, h5⟩ := H.star
 exact ⟨H.frm, H.imm, H.imm2, _, (hc f h1).app h2 h3, fun k hk => h5 k ((h4 k).2 hk)⟩

theorem Hf.arFront (H : Hf I0 D w0 I w cs) (j : Nat) {c : Ch} (h : cs[j]? = some c) : Hf I0 D w0 I w (c :: cs.eraseIdx j) := H.as j h fun f hf _ => ⟨f, hf, fun _ x => x⟩

theorem Star.pf {p : Prop} {l : List Ch} {fp : Dm} (hp : p) (h : Star I w l fp) : Star I w (PfC p :: l) fp := ⟨fun _ => False, fp, ⟨fun _ => id, hp⟩, h, fun _ x => x.elim, fun k => by simp⟩

theorem Star.ofPf {p : Prop} {l : List Ch} {fp : Dm} (h : Star I w (PfC p :: l) fp) : p ∧ Star I w l fp := by
 obtain ⟨f, g, ⟨h1, h2⟩, h3, h4, h5⟩ := h
 exact ⟨h2, h3.iff fun k => (h5 k).trans ⟨fun x => x.elim (fun y => (h1 k y).elim) id, .inr⟩⟩

theorem Star.swap {c d : Ch} {l : List Ch} {fp : Dm} (h : Star I w (c :: d :: l) fp) : Star I w (d :: c :: l) fp := by
 obtain ⟨f, g, h1, ⟨f', g', h2, h3, h4, h5⟩, h6, h7⟩ := h
 refine ⟨f', fun k => f k ∨ g' k, h2, ⟨f, g', h1, h3, fun k a b => h6 k a ((h5 k).2 (.inr b)), fun k => Iff.rfl⟩, fun k a b => ?_, fun k => ?_⟩
 ·rcases b with b | b
  ·exact h6 k b ((h5 k).2 (.inl a))
  ·exact h4 k a b
 ·rw [h7, h5]; constructor
  ·rintro (h | h | h)
   ·exact .inr (.inl h)
   ·exact .inl h
   ·exact .inr (.inr h)
  ·rintro (h | h | h)
   ·exact .inr (.inl h)
   ·exact .inl h
   ·exact .inr (.inr h)

theorem Hf.arOpen (H : Hf I0 D w0 I w cs) (j : Nat) (h : cs[j]? = some (ArC N K t b xs)) (i : Nat) (hi : i < N) (d : α) :
  ∃ v vs, vs.length = N ∧ xs.length = N ∧ vs[i]? = some v ∧ Hf I0 D w0 I w (K v (xs.getD i d) :: BxC b t vs :: ArR K xs vs i :: cs.eraseIdx j) := by
 have h0 := H.arFront j h
 obtain ⟨fp, h1, h2⟩ := h0.star
 obtain ⟨f, g, ⟨vs, h3⟩, _, _, _⟩ := h1
 obtain ⟨vs, H⟩ := h0.openX 0 rfl
 change Hf I0 D w0 I w ((BxC b t vs :: PfC (vs.length = N ∧ xs.length = N) :: List.zipWith K vs xs) ++ cs.eraseIdx j) at H
 obtain ⟨l1, l2⟩ := H.pf 1 rfl
 have hz : (List.zipWith K vs xs)[i]? = some (K vs[i] (xs.getD i d)) := by
  rw [List.getElem?_zipWith, List.getElem?_eq_getElem (by omega), List.getElem?_eq_getElem (by omega), List.getD_eq_getElem?_getD, List.getElem?_eq_getElem (by omega)]; rfl
 refine ⟨vs[i], vs, l1, l2, List.getElem?_eq_getElem _, ?_⟩
 have H2 := Hf.group (c := ExC fun (_ : Unit) => BxC b t vs :: PfC (vs.length = N ∧ xs.length = N) :: List.zipWith K vs xs) H fun f hf => ⟨(), hf⟩
 refine Hf.ungroup (l1 := [K vs[i] (xs.getD i d), BxC b t vs, ArR K xs vs i]) H2 fun f ⟨_, hf⟩ => ?_
 obtain ⟨f1, f2, a1, a2, a3, a4⟩ := hf
 obtain ⟨_, a5⟩ := a2.ofPf
 obtain ⟨g1, g2, b1, b2, b3, b4⟩ := a5.take hz
 refine Star.swap ⟨f1, f2, a1, ⟨g1, g2, b1, ⟨g2, fun _ => False, ⟨(), b2⟩, fun _ => id, fun _ _ x => x, fun k => by simp⟩, b3, b4⟩, a3, a4⟩

theorem zip_set {v : Value} {x : α} : ∀ {vs : List Value} {xs : List α} {i : Nat}, List.zipWith K (vs.set i v) (xs.set i x) = (List.zipWith K vs xs).set i (K v x)
 | [], [], _ => rfl
 | [], _ :: _, 0 => rfl
 | [], _ :: _, _ + 1 => rfl
 | _ :: _, [], 0 => rfl
 | _ :: _, [], _ + 1 => rfl
 | _ :: _, _ :: _, 0 => rfl
 | y :: vs, z :: xs, i + 1 => by
  simp only [List.set_cons_succ, List.zipWith_cons_cons]
  rw [zip_set]

/-- shut behind a store -/
theorem Hf.arShut (hl : vs.length = N) (hx : xs.length = N) {i : Nat} (hi : i < N) {v : Value} {x : α} (H : Hf I0 D w0 I w cs) (js : List (Nat × Bool)) {rst : List Ch} (hp : pickN js cs = some ([K v x, BxC b t (vs.set i v), ArR K xs vs i], rst)) : Hf I0 D w0 I w (ArC N K t b (xs.set i x) :: rst) := by
 have H2 := Hf.shutX (f := fun (_ : Unit) => [K v x, BxC b t (vs.set i v), ArR K xs vs i]) () H js hp
 refine Hf.group (l1 := [ExC fun (_ : Unit) => [K v x, BxC b t (vs.set i v), ArR K xs vs i]]) H2 fun f ⟨f0, g0, ⟨_, a⟩, a2, a3, a4⟩ => ?_
 obtain ⟨f1, f2, b1, ⟨g1, g2, b2, ⟨r1, r2, ⟨_, b3⟩, b4, b5, b6⟩, b7, b8⟩, b9, b10⟩ := a
 have hlen : i < (List.zipWith K vs xs).length := by rw [List.length_zipWith]; omega
 have hq : ∀ k, f2 k ↔ (g1 k ∨ r1 k) := fun k => by rw [b8, b6]; exact ⟨fun h => h.imp id fun h => h.elim id fun h => (b4 k h).elim, fun h => h.imp id .inl⟩
 have hs := Star.ins b1 hlen b3 fun k x y => b9 k x ((hq k).2 (.inr y))
 rw [← zip_set] at hs
 refine ⟨vs.set i v, ?_⟩
 refine Star.iff (fp := fun k => g1 k ∨ (f1 k ∨ r1 k)) ⟨g1, _, b2, Star.pf ⟨by rw [List.length_set]; exact hl, by rw [List.length_set]; exact hx⟩ hs, fun k x y => ?_, fun k => Iff.rfl⟩ fun k => ?_
 ·rcases y with y | y
  ·exact b9 k y ((hq k).2 (.inl x))
  ·exact b7 k x ((b6 k).2 (.inl y))
 ·rw [a4, b10, hq]
  constructor
  ·rintro ((h | h | h) | h)
   ·exact .inr (.inl h)
   ·exact .inl h
   ·exact .inr (.inr h)
   ·exact (a2 k h).elim
  ·rintro (h | h | h)
   ·exact .inl (.inr (.inl h))
   ·exact .inl (.inl h)
   ·exact .inl (.inr (.inr h))

theorem set_self {β : Type} {l : List β} {i : Nat} {v : β} (h : l[i]? = some v) : l.set i v = l := by
 obtain ⟨h1, h2⟩ := List.getElem?_eq_some_iff.1 h
 rw [← h2]; exact List.set_getElem_self h1

/-- .. where nothing was stored -/
theorem Hf.arShut0 (hl : vs.length = N) (hx : xs.length = N) {i : Nat} (hi : i < N) {v : Value} (hv : vs[i]? = some v) {x : α} (H : Hf I0 D w0 I w cs) (js : List (Nat × Bool)) {rst : List Ch} (hp : pickN js cs = some ([K v x, BxC b t vs, ArR K xs vs i], rst)) : Hf I0 D w0 I w (ArC N K t b (xs.set i x) :: rst) :=
 Hf.arShut hl hx hi H js (v := v) (by rw [set_self hv]; exact hp)

/-- .. where all is as it was -/
theorem Hf.arShutE (hl : vs.length = N) (hx : xs.length = N) {i : Nat} (hi : i < N) {v : Value} (hv : vs[i]? = some v) {d : α} (H : Hf I0 D w0 I w cs) (js : List (Nat × Bool)) {rst : List Ch} (hp : pickN js cs = some ([K v (xs.getD i d), BxC b t vs, ArR K xs vs i], rst)) : Hf I0 D w0 I w (ArC N K t b xs :: rst) := by
 have e : xs.set i (xs.getD i d) = xs := set_self (by rw [List.getD_eq_getElem?_getD, List.getElem?_eq_getElem (by omega)]; rfl)
 have := Hf.arShut0 hl hx hi hv H js hp
 rwa [e] at this

theorem zip_rep {z : Value} {d : α} : ∀ N, List.zipWith K (List.replicate N z) (List.replicate N d) = List.replicate N (K z d)
 | 0 => rfl
 | N + 1 => by rw [List.replicate_succ, List.replicate_succ, List.replicate_succ, List.zipWith_cons_cons, zip_rep N]

/-- new, all cells alike -/
theorem Hf.arNew (H : Hf I0 D w0 I w cs) (j : Nat) (z : Value) (d : α) {cl : List Value} (h : cs[j]? = some (BxC b t cl)) (hc : cl = List.replicate N z) (hK : ∀ {cs : List Ch}, Hf I0 D w0 I w cs → Hf I0 D w0 I w (K z d :: cs)) : Hf I0 D w0 I w (ArC N K t b (List.replicate N d) :: cs.eraseIdx j) := by
 subst hc
 have H0 := H.arFront j h
 have H1 : ∀ n, Hf I0 D w0 I w (List.replicate n (K z d) ++ (BxC b t (List.replicate N z) :: cs.eraseIdx j)) := fun n => by
  induction n with
  | zero => exact H0
  | succ n ih => exact hK ih
 have H2 := H1 N
 rw [show List.replicate N (K z d) ++ (BxC b t (List.replicate N z) :: cs.eraseIdx j) = (List.replicate N (K z d) ++ [BxC b t (List.replicate N z)]) ++ cs.eraseIdx j by simp] at H2
 refine H2.group fun f hf => ⟨List.replicate N z, ?_⟩
 obtain ⟨f1, g1, a1, a2, a3, a4⟩ := hf.unapp
 obtain ⟨f2, g2, b1, b2, b3, b4⟩ := a2
 have hg : ∀ k, g1 k ↔ f2 k := fun k => (b4 k).trans ⟨fun x => x.elim id fun y => (b2 k y).elim, .inl⟩
 show Star I w (BxC b t (List.replicate N z) :: PfC _ :: List.zipWith K (List.replicate N z) (List.replicate N d)) f
 rw [zip_rep]
 exact ⟨f2, f1, b1, Star.pf ⟨List.length_replicate, List.length_replicate⟩ a1, fun k x y => a3 k y ((hg k).2 x), fun k => by rw [a4, hg, or_comm]⟩

end
theorem putCells_one (cl : List Value) (off : Nat) (u : Value) : putCells cl off [u] = cl.set off u := rfl

end Go.Proofs.Ytghkhndlpfmpfaa
