/- A hub, plain: all that goes out comes in. -/
import Derived.Test.YtghkhndlpfmpfaaYHp3
namespace Go.Proofs.Ytghkhndlpfmpfaa

/-- all hubs -/
def hs (f : Nat → Nat → Elink_Link) : List (Option Ehub_Hub) := (List.range 4).map fun i => some (hb (f i) i)

/-- a table of four by four -/
def gs {α : Type} (g : Nat → Nat → α) : List α := (List.range 16).map fun x => g (x / 4) (x % 4)

def rw4 {α : Type} (e : Nat → α) : List α := (List.range 4).map e

def up2 {α : Type} (f : Nat → Nat → α) (a b : Nat) (x : α) : Nat → Nat → α := updE f a (updE (f a) b x)

theorem up2_at {α : Type} (f : Nat → Nat → α) (a b : Nat) (x : α) (c d : Nat) : up2 f a b x c d = if c = a ∧ d = b then x else f c d := by
 unfold up2 updE
 by_cases h1 : c = a
 ·subst h1
  rw [if_pos rfl]
  by_cases h2 : d = b
  ·rw [if_pos h2, if_pos ⟨rfl, h2⟩]
  ·rw [if_neg h2, if_neg (fun h => h2 h.2)]
 ·rw [if_neg h1, if_neg (fun h => h1 h.1)]

theorem hs_get {f : Nat → Nat → Elink_Link} {i : Nat} (hi : i < 4) : (hs f).getD (0 + i * 1) none = some (hb (f i) i) := by
 rcases lt4 hi with rfl | rfl | rfl | rfl <;> rfl

theorem hs_set {f : Nat → Nat → Elink_Link} {i : Nat} (hi : i < 4) (g : Nat → Elink_Link) : (hs f).set (0 + i * 1) (some (hb g i)) = hs (updE f i g) := by
 rcases lt4 hi with rfl | rfl | rfl | rfl <;> rfl

theorem hs_same {f : Nat → Nat → Elink_Link} {i : Nat} (hi : i < 4) : (hs f).set (0 + i * 1) (some (hb (f i) i)) = hs f := by
 rcases lt4 hi with rfl | rfl | rfl | rfl <;> rfl

theorem hs_ext {f g : Nat → Nat → Elink_Link} (h : ∀ a b, a < 4 → b < 4 → b ≠ a → f a b = g a b) : hs f = hs g := by
 have h2 : ∀ i, i < 4 → hb (f i) i = hb (g i) i := fun i hi => by
  unfold hb
  congr 1
  refine List.map_congr_left fun j hj => ?_
  by_cases c : j = i
  ·rw [if_pos c, if_pos c]
  ·rw [if_neg c, if_neg c, h i j hi (List.mem_range.1 hj) c]
 unfold hs
 exact List.map_congr_left fun i hi => by rw [h2 i (List.mem_range.1 hi)]

theorem gs_get {α : Type} {g : Nat → Nat → α} {a b : Nat} (ha : a < 4) (hb : b < 4) (d : α) : (gs g).getD (0 + a * 4 + b * 1) d = g a b := by
 rcases lt4 ha with rfl | rfl | rfl | rfl <;> rcases lt4 hb with rfl | rfl | rfl | rfl <;> rfl

theorem gs_set {α : Type} {g : Nat → Nat → α} {a b : Nat} (ha : a < 4) (hb : b < 4) (x : α) : (gs g).set (0 + a * 4 + b * 1) x = gs (up2 g a b x) := by
 rcases lt4 ha with rfl | rfl | rfl | rfl <;> rcases lt4 hb with rfl | rfl | rfl | rfl <;> rfl

theorem gs_ext {α : Type} {f g : Nat → Nat → α} (h : ∀ a b, a < 4 → b < 4 → f a b = g a b) : gs f = gs g := by
 unfold gs
 exact List.map_congr_left fun x hx => h _ _ (by have := List.mem_range.1 hx; omega) (by omega)

theorem rw_get {α : Type} {e : Nat → α} {i : Nat} (hi : i < 4) (d : α) : (rw4 e).getD (0 + i * 1) d = e i := by
 rcases lt4 hi with rfl | rfl | rfl | rfl <;> rfl

theorem rw_set {α : Type} {e : Nat → α} {i : Nat} (hi : i < 4) (x : α) : (rw4 e).set (0 + i * 1) x = rw4 (updE e i x) := by
 rcases lt4 hi with rfl | rfl | rfl | rfl <;> rfl

-- entries, and how they are told
def pr (j : Nat) (ss : List ESeg) : List (Nat × ESeg) := ss.map fun s => (j, s)

def entsP (f : Nat → Elink_Link) (i : Nat) : List (Nat × ESeg) := if i = 0 then [] ++ pr 1 (outsL (f 1) true) ++ pr 2 (outsL (f 2) true) ++ pr 3 (outsL (f 3) true) else if i = 1 then [] ++ pr 0 (outsL (f 0) true) ++ pr 2 (outsL (f 2) true) ++ pr 3 (outsL (f 3) true) else if i = 2 then [] ++ pr 0 (outsL (f 0) true) ++ pr 1 (outsL (f 1) true) ++ pr 3 (outsL (f 3) true) else [] ++ pr 0 (outsL (f 0) true) ++ pr 1 (outsL (f 1) true) ++ pr 2 (outsL (f 2) true)

def tel (p : Nat × ESeg) : EOut := { to_ := (p.1 : Int), body := pt p.2 }

theorem mo_pr (j : Nat) (ss : List ESeg) : (pr j ss).map tel = mo (j : Int) ss := by
 unfold pr mo
 rw [List.map_map]; rfl

theorem tel3 (j k l : Nat) (A B C : List ESeg) : ([] ++ pr j A ++ pr k B ++ pr l C).map tel = [] ++ mo (j : Int) A ++ mo (k : Int) B ++ mo (l : Int) C := by
 rw [List.map_append, List.map_append, List.map_append, mo_pr, mo_pr, mo_pr]; rfl

theorem ents_tel (f : Nat → Elink_Link) {i : Nat} (hi : i < 4) : (entsP f i).map tel = ents f i := by
 rcases lt4 hi with rfl | rfl | rfl | rfl
 ·exact tel3 1 2 3 _ _ _
 ·exact tel3 0 2 3 _ _ _
 ·exact tel3 0 1 3 _ _ _
 ·exact tel3 0 1 2 _ _ _

def sel (a : Nat) (l : List (Nat × ESeg)) : List ESeg := (l.filter fun p => p.1 == a).map (·.2)

theorem sel_app (a : Nat) (l m : List (Nat × ESeg)) : sel a (l ++ m) = sel a l ++ sel a m := by unfold sel; rw [List.filter_append, List.map_append]

theorem sel_pr (a j : Nat) (ss : List ESeg) : sel a (pr j ss) = if j = a then ss else [] := by
 unfold sel pr
 rw [List.filter_map, List.map_map]
 by_cases h : j = a
 ·subst h
  rw [if_pos rfl, List.filter_eq_self.2 (fun s _ => by simp)]
  exact List.map_id _
 ·rw [if_neg h, List.filter_eq_nil_iff.2 (fun s _ => by simp; exact h)]; rfl

theorem sel_ents (f : Nat → Elink_Link) {i a : Nat} (hi : i < 4) (ha : a < 4) (h : a ≠ i) : sel a (entsP f i) = outsL (f a) true := by
 rcases lt4 hi with rfl | rfl | rfl | rfl <;> rcases lt4 ha with rfl | rfl | rfl | rfl <;> first | exact absurd rfl h | (unfold entsP; simp [sel_app, sel_pr]; try rfl)

theorem pr_mem {j : Nat} {ss : List ESeg} {p : Nat × ESeg} (h : p ∈ pr j ss) : p.1 = j ∧ p.2 ∈ ss := by
 unfold pr at h
 obtain ⟨s, hs, rfl⟩ := List.mem_map.1 h
 exact ⟨rfl, hs⟩

theorem ents_mem {f : Nat → Elink_Link} {i : Nat} (hi : i < 4) {p : Nat × ESeg} (h : p ∈ entsP f i) : p.1 < 4 ∧ p.1 ≠ i ∧ p.2 ∈ outsL (f p.1) true := by
 have key : ∀ {j k l : Nat}, p ∈ [] ++ pr j (outsL (f j) true) ++ pr k (outsL (f k) true) ++ pr l (outsL (f l) true) → (p.1 = j ∨ p.1 = k ∨ p.1 = l) ∧ p.2 ∈ outsL (f p.1) true := fun {j k l} h => by
  simp only [List.nil_append, List.mem_append] at h
  rcases h with (h | h) | h
  ·obtain ⟨a, b⟩ := pr_mem h; exact ⟨.inl a, by rw [a]; exact b⟩
  ·obtain ⟨a, b⟩ := pr_mem h; exact ⟨.inr (.inl a), by rw [a]; exact b⟩
  ·obtain ⟨a, b⟩ := pr_mem h; exact ⟨.inr (.inr a), by rw [a]; exact b⟩
 rcases lt4 hi with rfl | rfl | rfl | rfl
 ·obtain ⟨a, b⟩ := key (j := 1) (k := 2) (l := 3) h; exact ⟨by omega, by omega, b⟩
 ·obtain ⟨a, b⟩ := key (j := 0) (k := 2) (l := 3) h; exact ⟨by omega, by omega, b⟩
 ·obtain ⟨a, b⟩ := key (j := 0) (k := 1) (l := 3) h; exact ⟨by omega, by omega, b⟩
 ·obtain ⟨a, b⟩ := key (j := 0) (k := 1) (l := 2) h; exact ⟨by omega, by omega, b⟩

theorem ents_len {f : Nat → Elink_Link} {i : Nat} (hi : i < 4) (h : ∀ j, j < 4 → j ≠ i → lkOk (f j)) : (entsP f i).length ≤ 12 := by
 have hl : ∀ j, j < 4 → j ≠ i → (pr j (outsL (f j) true)).length ≤ 4 := fun j h1 h2 => by unfold pr; rw [List.length_map]; exact outs_len (h j h1 h2) true
 rcases lt4 hi with rfl | rfl | rfl | rfl
 ·have := hl 1 (by omega) (by omega); have := hl 2 (by omega) (by omega); have := hl 3 (by omega) (by omega)
  show ([] ++ pr 1 _ ++ pr 2 _ ++ pr 3 _).length ≤ 12
  simp only [List.length_append, List.length_nil]; omega
 ·have := hl 0 (by omega) (by omega); have := hl 2 (by omega) (by omega); have := hl 3 (by omega) (by omega)
  show ([] ++ pr 0 _ ++ pr 2 _ ++ pr 3 _).length ≤ 12
  simp only [List.length_append, List.length_nil]; omega
 ·have := hl 0 (by omega) (by omega); have := hl 1 (by omega) (by omega); have := hl 3 (by omega) (by omega)
  show ([] ++ pr 0 _ ++ pr 1 _ ++ pr 3 _).length ≤ 12
  simp only [List.length_append, List.length_nil]; omega
 ·have := hl 0 (by omega) (by omega); have := hl 1 (by omega) (by omega); have := hl 2 (by omega) (by omega)
  show ([] ++ pr 0 _ ++ pr 1 _ ++ pr 2 _).length ≤ 12
  simp only [List.length_append, List.length_nil]; omega

-- what comes in, one by one
abbrev FG := (Nat → Nat → Elink_Link) × (Nat → Nat → List ByteArray)

def dl (i : Nat) (x : FG) (p : Nat × ESeg) : FG := (up2 x.1 p.1 i (inL (x.1 p.1 i) p.2).2.2, up2 x.2 i p.1 (x.2 i p.1 ++ (inL (x.1 p.1 i) p.2).1))

def dls (i : Nat) (x : FG) : List (Nat × ESeg) → FG
 | [] => x
 | p :: r => dls i (dl i x p) r

theorem dls_snoc (i : Nat) : ∀ (l : List (Nat × ESeg)) (x : FG) (p : Nat × ESeg), dls i x (l ++ [p]) = dl i (dls i x l) p
 | [], _, _ => rfl
 | q :: l, x, p => dls_snoc i l (dl i x q) p

theorem dls_at (i : Nat) : ∀ (l : List (Nat × ESeg)) (x : FG), (∀ a b, (dls i x l).1 a b = if b = i then inF (x.1 a b) (sel a l) else x.1 a b) ∧ ∀ a b, (dls i x l).2 a b = if a = i then x.2 a b ++ inT (x.1 b i) (sel b l) else x.2 a b
 | [], x => ⟨fun a b => by by_cases h : b = i <;> simp [dls, sel, inF, h], fun a b => by by_cases h : a = i <;> simp [dls, sel, inT, h]⟩
 | p :: r, x => by
  obtain ⟨h1, h2⟩ := dls_at i r (dl i x p)
  have hs : ∀ a, sel a (p :: r) = if p.1 = a then p.2 :: sel a r else sel a r := fun a => by
   unfold sel
   by_cases h : p.1 = a
   ·rw [if_pos h, List.filter_cons_of_pos (by simp [h])]; rfl
   ·rw [if_neg h, List.filter_cons_of_neg (by simp [h])]
  refine ⟨fun a b => ?_, fun a b => ?_⟩
  ·show (dls i (dl i x p) r).1 a b = _
   rw [h1 a b, hs a]
   show (if b = i then inF (up2 x.1 p.1 i _ a b) _ else up2 x.1 p.1 i _ a b) = _
   rw [up2_at]
   by_cases hb : b = i
   ·subst hb
    by_cases ha : p.1 = a
    ·subst ha
     rw [if_pos rfl, if_pos ⟨rfl, rfl⟩, if_pos rfl, if_pos rfl]; rfl
    ·rw [if_pos rfl, if_neg (fun h => ha h.1.symm), if_pos rfl, if_neg ha]
   ·rw [if_neg hb, if_neg hb, if_neg (fun h => hb h.2)]
  ·show (dls i (dl i x p) r).2 a b = _
   rw [h2 a b, hs b]
   show (if a = i then up2 x.2 i p.1 _ a b ++ inT (up2 x.1 p.1 i _ b i) _ else up2 x.2 i p.1 _ a b) = _
   rw [up2_at, up2_at]
   by_cases ha : a = i
   ·subst ha
    by_cases hb : p.1 = b
    ·subst hb
     rw [if_pos rfl, if_pos ⟨rfl, rfl⟩, if_pos ⟨rfl, rfl⟩, if_pos rfl, if_pos rfl, List.append_assoc]; rfl
    ·rw [if_pos rfl, if_neg (fun h => hb h.2.symm), if_neg (fun h => hb h.1.symm), if_pos rfl, if_neg hb]
   ·rw [if_neg ha, if_neg ha, if_neg (fun h => ha h.1)]

theorem inT_len : ∀ (ss : List ESeg) (l : Elink_Link), (inT l ss).length ≤ ss.length
 | [], _ => Nat.le_refl _
 | s :: r, l => by
  have h1 := in_len l s
  have h2 := inT_len r (inL l s).2.2
  unfold inT; rw [List.length_append, List.length_cons]; omega

end Go.Proofs.Ytghkhndlpfmpfaa
