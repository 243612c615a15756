/- Trees of versions: they stay level; what stands in them; going through. -/
import Derived.Test.YtglfajjcgbfehaaYMTreeG
import Derived.Test.YtglfajjcgbfehaaYMv
import Derived.Test.YtglfajjcgbfehaaYMv2
import Derived.Test.YtglfajjcgbfehaaYK
import Derived.Test.YtglfajjcgbfehaaYO
namespace Go.Proofs.Ytglfajjcgbfehaa

abbrev Rw := Eref16_Row

def rowsT : TM → List Rw
  | .nil => []
  | .node k x _ l r => rowsT l ++ ⟨k, x⟩ :: rowsT r

theorem dN : deepT (TT.nil : TM) = 0 := rfl

theorem dC (k : ByteArray) (x : List ECell) (d : Int) (l r : TM) : deepT (TT.node k x d l r) = d := rfl

/-- level: a node's depth is told, its sides differ by one at most -/
def avl : TM → Prop
  | .nil => True
  | .node _ _ d l r => avl l ∧ avl r ∧ d = 1 + max (deepT l) (deepT r) ∧ deepT l ≤ deepT r + 1 ∧ deepT r ≤ deepT l + 1

theorem deep_ok : ∀ {t : TM}, avl t → 0 ≤ deepT t ∧ deepT t ≤ sizeT t ∧ (deepT t = 0 → t = .nil)
  | .nil, _ => ⟨Int.le_refl _, Int.le_refl _, fun _ => rfl⟩
  | .node k x d l r, ⟨hl, hr, hd, h1, h2⟩ => by
    have a := deep_ok hl; have b := deep_ok hr
    simp only [dN, dC, sizeT]
    refine ⟨by omega, by omega, fun h => by omega⟩

theorem rows_len : ∀ t : TM, (rowsT t).length = sizeT t
  | .nil => rfl
  | .node k x d l r => by simp only [rowsT, sizeT, List.length_append, List.length_cons, rows_len l, rows_len r]; omega

def big : Nat := 1000000

theorem tell_eq {k : ByteArray} {x : List ECell} {d : Int} {l r : TM} (hl : avl l) (hr : avl r) (hs : sizeT l + sizeT r ≤ big) : F_tree_node_api_Cell_tell (.node k x d l r) = some (.node k x (1 + max (deepT l) (deepT r)) l r) := by
  have a := deep_ok hl; have b := deep_ok hr
  unfold F_tree_node_api_Cell_tell big at *
  simp only [ttE, F_deep, Option.bind_some]
  rw [chk_t (by unfold inI; omega)]

/-- the depth of a node that is brought to balance -/
theorem level_ok {k : ByteArray} {x : List ECell} {d : Int} {l r : TM} (hl : avl l) (hr : avl r) (hs : sizeT l + sizeT r ≤ big) (h1 : deepT l ≤ deepT r + 2) (h2 : deepT r ≤ deepT l + 2) :
    ∃ t, F_tree_node_api_Cell_level (.node k x d l r) = some t ∧ avl t ∧ rowsT t = rowsT l ++ ⟨k, x⟩ :: rowsT r ∧ max (deepT l) (deepT r) ≤ deepT t ∧ deepT t ≤ 1 + max (deepT l) (deepT r) ∧ (deepT l ≤ deepT r + 1 → deepT r ≤ deepT l + 1 → deepT t = 1 + max (deepT l) (deepT r)) := by
  have a := deep_ok hl; have b := deep_ok hr
  unfold F_tree_node_api_Cell_level
  rw [tell_eq hl hr hs, Option.bind_some]
  simp only [ttE, F_deep, Option.bind_some]
  rw [chk_t (by unfold inI big at *; omega)]
  by_cases c1 : deepT l - deepT r > 1
  · rw [if_pos (decide_eq_true c1)]
    cases l with
    | nil => simp only [dN, dC] at c1 a b; omega
    | node k2 x2 d2 l2 r2 =>
      obtain ⟨hl2, hr2, hd2, h3, h4⟩ := hl
      have a2 := deep_ok hl2; have b2 := deep_ok hr2
      simp only [ttE, F_deep, Option.bind_some, sizeT, dN, dC] at *
      by_cases c2 : deepT l2 < deepT r2
      · rw [if_pos (decide_eq_true c2)]
        cases r2 with
        | nil => simp only [dN, dC] at c2 b2; omega
        | node k3 x3 d3 l3 r3 =>
          obtain ⟨hl3, hr3, hd3, h5, h6⟩ := hr2
          have a3 := deep_ok hl3; have b3 := deep_ok hr3
          simp only [sizeT, dN, dC] at *
          unfold F_tree_node_api_Cell_left
          simp only [ttE]
          rw [tell_eq hl2 hl3 (by omega), Option.bind_some, tell_eq (l := .node _ _ _ _ _) ⟨hl2, hl3, rfl, by omega, by omega⟩ hr3 (by simp only [sizeT]; omega), Option.bind_some, Option.bind_some]
          unfold F_tree_node_api_Cell_level_k1 F_tree_node_api_Cell_right
          simp only [ttE]
          rw [tell_eq hr3 hr (by omega), Option.bind_some, tell_eq (l := .node _ _ _ _ _) (r := .node _ _ _ _ _) ⟨hl2, hl3, rfl, by omega, by omega⟩ ⟨hr3, hr, rfl, by omega, by omega⟩ (by simp only [sizeT]; omega)]
          refine ⟨_, rfl, ⟨⟨hl2, hl3, rfl, by omega, by omega⟩, ⟨hr3, hr, rfl, by omega, by omega⟩, rfl, by simp only [dN, dC]; omega, by simp only [dN, dC]; omega⟩, by simp only [rowsT, List.append_assoc, List.cons_append], by simp only [dN, dC]; omega, by simp only [dN, dC]; omega, fun _ _ => by omega⟩
      · rw [if_neg (by rw [decide_eq_false c2]; decide)]
        unfold F_tree_node_api_Cell_level_k1 F_tree_node_api_Cell_right
        simp only [ttE]
        rw [tell_eq hr2 hr (by omega), Option.bind_some, tell_eq (r := .node _ _ _ _ _) hl2 ⟨hr2, hr, rfl, by omega, by omega⟩ (by simp only [sizeT]; omega)]
        refine ⟨_, rfl, ⟨hl2, ⟨hr2, hr, rfl, by omega, by omega⟩, rfl, by simp only [dN, dC]; omega, by simp only [dN, dC]; omega⟩, by simp only [rowsT, List.append_assoc, List.cons_append], by simp only [dN, dC]; omega, by simp only [dN, dC]; omega, fun _ _ => by omega⟩
  rw [if_neg (by rw [decide_eq_false c1]; decide)]
  by_cases c3 : deepT l - deepT r < -1
  · rw [if_pos (decide_eq_true c3)]
    cases r with
    | nil => simp only [dN, dC] at c3 a b; omega
    | node k2 x2 d2 l2 r2 =>
      obtain ⟨hl2, hr2, hd2, h3, h4⟩ := hr
      have a2 := deep_ok hl2; have b2 := deep_ok hr2
      simp only [ttE, F_deep, Option.bind_some, sizeT, dN, dC] at *
      by_cases c2 : deepT r2 < deepT l2
      · rw [if_pos (decide_eq_true c2)]
        cases l2 with
        | nil => simp only [dN, dC] at c2 a2; omega
        | node k3 x3 d3 l3 r3 =>
          obtain ⟨hl3, hr3, hd3, h5, h6⟩ := hl2
          have a3 := deep_ok hl3; have b3 := deep_ok hr3
          simp only [sizeT, dN, dC] at *
          unfold F_tree_node_api_Cell_right
          simp only [ttE]
          rw [tell_eq hr3 hr2 (by omega), Option.bind_some, tell_eq (r := .node _ _ _ _ _) hl3 ⟨hr3, hr2, rfl, by omega, by omega⟩ (by simp only [sizeT]; omega), Option.bind_some, Option.bind_some]
          unfold F_tree_node_api_Cell_level_k2 F_tree_node_api_Cell_left
          simp only [ttE]
          rw [tell_eq hl hl3 (by omega), Option.bind_some, tell_eq (l := .node _ _ _ _ _) (r := .node _ _ _ _ _) ⟨hl, hl3, rfl, by omega, by omega⟩ ⟨hr3, hr2, rfl, by omega, by omega⟩ (by simp only [sizeT]; omega)]
          refine ⟨_, rfl, ⟨⟨hl, hl3, rfl, by omega, by omega⟩, ⟨hr3, hr2, rfl, by omega, by omega⟩, rfl, by simp only [dN, dC]; omega, by simp only [dN, dC]; omega⟩, by simp only [rowsT, List.append_assoc, List.cons_append], by simp only [dN, dC]; omega, by simp only [dN, dC]; omega, fun _ _ => by omega⟩
      · rw [if_neg (by rw [decide_eq_false c2]; decide)]
        unfold F_tree_node_api_Cell_level_k2 F_tree_node_api_Cell_left
        simp only [ttE]
        rw [tell_eq hl hl2 (by omega), Option.bind_some, tell_eq (l := .node _ _ _ _ _) ⟨hl, hl2, rfl, by omega, by omega⟩ hr2 (by simp only [sizeT]; omega)]
        refine ⟨_, rfl, ⟨⟨hl, hl2, rfl, by omega, by omega⟩, hr2, rfl, by simp only [dN, dC]; omega, by simp only [dN, dC]; omega⟩, by simp only [rowsT, List.append_assoc, List.cons_append], by simp only [dN, dC]; omega, by simp only [dN, dC]; omega, fun _ _ => by omega⟩
  rw [if_neg (by rw [decide_eq_false c3]; decide)]
  exact ⟨_, rfl, ⟨hl, hr, rfl, by omega, by omega⟩, rfl, by simp only [dN, dC]; omega, by simp only [dN, dC]; omega, fun _ _ => by simp only [dN, dC]⟩

def Srt (l : List Rw) : Prop := l.Pairwise fun a b => sltB a.k b.k = true

theorem srt_app {A B : List Rw} {m : Rw} : Srt (A ++ m :: B) ↔ Srt A ∧ Srt B ∧ (∀ a ∈ A, sltB a.k m.k = true) ∧ (∀ b ∈ B, sltB m.k b.k = true) := by
  unfold Srt
  rw [List.pairwise_append, List.pairwise_cons]
  constructor
  · rintro ⟨h1, ⟨h2, h3⟩, h4⟩
    exact ⟨h1, h3, fun a ha => h4 a ha m (by simp), h2⟩
  · rintro ⟨h1, h2, h3, h4⟩
    refine ⟨h1, ⟨h4, h2⟩, fun a ha b hb => ?_⟩
    rcases List.mem_cons.1 hb with rfl | hb
    · exact h3 a ha
    · exact slt_trans (h3 a ha) (h4 b hb)

def hasR (k : ByteArray) : List Rw → Bool
  | [] => false
  | r :: l => if sltB r.k k = true then hasR k l else seqB r.k k

def insR (k : ByteArray) (v : List ECell) : List Rw → List Rw
  | [] => [⟨k, v⟩]
  | r :: l => if sltB r.k k = true then r :: insR k v l else if seqB r.k k = true then ⟨r.k, v⟩ :: l else ⟨k, v⟩ :: r :: l

def getR (k : ByteArray) : List Rw → List ECell × Bool
  | [] => ([], false)
  | r :: l => if sltB r.k k = true then getR k l else if seqB r.k k = true then (r.l, true) else ([], false)

-- a row in the middle: k is below it
section
variable {k : ByteArray} {v : List ECell} {m : Rw} {B : List Rw}
theorem has_l (h : sltB k m.k = true) : ∀ A : List Rw, hasR k (A ++ m :: B) = hasR k A
  | [] => by simp only [List.nil_append, hasR]; rw [if_neg (by rw [slt_asym h]; decide), slt_ne' h]
  | a :: A => by simp only [List.cons_append, hasR, has_l h A]

theorem ins_l (h : sltB k m.k = true) : ∀ A : List Rw, insR k v (A ++ m :: B) = insR k v A ++ m :: B
  | [] => by simp only [List.nil_append, insR]; rw [if_neg (by rw [slt_asym h]; decide), if_neg (by rw [slt_ne' h]; decide)]; rfl
  | a :: A => by simp only [List.cons_append, insR, ins_l h A]; split; · rfl
                 split <;> rfl

theorem get_l (h : sltB k m.k = true) : ∀ A : List Rw, getR k (A ++ m :: B) = getR k A
  | [] => by simp only [List.nil_append, getR]; rw [if_neg (by rw [slt_asym h]; decide), if_neg (by rw [slt_ne' h]; decide)]
  | a :: A => by simp only [List.cons_append, getR, get_l h A]

-- all these are below k
theorem has_r : ∀ {A : List Rw}, (∀ a ∈ A, sltB a.k k = true) → hasR k (A ++ B) = hasR k B
  | [], _ => rfl
  | a :: A, h => by simp only [List.cons_append, hasR]; rw [if_pos (h a (by simp)), has_r fun b hb => h b (by simp [hb])]

theorem ins_r : ∀ {A : List Rw}, (∀ a ∈ A, sltB a.k k = true) → insR k v (A ++ B) = A ++ insR k v B
  | [], _ => rfl
  | a :: A, h => by simp only [List.cons_append, insR]; rw [if_pos (h a (by simp)), ins_r fun b hb => h b (by simp [hb])]

theorem get_r : ∀ {A : List Rw}, (∀ a ∈ A, sltB a.k k = true) → getR k (A ++ B) = getR k B
  | [], _ => rfl
  | a :: A, h => by simp only [List.cons_append, getR]; rw [if_pos (h a (by simp)), get_r fun b hb => h b (by simp [hb])]

theorem ins_len : ∀ l : List Rw, (insR k v l).length = if hasR k l = true then l.length else l.length + 1
  | [] => rfl
  | r :: l => by
    by_cases h : sltB r.k k = true
    · rw [show hasR k (r :: l) = hasR k l from if_pos h, show insR k v (r :: l) = r :: insR k v l from if_pos h, List.length_cons, ins_len l]; split <;> rfl
    · rw [show hasR k (r :: l) = seqB r.k k from if_neg h, show insR k v (r :: l) = _ from if_neg h]; split <;> rfl

theorem has_len : ∀ {l : List Rw}, hasR k l = true → 1 ≤ l.length
  | [], h => by cases h
  | r :: l, _ => by simp only [List.length_cons]; omega

theorem ins_mem {x : Rw} : ∀ {l : List Rw}, x ∈ insR k v l → x.k = k ∨ ∃ y ∈ l, y.k = x.k
  | [], h => by simp only [insR, List.mem_singleton] at h; exact .inl (by rw [h])
  | r :: l, h => by
    simp only [insR] at h
    split at h
    · rcases List.mem_cons.1 h with rfl | h
      · exact .inr ⟨x, by simp, rfl⟩
      · rcases ins_mem h with h | ⟨y, h1, h2⟩
        · exact .inl h
        · exact .inr ⟨y, by simp [h1], h2⟩
    · split at h
      · rcases List.mem_cons.1 h with rfl | h
        · exact .inr ⟨r, by simp, rfl⟩
        · exact .inr ⟨x, by simp [h], rfl⟩
      · rcases List.mem_cons.1 h with rfl | h
        · exact .inl rfl
        · exact .inr ⟨x, h, rfl⟩

theorem ins_srt : ∀ {l : List Rw}, Srt l → Srt (insR k v l)
  | [], _ => by simp [insR, Srt]
  | r :: l, h => by
    obtain ⟨h1, h2⟩ := List.pairwise_cons.1 h
    simp only [insR]
    split
    · rename_i h3
      refine List.pairwise_cons.2 ⟨fun x hx => ?_, ins_srt h2⟩
      rcases ins_mem hx with e | ⟨y, hy, e⟩
      · rw [e]; exact h3
      · rw [← e]; exact h1 y hy
    · rename_i h3
      split
      · exact List.pairwise_cons.2 ⟨h1, h2⟩
      · rename_i h4
        have h5 := slt_tri (by simpa using h3) (by simpa using h4)
        refine List.pairwise_cons.2 ⟨fun x hx => ?_, h⟩
        rcases List.mem_cons.1 hx with rfl | hx
        · exact h5
        · exact slt_trans h5 (h1 x hx)

end
theorem put_ok (k : ByteArray) (v : List ECell) : ∀ (t : TM) (n : Nat), sizeT t < n → sizeT t < big → avl t → Srt (rowsT t) → ∃ t', F_tree_put_api_CellR n t k v = some (t', hasR k (rowsT t)) ∧ avl t' ∧ rowsT t' = insR k v (rowsT t) ∧ deepT t ≤ deepT t' ∧ deepT t' ≤ deepT t + 1
  | .nil, n + 1, _, _, _, _ => ⟨.node k v 1 .nil .nil, rfl, ⟨trivial, trivial, rfl, by decide, by decide⟩, rfl, by simp only [dN, dC]; omega, by simp only [dN, dC]; omega⟩
  | .node j x d l r, n + 1, hn, hb, ⟨hl, hr, hd, h1, h2⟩, hs => by
    obtain ⟨s1, s2, s3, s4⟩ := srt_app.1 hs
    simp only [sizeT] at hn hb
    have a := deep_ok hl; have b := deep_ok hr
    show ∃ t', F_tree_put_api_Cell_b (F_tree_put_api_CellR n) (.node j x d l r) k v = _ ∧ _
    unfold F_tree_put_api_Cell_b
    rw [if_neg (by rintro ⟨⟩)]
    simp only [ttE, dC]
    by_cases c1 : sltB k j = true
    · rw [if_pos c1]
      obtain ⟨t, e1, e2, e3, e4, e5⟩ := put_ok k v l n (by omega) (by omega) hl s1
      have hz : sizeT t ≤ sizeT l + 1 := by rw [← rows_len, e3, ins_len, rows_len]; split <;> omega
      obtain ⟨u, f1, f2, f3, f4, f5, f6⟩ := level_ok (k := j) (x := x) (d := d) e2 hr (by omega) (by omega) (by omega)
      rw [e1, Option.bind_some]
      unfold F_tree_put_api_Cell_k1
      rw [f1, Option.bind_some]
      refine ⟨u, by rw [rowsT, has_l (m := ⟨j, x⟩) c1], f2, by rw [f3, rowsT, ins_l (m := ⟨j, x⟩) c1, e3], ?_, ?_⟩
      · by_cases g : deepT t ≤ deepT r + 1 ∧ deepT r ≤ deepT t + 1
        · rw [f6 g.1 g.2]; omega
        · omega
      · by_cases g : deepT t ≤ deepT r + 1 ∧ deepT r ≤ deepT t + 1
        · rw [f6 g.1 g.2]; omega
        · omega
    rw [if_neg c1]
    have c1' : sltB k j = false := by simpa using c1
    by_cases c2 : seqB k j = true
    · rw [if_neg (by rw [c1', c2]; decide)]
      obtain rfl := seqB_iff.1 c2
      refine ⟨_, by rw [rowsT, has_r (B := ⟨k, x⟩ :: rowsT r) s3, hasR, if_neg (by rw [slt_irr]; decide), c2], (show avl (.node k v d l r) from ⟨hl, hr, hd, h1, h2⟩), by rw [rowsT, rowsT, ins_r s3, insR, if_neg (by rw [slt_irr]; decide), if_pos c2], by simp only [dC]; omega, by simp only [dC]; omega⟩
    · have c2' : seqB k j = false := by simpa using c2
      have c3 := slt_tri c1' c2'
      rw [if_pos (by rw [c1', c2']; decide)]
      obtain ⟨t, e1, e2, e3, e4, e5⟩ := put_ok k v r n (by omega) (by omega) hr s2
      have hz : sizeT t ≤ sizeT r + 1 := by rw [← rows_len, e3, ins_len, rows_len]; split <;> omega
      obtain ⟨u, f1, f2, f3, f4, f5, f6⟩ := level_ok (k := j) (x := x) (d := d) hl e2 (by omega) (by omega) (by omega)
      rw [e1, Option.bind_some]
      unfold F_tree_put_api_Cell_k1
      rw [f1, Option.bind_some]
      have q : ∀ a ∈ rowsT l, sltB a.k k = true := fun a ha => slt_trans (s3 a ha) c3
      refine ⟨u, by rw [rowsT, has_r q, hasR, if_pos c3], f2, by rw [f3, rowsT, ins_r q, insR, if_pos c3, e3], ?_, ?_⟩
      · by_cases g : deepT l ≤ deepT t + 1 ∧ deepT t ≤ deepT l + 1
        · rw [f6 g.1 g.2]; omega
        · omega
      · by_cases g : deepT l ≤ deepT t + 1 ∧ deepT t ≤ deepT l + 1
        · rw [f6 g.1 g.2]; omega
        · omega

theorem get_ok (k : ByteArray) : ∀ t : TM, Srt (rowsT t) → getT k t = getR k (rowsT t)
  | .nil, _ => rfl
  | .node j x d l r, hs => by
    obtain ⟨s1, s2, s3, s4⟩ := srt_app.1 hs
    simp only [getT, rowsT]
    by_cases c2 : seqB j k = true
    · rw [if_neg (by rw [c2]; decide)]
      obtain rfl := seqB_iff.1 c2
      rw [get_r s3, getR, if_neg (by rw [slt_irr]; decide), if_pos c2]
    have c2' : seqB j k = false := by simpa using c2
    rw [if_pos (by rw [c2']; decide)]
    by_cases c1 : sltB k j = true
    · rw [if_pos c1, get_ok k l s1, get_l (m := ⟨j, x⟩) c1]
    · have c3 : sltB j k = true := slt_tri (by simpa using c1) (seqB_false.2 fun e => seqB_false.1 c2' e.symm)
      rw [if_neg c1, get_ok k r s2, get_r (fun a ha => slt_trans (s3 a ha) c3), getR, if_pos c3]

def posR (k : ByteArray) : List Rw → Nat
  | [] => 0
  | r :: l => if sltB r.k k = true then posR k l + 1 else 0

section
variable {k : ByteArray}
theorem pos_t {r : Rw} {l : List Rw} (h : sltB r.k k = true) : posR k (r :: l) = posR k l + 1 := if_pos h

theorem pos_f {r : Rw} {l : List Rw} (h : ¬ sltB r.k k = true) : posR k (r :: l) = 0 := if_neg h

theorem has_t {r : Rw} {l : List Rw} (h : sltB r.k k = true) : hasR k (r :: l) = hasR k l := if_pos h

theorem has_f {r : Rw} {l : List Rw} (h : ¬ sltB r.k k = true) : hasR k (r :: l) = seqB r.k k := if_neg h

theorem pos_le : ∀ l : List Rw, posR k l ≤ l.length
  | [] => Nat.le_refl _
  | r :: l => by
    by_cases h : sltB r.k k = true
    · rw [pos_t h, List.length_cons]; have := pos_le l; omega
    · rw [pos_f h]; omega

theorem pos_lt : ∀ (l : List Rw) (i : Nat), i < posR k l → sltB (l.getD i default).k k = true
  | [], i, h => by simp only [posR] at h; omega
  | r :: l, i, h => by
    by_cases c : sltB r.k k = true
    · rw [pos_t c] at h
      cases i with
      | zero => exact c
      | succ i => exact pos_lt l i (by omega)
    · rw [pos_f c] at h; omega

theorem pos_at : ∀ (l : List Rw), posR k l < l.length → sltB (l.getD (posR k l) default).k k = false ∧ hasR k l = seqB (l.getD (posR k l) default).k k
  | [], h => by simp only [List.length_nil] at h; omega
  | r :: l, h => by
    by_cases c : sltB r.k k = true
    · rw [pos_t c, List.length_cons] at h
      rw [pos_t c, has_t c]
      exact pos_at l (by omega)
    · rw [pos_f c, has_f c]
      exact ⟨by simpa using c, rfl⟩

theorem pos_end : ∀ (l : List Rw), posR k l = l.length → hasR k l = false
  | [], _ => rfl
  | r :: l, h => by
    by_cases c : sltB r.k k = true
    · rw [pos_t c, List.length_cons] at h
      rw [has_t c]
      exact pos_end l (by omega)
    · rw [pos_f c, List.length_cons] at h; omega

theorem has_pos {l : List Rw} (h : hasR k l = true) : posR k l < l.length := by
  have := pos_le (k := k) l
  by_cases e : posR k l = l.length
  · rw [pos_end l e] at h; cases h
  · omega

theorem ins_set {v : List ECell} : ∀ (l : List Rw), hasR k l = true → insR k v l = l.set (posR k l) { l.getD (posR k l) default with l := v }
  | [], h => by cases h
  | r :: l, h => by
    by_cases c : sltB r.k k = true
    · rw [has_t c] at h
      rw [pos_t c, show insR k v (r :: l) = _ from if_pos c, ins_set l h]; rfl
    · rw [has_f c] at h
      rw [pos_f c, show insR k v (r :: l) = _ from if_neg c, if_pos h]; rfl

theorem ins_new {v : List ECell} : ∀ (l : List Rw), hasR k l = false → insR k v l = l.take (posR k l) ++ ⟨k, v⟩ :: l.drop (posR k l)
  | [], _ => rfl
  | r :: l, h => by
    by_cases c : sltB r.k k = true
    · rw [has_t c] at h
      rw [pos_t c, show insR k v (r :: l) = _ from if_pos c, ins_new l h]; rfl
    · rw [has_f c] at h
      rw [pos_f c, show insR k v (r :: l) = _ from if_neg c, if_neg (by rw [h]; decide)]; rfl

theorem get_at : ∀ (l : List Rw), getR k l = if hasR k l = true then ((l.getD (posR k l) default).l, true) else ([], false)
  | [] => rfl
  | r :: l => by
    by_cases c : sltB r.k k = true
    · rw [has_t c, pos_t c, show getR k (r :: l) = _ from if_pos c, get_at l]; rfl
    · rw [has_f c, pos_f c, show getR k (r :: l) = _ from if_neg c]; rfl

def geR (k : ByteArray) (l : List Rw) : List Rw := l.filter fun r => !sltB r.k k

end
def inR (f t k : ByteArray) : Bool := !sltB k f && (seqB t ⟨#[]⟩ || sltB k t)

def keysR (f t : ByteArray) (l : List Rw) : List ByteArray := (l.filter fun r => inR f t r.k).map (·.k)

-- going through a tree
def walkL {σ : Type} (y : ByteArray → σ → Option (Bool × σ)) : List Rw → σ → Option (Bool × σ)
  | [], s => some (true, s)
  | r :: l, s => (y r.k s).bind fun p => if p.1 = true then walkL y l p.2 else some p

theorem walkL_app {σ : Type} {y : ByteArray → σ → Option (Bool × σ)} {B : List Rw} : ∀ (A : List Rw) (s : σ), walkL y (A ++ B) s = (walkL y A s).bind fun p => if p.1 = true then walkL y B p.2 else some p
  | [], s => rfl
  | r :: A, s => by
    simp only [List.cons_append, walkL]
    cases y r.k s with
    | none => rfl
    | some p =>
      simp only [Option.bind_some]
      by_cases c : p.1 = true
      · rw [if_pos c, if_pos c, walkL_app A]
      · rw [if_neg c, if_neg c, Option.bind_some, if_neg c]

theorem walk_ok {σ : Type} (f : ByteArray) (y : ByteArray → σ → Option (Bool × σ)) : ∀ (t : TM) (n : Nat) (s : σ), sizeT t < n → Srt (rowsT t) → F_tree_node_api_Cell_walkR n t f y (true, s) = (walkL y (geR f (rowsT t)) s).bind fun p => some (p.1, t, p)
  | .nil, n + 1, s, _, _ => rfl
  | .node j x d l r, n + 1, s, hn, hs => by
    obtain ⟨s1, s2, s3, s4⟩ := srt_app.1 hs
    simp only [sizeT] at hn
    show F_tree_node_api_Cell_walk_b (F_tree_node_api_Cell_walkR n) (.node j x d l r) f y (true, s) = _
    unfold F_tree_node_api_Cell_walk_b
    rw [if_neg (by rintro ⟨⟩)]
    simp only [ttE]
    by_cases c : sltB j f = true
    · rw [if_pos c, walk_ok f y r n s (by omega) s2]
      have e : geR f (rowsT (.node j x d l r)) = geR f (rowsT r) := by
        unfold geR
        rw [rowsT, List.filter_append, List.filter_cons_of_neg (by simp [c]), List.filter_eq_nil_iff.2 fun a ha => by simp [slt_trans (s3 a ha) c], List.nil_append]
      rw [e]
      cases walkL y (geR f (rowsT r)) s with
      | none => rfl
      | some p => rfl
    · rw [if_neg c, walk_ok f y l n s (by omega) s1]
      have e : geR f (rowsT (.node j x d l r)) = geR f (rowsT l) ++ ⟨j, x⟩ :: geR f (rowsT r) := by
        unfold geR
        rw [rowsT, List.filter_append, List.filter_cons_of_pos (by simp [c])]
      rw [e, walkL_app]
      cases walkL y (geR f (rowsT l)) s with
      | none => rfl
      | some p =>
        obtain ⟨b, s'⟩ := p
        simp only [Option.bind_some]
        cases b with
        | false => rfl
        | true =>
          rw [if_pos rfl, if_pos rfl, chk_t rfl, walkL]
          cases y j s' with
          | none => rfl
          | some q =>
            obtain ⟨b2, s2'⟩ := q
            simp only [Option.bind_some]
            cases b2 with
            | false => rfl
            | true =>
              rw [if_pos rfl, if_pos rfl, walk_ok f y r n s2' (by omega) s2]
              cases walkL y (geR f (rowsT r)) s2' with
              | none => rfl
              | some p2 => rfl

structure trOk (t : Etree_Tree_api_Cell) : Prop where
  made : t.made = true
  avl : avl t.top
  srt : Srt (rowsT t.top)
  n : t.n = ((rowsT t.top).length : Int)

theorem trOk.none {t : Etree_Tree_api_Cell} (h : trOk t) : F_tree_Tree_api_Cell_none t = some false := by unfold F_tree_Tree_api_Cell_none; rw [h.made]; rfl

def newT : Etree_Tree_api_Cell := { (default : Etree_Tree_api_Cell) with made := true }

theorem new_ok : trOk newT := ⟨rfl, trivial, List.Pairwise.nil, rfl⟩

theorem keys_walk (to_ : ByteArray) : ∀ (L : List Rw) (out : List ByteArray), Srt L → out.length + L.length ≤ big → ∃ b, walkL (F_tree_Tree_api_Cell_Keys_y1 to_) L out = some (b, out ++ (L.filter fun r => seqB to_ ⟨#[]⟩ || sltB r.k to_).map (·.k))
  | [], out, _, _ => ⟨true, by simp [walkL]⟩
  | r :: L, out, hs, hb => by
    obtain ⟨h1, h2⟩ := List.pairwise_cons.1 hs
    rw [List.length_cons] at hb
    unfold walkL F_tree_Tree_api_Cell_Keys_y1
    by_cases c : (seqB to_ ⟨#[]⟩ || sltB r.k to_) = true
    · rw [if_neg (by simp only [Bool.or_eq_true] at c; rcases c with c | c <;> simp [c]), chk_t (by simp only [List.length_cons, List.length_nil]; unfold big at hb; omega), Option.bind_some, if_pos rfl]
      obtain ⟨b, e⟩ := keys_walk to_ L (out ++ [r.k]) h2 (by simp only [List.length_append, List.length_cons, List.length_nil]; omega)
      exact ⟨b, by rw [List.filter_cons_of_pos (by exact c)]; refine (show _ = walkL (F_tree_Tree_api_Cell_Keys_y1 to_) L (out ++ [r.k]) from rfl).trans (e.trans ?_); simp⟩
    · have c' : (seqB to_ ⟨#[]⟩ || sltB r.k to_) = false := by simpa using c
      simp only [Bool.or_eq_false_iff] at c'
      rw [if_pos (by rw [c'.1, c'.2]; rfl), Option.bind_some, if_neg (by rintro ⟨⟩), List.filter_cons_of_neg (by exact c), List.filter_eq_nil_iff.2 fun x hx => ?_]
      · exact ⟨false, by simp⟩
      · rw [c'.1, Bool.false_or]
        intro e
        exact absurd (slt_trans (h1 x hx) e) (by rw [c'.2]; decide)

section
variable {t : Etree_Tree_api_Cell} (h : trOk t) (hz : (rowsT t.top).length < big)
include h hz
theorem tree_Put (k : ByteArray) (v : List ECell) : ∃ t', F_tree_Tree_api_Cell_Put t k v = some (hasR k (rowsT t.top), t') ∧ trOk t' ∧ rowsT t'.top = insR k v (rowsT t.top) := by
  have hz2 := hz; rw [rows_len] at hz2
  obtain ⟨u, e1, e2, e3, e4, e5⟩ := put_ok k v t.top FU (by unfold FU; unfold big at hz2; omega) hz2 h.avl h.srt
  have hn := h.n
  have hl := ins_len (k := k) (v := v) (rowsT t.top)
  unfold F_tree_Tree_api_Cell_Put
  rw [h.none, Option.bind_some, if_neg (by decide), F_tree_put_api_Cell, e1, Option.bind_some]
  simp only []
  by_cases c : hasR k (rowsT t.top) = true
  · rw [if_neg (by rw [c]; decide)]
    rw [if_pos c] at hl
    exact ⟨_, rfl, ⟨h.made, e2, by rw [e3]; exact ins_srt h.srt, by show t.n = ((rowsT u).length : Int); rw [e3, hl]; exact hn⟩, e3⟩
  · have c' : hasR k (rowsT t.top) = false := by simpa using c
    rw [if_pos (by rw [c']; rfl), chk_t (by unfold inI; unfold big at hz; omega)]
    rw [if_neg c] at hl
    exact ⟨_, rfl, ⟨h.made, e2, by rw [e3]; exact ins_srt h.srt, by show t.n + 1 = ((rowsT u).length : Int); rw [e3, hl]; omega⟩, e3⟩

omit hz in
theorem tree_Get (k : ByteArray) : F_tree_Tree_api_Cell_Get t k = some (getR k (rowsT t.top)) := by
  unfold F_tree_Tree_api_Cell_Get
  rw [h.none, Option.bind_some, if_neg (by decide), get_ok k t.top h.srt]

theorem from_ok {σ : Type} (y : ByteArray → σ → Option (Bool × σ)) (f : ByteArray) (s : σ) : F_tree_Tree_api_Cell_from_1 y (true, s) t f = (walkL y (geR f (rowsT t.top)) s).bind fun p => some (t, p) := by
  rw [rows_len] at hz
  unfold F_tree_Tree_api_Cell_from_1
  rw [h.none, Option.bind_some, if_pos (by decide), F_tree_node_api_Cell_walk, walk_ok f y t.top FU s (by unfold FU; unfold big at hz; omega) h.srt]
  cases walkL y (geR f (rowsT t.top)) s with
  | none => rfl
  | some p => rfl

theorem tree_Keys (f to_ : ByteArray) : F_tree_Tree_api_Cell_Keys t f to_ = some (keysR f to_ (rowsT t.top), t) := by
  unfold F_tree_Tree_api_Cell_Keys F_tree_Tree_api_Cell_from
  rw [Option.bind_some, from_ok h hz]
  obtain ⟨b, e⟩ := keys_walk to_ (geR f (rowsT t.top)) [] (h.srt.sublist List.filter_sublist) (by have := List.length_filter_le (fun r : Rw => !sltB r.k f) (rowsT t.top); unfold geR; simp only [List.length_nil]; omega)
  rw [e, Option.bind_some, Option.bind_some]
  have e2 : [] ++ ((geR f (rowsT t.top)).filter fun r => seqB to_ ⟨#[]⟩ || sltB r.k to_).map (·.k) = keysR f to_ (rowsT t.top) := by
    unfold geR keysR inR
    rw [List.nil_append, List.filter_filter]
    congr 1
    refine List.filter_congr fun x _ => ?_
    rw [Bool.and_comm]
  simp only [e2]
  split <;> rfl

end
end Go.Proofs.Ytglfajjcgbfehaa
