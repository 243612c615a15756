/- Trees: what stands in them. -/
import Derived.Test.YtfcdghlgcnjkoaaYTreeP
namespace Go.Proofs.Ytfcdghlgcnjkoaa

def Srt (l : List Rw) : Prop := l.Pairwise fun a b => sltB a.k b.k = true

theorem srt_app {A B : List Rw} {m : Rw} : Srt (A ++ m :: B) ↔ Srt A ∧ Srt B ∧ (∀ a ∈ A, sltB a.k m.k = true) ∧ (∀ b ∈ B, sltB m.k b.k = true) := by
  unfold Srt
  rw [List.pairwise_append, List.pairwise_cons]
  constructor
  · rintro ⟨h1, ⟨h2, h3⟩, h4⟩
    exact ⟨h1, h3, fun a ha => h4 a ha m (by simp), h2⟩
  · rintro ⟨h1, h2, h3, h4⟩
    refine ⟨h1, ⟨h4, h2⟩, fun a ha b hb => ?_⟩
    rcases List.mem_cons.1 hb with rfl | hb
    · exact h3 a ha
    · exact slt_trans (h3 a ha) (h4 b hb)

def hasR (k : ByteArray) : List Rw → Bool
  | [] => false
  | r :: l => if sltB r.k k = true then hasR k l else seqB r.k k

def insR (k : ByteArray) (v : Int) : List Rw → List Rw
  | [] => [⟨k, v⟩]
  | r :: l => if sltB r.k k = true then r :: insR k v l else if seqB r.k k = true then ⟨r.k, v⟩ :: l else ⟨k, v⟩ :: r :: l

def delR (k : ByteArray) : List Rw → List Rw
  | [] => []
  | r :: l => if sltB r.k k = true then r :: delR k l else if seqB r.k k = true then l else r :: l

-- a row in the middle: k is below it
section
variable {k : ByteArray} {v : Int} {m : Rw} {B : List Rw}
theorem has_l (h : sltB k m.k = true) : ∀ A : List Rw, hasR k (A ++ m :: B) = hasR k A
  | [] => by simp only [List.nil_append, hasR]; rw [if_neg (by rw [slt_asym h]; decide), slt_ne' h]
  | a :: A => by simp only [List.cons_append, hasR, has_l h A]

theorem ins_l (h : sltB k m.k = true) : ∀ A : List Rw, insR k v (A ++ m :: B) = insR k v A ++ m :: B
  | [] => by simp only [List.nil_append, insR]; rw [if_neg (by rw [slt_asym h]; decide), if_neg (by rw [slt_ne' h]; decide)]; rfl
  | a :: A => by simp only [List.cons_append, insR, ins_l h A]; split; · rfl
                 split <;> rfl

theorem del_l (h : sltB k m.k = true) : ∀ A : List Rw, delR k (A ++ m :: B) = delR k A ++ m :: B
  | [] => by simp only [List.nil_append, delR]; rw [if_neg (by rw [slt_asym h]; decide), if_neg (by rw [slt_ne' h]; decide)]
  | a :: A => by simp only [List.cons_append, delR, del_l h A]; split; · rfl
                 split <;> rfl

-- all these are below k
theorem has_r : ∀ {A : List Rw}, (∀ a ∈ A, sltB a.k k = true) → hasR k (A ++ B) = hasR k B
  | [], _ => rfl
  | a :: A, h => by simp only [List.cons_append, hasR]; rw [if_pos (h a (by simp)), has_r fun b hb => h b (by simp [hb])]

theorem ins_r : ∀ {A : List Rw}, (∀ a ∈ A, sltB a.k k = true) → insR k v (A ++ B) = A ++ insR k v B
  | [], _ => rfl
  | a :: A, h => by simp only [List.cons_append, insR]; rw [if_pos (h a (by simp)), ins_r fun b hb => h b (by simp [hb])]

theorem del_r : ∀ {A : List Rw}, (∀ a ∈ A, sltB a.k k = true) → delR k (A ++ B) = A ++ delR k B
  | [], _ => rfl
  | a :: A, h => by simp only [List.cons_append, delR]; rw [if_pos (h a (by simp)), del_r fun b hb => h b (by simp [hb])]

theorem ins_len : ∀ l : List Rw, (insR k v l).length = if hasR k l = true then l.length else l.length + 1
  | [] => rfl
  | r :: l => by
    by_cases h : sltB r.k k = true
    · rw [show hasR k (r :: l) = hasR k l from if_pos h, show insR k v (r :: l) = r :: insR k v l from if_pos h, List.length_cons, ins_len l]; split <;> rfl
    · rw [show hasR k (r :: l) = seqB r.k k from if_neg h, show insR k v (r :: l) = _ from if_neg h]; split <;> rfl

theorem del_len : ∀ l : List Rw, (delR k l).length = if hasR k l = true then l.length - 1 else l.length
  | [] => rfl
  | r :: l => by
    by_cases h : sltB r.k k = true
    · rw [show hasR k (r :: l) = hasR k l from if_pos h, show delR k (r :: l) = r :: delR k l from if_pos h, List.length_cons, del_len l]
      by_cases h2 : hasR k l = true
      · rw [if_pos h2, if_pos h2]
        cases l with
        | nil => cases h2
        | cons => simp only [List.length_cons]; omega
      · rw [if_neg h2, if_neg h2]; rfl
    · rw [show hasR k (r :: l) = seqB r.k k from if_neg h, show delR k (r :: l) = _ from if_neg h]; split
      · simp only [List.length_cons]; omega
      · rfl

theorem has_len : ∀ {l : List Rw}, hasR k l = true → 1 ≤ l.length
  | [], h => by cases h
  | r :: l, _ => by simp only [List.length_cons]; omega

theorem ins_mem {x : Rw} : ∀ {l : List Rw}, x ∈ insR k v l → x.k = k ∨ ∃ y ∈ l, y.k = x.k
  | [], h => by simp only [insR, List.mem_singleton] at h; exact .inl (by rw [h])
  | r :: l, h => by
    simp only [insR] at h
    split at h
    · rcases List.mem_cons.1 h with rfl | h
      · exact .inr ⟨x, by simp, rfl⟩
      · rcases ins_mem h with h | ⟨y, h1, h2⟩
        · exact .inl h
        · exact .inr ⟨y, by simp [h1], h2⟩
    · split at h
      · rcases List.mem_cons.1 h with rfl | h
        · exact .inr ⟨r, by simp, rfl⟩
        · exact .inr ⟨x, by simp [h], rfl⟩
      · rcases List.mem_cons.1 h with rfl | h
        · exact .inl rfl
        · exact .inr ⟨x, h, rfl⟩

theorem ins_srt : ∀ {l : List Rw}, Srt l → Srt (insR k v l)
  | [], _ => by simp [insR, Srt]
  | r :: l, h => by
    obtain ⟨h1, h2⟩ := List.pairwise_cons.1 h
    simp only [insR]
    split
    · rename_i h3
      refine List.pairwise_cons.2 ⟨fun x hx => ?_, ins_srt h2⟩
      rcases ins_mem hx with e | ⟨y, hy, e⟩
      · rw [e]; exact h3
      · rw [← e]; exact h1 y hy
    · rename_i h3
      split
      · exact List.pairwise_cons.2 ⟨h1, h2⟩
      · rename_i h4
        have h5 := slt_tri (by simpa using h3) (by simpa using h4)
        refine List.pairwise_cons.2 ⟨fun x hx => ?_, h⟩
        rcases List.mem_cons.1 hx with rfl | hx
        · exact h5
        · exact slt_trans h5 (h1 x hx)

theorem del_sub : ∀ l : List Rw, (delR k l).Sublist l
  | [] => .slnil
  | r :: l => by
    simp only [delR]
    split
    · exact (del_sub l).cons_cons r
    · split
      · exact List.sublist_cons_self r l
      · exact List.Sublist.refl _

theorem del_srt {l : List Rw} (h : Srt l) : Srt (delR k l) := h.sublist (del_sub l)

end
theorem put_ok (k : ByteArray) (v : Int) : ∀ (t : TT Int) (n : Nat), sizeT t < n → sizeT t < big → avl t → Srt (rowsT t) → ∃ t', F_tree_put_intR n t k v = some (t', hasR k (rowsT t)) ∧ avl t' ∧ rowsT t' = insR k v (rowsT t) ∧ deepT t ≤ deepT t' ∧ deepT t' ≤ deepT t + 1
  | .nil, n + 1, _, _, _, _ => ⟨.node k v 1 .nil .nil, rfl, ⟨trivial, trivial, rfl, by decide, by decide⟩, rfl, by simp only [dN, dC]; omega, by simp only [dN, dC]; omega⟩
  | .node j x d l r, n + 1, hn, hb, ⟨hl, hr, hd, h1, h2⟩, hs => by
    obtain ⟨s1, s2, s3, s4⟩ := srt_app.1 hs
    simp only [sizeT] at hn hb
    have a := deep_ok hl; have b := deep_ok hr
    show ∃ t', F_tree_put_int_b (F_tree_put_intR n) (.node j x d l r) k v = _ ∧ _
    unfold F_tree_put_int_b
    rw [if_neg (by rintro ⟨⟩)]
    simp only [ttE, dC]
    by_cases c1 : sltB k j = true
    · rw [if_pos c1]
      obtain ⟨t, e1, e2, e3, e4, e5⟩ := put_ok k v l n (by omega) (by omega) hl s1
      have hz : sizeT t ≤ sizeT l + 1 := by rw [← rows_len, e3, ins_len, rows_len]; split <;> omega
      obtain ⟨u, f1, f2, f3, f4, f5, f6⟩ := level_ok (k := j) (x := x) (d := d) e2 hr (by omega) (by omega) (by omega)
      rw [e1, Option.bind_some]
      unfold F_tree_put_int_k1
      rw [f1, Option.bind_some]
      refine ⟨u, by rw [rowsT, has_l (m := ⟨j, x⟩) c1], f2, by rw [f3, rowsT, ins_l (m := ⟨j, x⟩) c1, e3], ?_, ?_⟩
      · by_cases g : deepT t ≤ deepT r + 1 ∧ deepT r ≤ deepT t + 1
        · rw [f6 g.1 g.2]; omega
        · omega
      · by_cases g : deepT t ≤ deepT r + 1 ∧ deepT r ≤ deepT t + 1
        · rw [f6 g.1 g.2]; omega
        · omega
    rw [if_neg c1]
    have c1' : sltB k j = false := by simpa using c1
    by_cases c2 : seqB k j = true
    · rw [if_neg (by rw [c1', c2]; decide)]
      obtain rfl := seqB_iff.1 c2
      refine ⟨_, by rw [rowsT, has_r (B := ⟨k, x⟩ :: rowsT r) s3, hasR, if_neg (by rw [slt_irr]; decide), c2], (show avl (.node k v d l r) from ⟨hl, hr, hd, h1, h2⟩), by rw [rowsT, rowsT, ins_r s3, insR, if_neg (by rw [slt_irr]; decide), if_pos c2], by simp only [dC]; omega, by simp only [dC]; omega⟩
    · have c2' : seqB k j = false := by simpa using c2
      have c3 := slt_tri c1' c2'
      rw [if_pos (by rw [c1', c2']; decide)]
      obtain ⟨t, e1, e2, e3, e4, e5⟩ := put_ok k v r n (by omega) (by omega) hr s2
      have hz : sizeT t ≤ sizeT r + 1 := by rw [← rows_len, e3, ins_len, rows_len]; split <;> omega
      obtain ⟨u, f1, f2, f3, f4, f5, f6⟩ := level_ok (k := j) (x := x) (d := d) hl e2 (by omega) (by omega) (by omega)
      rw [e1, Option.bind_some]
      unfold F_tree_put_int_k1
      rw [f1, Option.bind_some]
      have q : ∀ a ∈ rowsT l, sltB a.k k = true := fun a ha => slt_trans (s3 a ha) c3
      refine ⟨u, by rw [rowsT, has_r q, hasR, if_pos c3], f2, by rw [f3, rowsT, ins_r q, insR, if_pos c3, e3], ?_, ?_⟩
      · by_cases g : deepT l ≤ deepT t + 1 ∧ deepT t ≤ deepT l + 1
        · rw [f6 g.1 g.2]; omega
        · omega
      · by_cases g : deepT l ≤ deepT t + 1 ∧ deepT t ≤ deepT l + 1
        · rw [f6 g.1 g.2]; omega
        · omega

theorem first_ok : ∀ (t : TT Int) (n : Nat), sizeT t < n → sizeT t < big → avl t → t ≠ .nil → ∃ k x d u, F_tree_first_intR n t = some (k, x, d, u) ∧ avl u ∧ rowsT t = ⟨k, x⟩ :: rowsT u ∧ deepT t - 1 ≤ deepT u ∧ deepT u ≤ deepT t
  | .nil, _, _, _, _, h => absurd rfl h
  | .node j x d l r, n + 1, hn, hb, ⟨hl, hr, hd, h1, h2⟩, _ => by
    simp only [sizeT] at hn hb
    have a := deep_ok hl; have b := deep_ok hr
    show ∃ k' x' d' u, F_tree_first_int_b (F_tree_first_intR n) (.node j x d l r) = _ ∧ _
    unfold F_tree_first_int_b
    simp only [ttE, dC]
    cases l with
    | nil => exact ⟨j, x, d, r, rfl, hr, rfl, by simp only [dN] at *; omega, by simp only [dN] at *; omega⟩
    | node j2 x2 d2 l2 r2 =>
      rw [if_neg (by rintro ⟨⟩)]
      obtain ⟨k, y, e, t, e1, e2, e3, e4, e5⟩ := first_ok (.node j2 x2 d2 l2 r2) n (by omega) (by omega) hl (by intro h; cases h)
      have hz : sizeT t + 1 = sizeT (.node j2 x2 d2 l2 r2) := by rw [← rows_len, ← rows_len, e3]; rfl
      obtain ⟨u, f1, f2, f3, f4, f5, f6⟩ := level_ok (k := j) (x := x) (d := d) e2 hr (by omega) (by omega) (by omega)
      rw [e1, Option.bind_some, f1, Option.bind_some]
      refine ⟨k, y, e, u, rfl, f2, by rw [rowsT, f3, e3]; rfl, ?_, ?_⟩
      · by_cases g : deepT t ≤ deepT r + 1 ∧ deepT r ≤ deepT t + 1
        · rw [f6 g.1 g.2]; omega
        · omega
      · by_cases g : deepT t ≤ deepT r + 1 ∧ deepT r ≤ deepT t + 1
        · rw [f6 g.1 g.2]; omega
        · omega

theorem del_ok (k : ByteArray) : ∀ (t : TT Int) (n : Nat), sizeT t < n → sizeT t < big → avl t → Srt (rowsT t) → ∃ t', F_tree_del_intR n t k = some (t', hasR k (rowsT t)) ∧ avl t' ∧ rowsT t' = delR k (rowsT t) ∧ deepT t - 1 ≤ deepT t' ∧ deepT t' ≤ deepT t
  | .nil, n + 1, _, _, _, _ => ⟨.nil, rfl, trivial, rfl, by simp only [dN]; omega, by simp only [dN]; omega⟩
  | .node j x d l r, n + 1, hn, hb, ⟨hl, hr, hd, h1, h2⟩, hs => by
    obtain ⟨s1, s2, s3, s4⟩ := srt_app.1 hs
    simp only [sizeT] at hn hb
    have a := deep_ok hl; have b := deep_ok hr
    show ∃ t', F_tree_del_int_b (F_tree_del_intR n) (.node j x d l r) k = _ ∧ _
    unfold F_tree_del_int_b
    rw [if_neg (by rintro ⟨⟩)]
    simp only [ttE, dC]
    by_cases c1 : sltB k j = true
    · rw [if_pos c1]
      obtain ⟨t, e1, e2, e3, e4, e5⟩ := del_ok k l n (by omega) (by omega) hl s1
      have hz : sizeT t ≤ sizeT l := by rw [← rows_len, e3, del_len, rows_len]; split <;> omega
      obtain ⟨u, f1, f2, f3, f4, f5, f6⟩ := level_ok (k := j) (x := x) (d := d) e2 hr (by omega) (by omega) (by omega)
      rw [e1, Option.bind_some]
      unfold F_tree_del_int_k1
      rw [f1, Option.bind_some]
      refine ⟨u, by rw [rowsT, has_l (m := ⟨j, x⟩) c1], f2, by rw [f3, rowsT, del_l (m := ⟨j, x⟩) c1, e3], ?_, ?_⟩
      · by_cases g : deepT t ≤ deepT r + 1 ∧ deepT r ≤ deepT t + 1
        · rw [f6 g.1 g.2]; omega
        · omega
      · by_cases g : deepT t ≤ deepT r + 1 ∧ deepT r ≤ deepT t + 1
        · rw [f6 g.1 g.2]; omega
        · omega
    rw [if_neg c1]
    have c1' : sltB k j = false := by simpa using c1
    by_cases c2 : seqB k j = true
    · rw [if_neg (by rw [c1', c2]; decide)]
      obtain rfl := seqB_iff.1 c2
      have hh : hasR k (rowsT l ++ ⟨k, x⟩ :: rowsT r) = true := by rw [has_r (B := ⟨k, x⟩ :: rowsT r) s3, hasR, if_neg (by rw [slt_irr]; decide), c2]
      have hd2 : delR k (rowsT l ++ ⟨k, x⟩ :: rowsT r) = rowsT l ++ rowsT r := by rw [del_r s3, delR, if_neg (by rw [slt_irr]; decide), if_pos c2]
      cases r with
      | nil =>
        rw [if_pos (show (TT.nil : TT Int).isNil = true from rfl)]
        refine ⟨l, by rw [rowsT, hh], hl, by rw [rowsT, hd2, rowsT, List.append_nil], by simp only [dN] at *; omega, by simp only [dN] at *; omega⟩
      | node j2 x2 d2 l2 r2 =>
        rw [if_neg (by rintro ⟨⟩)]
        obtain ⟨q, y, e, t, e1, e2, e3, e4, e5⟩ := first_ok (.node j2 x2 d2 l2 r2) FU (by unfold FU; unfold big at hb; omega) (by omega) hr (by intro h; cases h)
        have hz : sizeT t + 1 = sizeT (.node j2 x2 d2 l2 r2) := by rw [← rows_len, ← rows_len, e3]; rfl
        obtain ⟨u, f1, f2, f3, f4, f5, f6⟩ := level_ok (k := q) (x := y) (d := e) hl e2 (by omega) (by omega) (by omega)
        rw [F_tree_first_int, e1, Option.bind_some]
        unfold F_tree_del_int_k1
        simp only [f1, Option.bind_some]
        refine ⟨u, by rw [rowsT, hh], f2, by rw [rowsT, hd2, f3, e3], ?_, ?_⟩
        · by_cases g : deepT l ≤ deepT t + 1 ∧ deepT t ≤ deepT l + 1
          · rw [f6 g.1 g.2]; omega
          · omega
        · by_cases g : deepT l ≤ deepT t + 1 ∧ deepT t ≤ deepT l + 1
          · rw [f6 g.1 g.2]; omega
          · omega
    · have c2' : seqB k j = false := by simpa using c2
      have c3 := slt_tri c1' c2'
      rw [if_pos (by rw [c1', c2']; decide)]
      obtain ⟨t, e1, e2, e3, e4, e5⟩ := del_ok k r n (by omega) (by omega) hr s2
      have hz : sizeT t ≤ sizeT r := by rw [← rows_len, e3, del_len, rows_len]; split <;> omega
      obtain ⟨u, f1, f2, f3, f4, f5, f6⟩ := level_ok (k := j) (x := x) (d := d) hl e2 (by omega) (by omega) (by omega)
      rw [e1, Option.bind_some]
      unfold F_tree_del_int_k1
      rw [f1, Option.bind_some]
      have q : ∀ a ∈ rowsT l, sltB a.k k = true := fun a ha => slt_trans (s3 a ha) c3
      refine ⟨u, by rw [rowsT, has_r q, hasR, if_pos c3], f2, by rw [f3, rowsT, del_r q, delR, if_pos c3, e3], ?_, ?_⟩
      · by_cases g : deepT l ≤ deepT t + 1 ∧ deepT t ≤ deepT l + 1
        · rw [f6 g.1 g.2]; omega
        · omega
      · by_cases g : deepT l ≤ deepT t + 1 ∧ deepT t ≤ deepT l + 1
        · rw [f6 g.1 g.2]; omega
        · omega

end Go.Proofs.Ytfcdghlgcnjkoaa
