/- Trees: what stands in them. -/
import Derived.Test.YtfcdghlgcnjkoaaYTreeP
namespace Go.Proofs.Ytfcdghlgcnjkoaa

def Srt (l : List Rw) : Prop := l.Pairwise fun a b => sltB a.k b.k = true

theorem srt_app {A B : List Rw} {m : Rw} : Srt (A ++ m :: B) ↔ Srt A ∧ Srt B ∧ (∀ a ∈ A, sltB a.k m.k = true) ∧ (∀ b ∈ B, sltB m.k b.k = true) := by
  unfold Srt
  rw [List.pairwise_append, List.pairwise_cons]
  constructor
  · rintro ⟨h1, ⟨h2, h3⟩, h4⟩
    exact ⟨h1, h3, fun a ha => h4 a ha m (by simp), h2⟩
  · rintro ⟨h1, h2, h3, h4⟩
    refine ⟨h1, ⟨h4, h2⟩, fun a ha b hb => ?_⟩
    rcases List.mem_cons.1 hb with rfl | hb
    · exact h3 a ha
    · exact slt_trans (h3 a ha) (h4 b hb)

def hasR (k : ByteArray) : List Rw → Bool
  | [] => false
  | r :: l => if sltB r.k k = true then hasR k l else seqB r.k k

def insR (k : ByteArray) (v : Int) : List Rw → List Rw
  | [] => [⟨k, v⟩]
  | r :: l => if sltB r.k k = true then r :: insR k v l else if seqB r.k k = true then ⟨r.k, v⟩ :: l else ⟨k, v⟩ :: r :: l

def getR (k : ByteArray) : List Rw → Int × Bool
  | [] => (0, false)
  | r :: l => if sltB r.k k = true then getR k l else if seqB r.k k = true then (r.v, true) else (0, false)

-- a row in the middle: k is below it
section
variable {k : ByteArray} {v : Int} {m : Rw} {B : List Rw}
theorem has_l (h : sltB k m.k = true) : ∀ A : List Rw, hasR k (A ++ m :: B) = hasR k A
  | [] => by simp only [List.nil_append, hasR]; rw [if_neg (by rw [slt_asym h]; decide), slt_ne' h]
  | a :: A => by simp only [List.cons_append, hasR, has_l h A]

theorem ins_l (h : sltB k m.k = true) : ∀ A : List Rw, insR k v (A ++ m :: B) = insR k v A ++ m :: B
  | [] => by simp only [List.nil_append, insR]; rw [if_neg (by rw [slt_asym h]; decide), if_neg (by rw [slt_ne' h]; decide)]; rfl
  | a :: A => by simp only [List.cons_append, insR, ins_l h A]; split; · rfl
                 split <;> rfl

theorem get_l (h : sltB k m.k = true) : ∀ A : List Rw, getR k (A ++ m :: B) = getR k A
  | [] => by simp only [List.nil_append, getR]; rw [if_neg (by rw [slt_asym h]; decide), if_neg (by rw [slt_ne' h]; decide)]
  | a :: A => by simp only [List.cons_append, getR, get_l h A]

-- all these are below k
theorem has_r : ∀ {A : List Rw}, (∀ a ∈ A, sltB a.k k = true) → hasR k (A ++ B) = hasR k B
  | [], _ => rfl
  | a :: A, h => by simp only [List.cons_append, hasR]; rw [if_pos (h a (by simp)), has_r fun b hb => h b (by simp [hb])]

theorem ins_r : ∀ {A : List Rw}, (∀ a ∈ A, sltB a.k k = true) → insR k v (A ++ B) = A ++ insR k v B
  | [], _ => rfl
  | a :: A, h => by simp only [List.cons_append, insR]; rw [if_pos (h a (by simp)), ins_r fun b hb => h b (by simp [hb])]

theorem get_r : ∀ {A : List Rw}, (∀ a ∈ A, sltB a.k k = true) → getR k (A ++ B) = getR k B
  | [], _ => rfl
  | a :: A, h => by simp only [List.cons_append, getR]; rw [if_pos (h a (by simp)), get_r fun b hb => h b (by simp [hb])]

theorem ins_len : ∀ l : List Rw, (insR k v l).length = if hasR k l = true then l.length else l.length + 1
  | [] => rfl
  | r :: l => by
    by_cases h : sltB r.k k = true
    · rw [show hasR k (r :: l) = hasR k l from if_pos h, show insR k v (r :: l) = r :: insR k v l from if_pos h, List.length_cons, ins_len l]; split <;> rfl
    · rw [show hasR k (r :: l) = seqB r.k k from if_neg h, show insR k v (r :: l) = _ from if_neg h]; split <;> rfl

theorem ins_mem {x : Rw} : ∀ {l : List Rw}, x ∈ insR k v l → x.k = k ∨ ∃ y ∈ l, y.k = x.k
  | [], h => by simp only [insR, List.mem_singleton] at h; exact .inl (by rw [h])
  | r :: l, h => by
    simp only [insR] at h
    split at h
    · rcases List.mem_cons.1 h with rfl | h
      · exact .inr ⟨x, by simp, rfl⟩
      · rcases ins_mem h with h | ⟨y, h1, h2⟩
        · exact .inl h
        · exact .inr ⟨y, by simp [h1], h2⟩
    · split at h
      · rcases List.mem_cons.1 h with rfl | h
        · exact .inr ⟨r, by simp, rfl⟩
        · exact .inr ⟨x, by simp [h], rfl⟩
      · rcases List.mem_cons.1 h with rfl | h
        · exact .inl rfl
        · exact .inr ⟨x, h, rfl⟩

theorem ins_srt : ∀ {l : List Rw}, Srt l → Srt (insR k v l)
  | [], _ => by simp [insR, Srt]
  | r :: l, h => by
    obtain ⟨h1, h2⟩ := List.pairwise_cons.1 h
    simp only [insR]
    split
    · rename_i h3
      refine List.pairwise_cons.2 ⟨fun x hx => ?_, ins_srt h2⟩
      rcases ins_mem hx with e | ⟨y, hy, e⟩
      · rw [e]; exact h3
      · rw [← e]; exact h1 y hy
    · rename_i h3
      split
      · exact List.pairwise_cons.2 ⟨h1, h2⟩
      · rename_i h4
        have h5 := slt_tri (by simpa using h3) (by simpa using h4)
        refine List.pairwise_cons.2 ⟨fun x hx => ?_, h⟩
        rcases List.mem_cons.1 hx with rfl | hx
        · exact h5
        · exact slt_trans h5 (h1 x hx)

end
theorem put_ok (k : ByteArray) (v : Int) : ∀ (t : TT Int) (n : Nat), sizeT t < n → sizeT t < big → avl t → Srt (rowsT t) → ∃ t', F_tree_put_intR n t k v = some (t', hasR k (rowsT t)) ∧ avl t' ∧ rowsT t' = insR k v (rowsT t) ∧ deepT t ≤ deepT t' ∧ deepT t' ≤ deepT t + 1
  | .nil, n + 1, _, _, _, _ => ⟨.node k v 1 .nil .nil, rfl, ⟨trivial, trivial, rfl, by decide, by decide⟩, rfl, by simp only [dN, dC]; omega, by simp only [dN, dC]; omega⟩
  | .node j x d l r, n + 1, hn, hb, ⟨hl, hr, hd, h1, h2⟩, hs => by
    obtain ⟨s1, s2, s3, s4⟩ := srt_app.1 hs
    simp only [sizeT] at hn hb
    have a := deep_ok hl; have b := deep_ok hr
    show ∃ t', F_tree_put_int_b (F_tree_put_intR n) (.node j x d l r) k v = _ ∧ _
    unfold F_tree_put_int_b
    rw [if_neg (by rintro ⟨⟩)]
    simp only [ttE, dC]
    by_cases c1 : sltB k j = true
    · rw [if_pos c1]
      obtain ⟨t, e1, e2, e3, e4, e5⟩ := put_ok k v l n (by omega) (by omega) hl s1
      have hz : sizeT t ≤ sizeT l + 1 := by rw [← rows_len, e3, ins_len, rows_len]; split <;> omega
      obtain ⟨u, f1, f2, f3, f4, f5, f6⟩ := level_ok (k := j) (x := x) (d := d) e2 hr (by omega) (by omega) (by omega)
      rw [e1, Option.bind_some]
      unfold F_tree_put_int_k1
      rw [f1, Option.bind_some]
      refine ⟨u, by rw [rowsT, has_l (m := ⟨j, x⟩) c1], f2, by rw [f3, rowsT, ins_l (m := ⟨j, x⟩) c1, e3], ?_, ?_⟩
      · by_cases g : deepT t ≤ deepT r + 1 ∧ deepT r ≤ deepT t + 1
        · rw [f6 g.1 g.2]; omega
        · omega
      · by_cases g : deepT t ≤ deepT r + 1 ∧ deepT r ≤ deepT t + 1
        · rw [f6 g.1 g.2]; omega
        · omega
    rw [if_neg c1]
    have c1' : sltB k j = false := by simpa using c1
    by_cases c2 : seqB k j = true
    · rw [if_neg (by rw [c1', c2]; decide)]
      obtain rfl := seqB_iff.1 c2
      refine ⟨_, by rw [rowsT, has_r (B := ⟨k, x⟩ :: rowsT r) s3, hasR, if_neg (by rw [slt_irr]; decide), c2], (show avl (.node k v d l r) from ⟨hl, hr, hd, h1, h2⟩), by rw [rowsT, rowsT, ins_r s3, insR, if_neg (by rw [slt_irr]; decide), if_pos c2], by simp only [dC]; omega, by simp only [dC]; omega⟩
    · have c2' : seqB k j = false := by simpa using c2
      have c3 := slt_tri c1' c2'
      rw [if_pos (by rw [c1', c2']; decide)]
      obtain ⟨t, e1, e2, e3, e4, e5⟩ := put_ok k v r n (by omega) (by omega) hr s2
      have hz : sizeT t ≤ sizeT r + 1 := by rw [← rows_len, e3, ins_len, rows_len]; split <;> omega
      obtain ⟨u, f1, f2, f3, f4, f5, f6⟩ := level_ok (k := j) (x := x) (d := d) hl e2 (by omega) (by omega) (by omega)
      rw [e1, Option.bind_some]
      unfold F_tree_put_int_k1
      rw [f1, Option.bind_some]
      have q : ∀ a ∈ rowsT l, sltB a.k k = true := fun a ha => slt_trans (s3 a ha) c3
      refine ⟨u, by rw [rowsT, has_r q, hasR, if_pos c3], f2, by rw [f3, rowsT, ins_r q, insR, if_pos c3, e3], ?_, ?_⟩
      · by_cases g : deepT l ≤ deepT t + 1 ∧ deepT t ≤ deepT l + 1
        · rw [f6 g.1 g.2]; omega
        · omega
      · by_cases g : deepT l ≤ deepT t + 1 ∧ deepT t ≤ deepT l + 1
        · rw [f6 g.1 g.2]; omega
        · omega

theorem get_ok (k : ByteArray) : ∀ t : TT Int, Srt (rowsT t) → getT k t = getR k (rowsT t)
  | .nil, _ => rfl
  | .node j x d l r, hs => by
    obtain ⟨s1, s2, s3, s4⟩ := srt_app.1 hs
    simp only [getT, rowsT]
    by_cases c2 : seqB j k = true
    · rw [if_neg (by rw [c2]; decide)]
      obtain rfl := seqB_iff.1 c2
      rw [get_r s3, getR, if_neg (by rw [slt_irr]; decide), if_pos c2]
    have c2' : seqB j k = false := by simpa using c2
    rw [if_pos (by rw [c2']; decide)]
    by_cases c1 : sltB k j = true
    · rw [if_pos c1, get_ok k l s1, get_l (m := ⟨j, x⟩) c1]
    · have c3 : sltB j k = true := slt_tri (by simpa using c1) (seqB_false.2 fun e => seqB_false.1 c2' e.symm)
      rw [if_neg c1, get_ok k r s2, get_r (fun a ha => slt_trans (s3 a ha) c3), getR, if_pos c3]

end Go.Proofs.Ytfcdghlgcnjkoaa
