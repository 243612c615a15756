/- Trees: TreeOrder. -/
import Derived.Test.YtfcdghlgcnjkoaaYTreeP5
import Derived.Test.YtfcdghlgcnjkoaaYTreeS
namespace Go.Proofs.Ytfcdghlgcnjkoaa

def szR (k : ByteArray) : Rw := ⟨k, (k.size : Int)⟩

def okV (l : List Rw) : Prop := ∀ x ∈ l, x = szR x.k

theorem mem_ins {k : ByteArray} : ∀ {l : List Rw}, okV l → ∀ x, x ∈ insR k (k.size : Int) l ↔ x = szR k ∨ x ∈ l
 | [], _, x => by simp only [insR, List.mem_singleton, List.not_mem_nil, or_false]; rfl
 | r :: l, h, x => by
  have hr := h r (by simp)
  by_cases c : sltB r.k k = true
  ·rw [show insR k (k.size : Int) (r :: l) = r :: insR k (k.size : Int) l from if_pos c, List.mem_cons, mem_ins (fun y hy => h y (by simp [hy])), List.mem_cons]
   constructor
   ·rintro (h1 | h1 | h1)
    ·exact .inr (.inl h1)
    ·exact .inl h1
    ·exact .inr (.inr h1)
   ·rintro (h1 | h1 | h1)
    ·exact .inr (.inl h1)
    ·exact .inl h1
    ·exact .inr (.inr h1)
  ·by_cases c2 : seqB r.k k = true
   ·obtain rfl := seqB_iff.1 c2
    rw [show insR r.k (r.k.size : Int) (r :: l) = _ from if_neg c, if_pos c2, List.mem_cons, List.mem_cons]
    constructor
    ·rintro (h1 | h1)
     ·exact .inl h1
     ·exact .inr (.inr h1)
    ·rintro (h1 | h1 | h1)
     ·exact .inl h1
     ·exact .inl (h1.trans hr)
     ·exact .inr h1
   ·rw [show insR k (k.size : Int) (r :: l) = _ from if_neg c, if_neg c2, List.mem_cons]; rfl

theorem ok_ins {k : ByteArray} {l : List Rw} (h : okV l) : okV (insR k (k.size : Int) l) := fun x hx => by
 rcases (mem_ins h x).1 hx with rfl | hx
 ·rfl
 ·exact h x hx

theorem srt_ext : ∀ {a b : List Rw}, Srt a → Srt b → (∀ x, x ∈ a ↔ x ∈ b) → a = b
 | [], [], _, _, _ => rfl
 | [], b :: B, _, _, h => by have := (h b).2 (by simp); cases this
 | a :: A, [], _, _, h => by have := (h a).1 (by simp); cases this
 | a :: A, b :: B, ha, hb, h => by
  obtain ⟨a1, a2⟩ := List.pairwise_cons.1 ha
  obtain ⟨b1, b2⟩ := List.pairwise_cons.1 hb
  have e : a = b := by
   rcases List.mem_cons.1 ((h a).1 (by simp)) with e | e
   ·exact e
   ·rcases List.mem_cons.1 ((h b).2 (by simp)) with e2 | e2
    ·exact e2.symm
    ·exact absurd (slt_trans (a1 b e2) (b1 a e)) (by rw [slt_irr]; decide)
  subst e
  rw [srt_ext a2 b2 fun x => ?_]
  constructor
  ·intro hx
   rcases List.mem_cons.1 ((h x).1 (by simp [hx])) with rfl | hx2
   ·exact absurd (a1 x hx) (by rw [slt_irr]; decide)
   ·exact hx2
  ·intro hx
   rcases List.mem_cons.1 ((h x).2 (by simp [hx])) with rfl | hx2
   ·exact absurd (b1 x hx) (by rw [slt_irr]; decide)
   ·exact hx2

theorem get_mem : ∀ {l : List Rw} {x : Rw}, Srt l → x ∈ l → getR x.k l = (x.v, true)
 | [], _, _, h => by cases h
 | r :: l, x, hs, h => by
  obtain ⟨h1, h2⟩ := List.pairwise_cons.1 hs
  rcases List.mem_cons.1 h with rfl | h
  ·rw [show getR x.k (x :: l) = _ from if_neg (by rw [slt_irr]; decide), if_pos (seqB_iff.2 rfl)]
  ·rw [show getR x.k (r :: l) = _ from if_pos (h1 x h), get_mem h2 h]

theorem slt_nil (k : ByteArray) : sltB k ⟨#[]⟩ = false := by
 unfold sltB
 rw [show (⟨#[]⟩ : ByteArray).toList = [] from by rw [ByteArray.toList_eq]]
 cases k.toList <;> rfl

theorem keys_all (l : List Rw) : keysR ⟨#[]⟩ ⟨#[]⟩ l = l.map (·.k) := by
 unfold keysR inR
 rw [List.filter_eq_self.2 fun x _ => by rw [slt_nil, seqB_iff.2 rfl]; rfl]

-- the document's set of keys
def addA (L : List ByteArray) : List Rw := L.foldl (fun r k => insR k (k.size : Int) r) []

theorem addA_snoc (L : List ByteArray) (k : ByteArray) : addA (L ++ [k]) = insR k (k.size : Int) (addA L) := by unfold addA; rw [List.foldl_append]; rfl

theorem addA_ok (L : List ByteArray) : Srt (addA L) ∧ okV (addA L) ∧ (addA L).length ≤ L.length ∧ ∀ x, x ∈ addA L ↔ ∃ k ∈ L, x = szR k := by
 generalize hn : L.length = n
 induction n generalizing L with
 | zero =>
  obtain rfl := List.eq_nil_of_length_eq_zero hn
  exact ⟨List.Pairwise.nil, (fun x hx => (by cases hx)), Nat.le_refl _, (fun x => ⟨fun h => (by cases h), fun ⟨k, h, _⟩ => (by cases h)⟩)⟩
 | succ n ih =>
  have e : L = L.take n ++ [L.getD n default] := by rw [← take_snoc (by omega), List.take_of_length_le (by omega)]
  obtain ⟨h1, h2, h3, h4⟩ := ih (L.take n) (by rw [List.length_take]; omega)
  rw [e, addA_snoc]
  refine ⟨ins_srt h1, ok_ins h2, by rw [ins_len]; split <;> omega, fun x => ?_⟩
  rw [mem_ins h2, h4]
  constructor
  ·rintro (h | ⟨k, hk, h⟩)
   ·exact ⟨_, by simp, h⟩
   ·exact ⟨k, List.mem_append_left _ hk, h⟩
  ·rintro ⟨k, hk, h⟩
   rcases List.mem_append.1 hk with hk | hk
   ·exact .inr ⟨k, hk, h⟩
   ·rw [List.mem_singleton] at hk; subst hk; exact .inl h

theorem ins_keys {k : ByteArray} {v : Int} : ∀ {l : List Rw}, hasR k l = true → (insR k v l).map (·.k) = l.map (·.k)
 | [], h => by cases h
 | r :: l, h => by
  by_cases c : sltB r.k k = true
  ·rw [has_t c] at h
   rw [show insR k v (r :: l) = r :: insR k v l from if_pos c, List.map_cons, ins_keys h]; rfl
  ·rw [has_f c] at h
   rw [show insR k v (r :: l) = _ from if_neg c, if_pos h]; rfl

theorem keys_at {l : List Rw} {j : Nat} (h : j < l.length) : (l.map (·.k)).getD j default = (l.getD j default).k := by
 rw [getD_lt h, getD_lt (by rw [List.length_map]; exact h), List.getElem_map]

theorem Set_l3 {l : List ByteArray} {r : List Rw} {i : Nat} {rc : List ByteArray × Int → Option (List ByteArray)} {res : Option (List ByteArray)} (hi : i < l.length) (hl : l.length ≤ big) (hr : r.length ≤ l.length)
  (hrc : rc ((insR (l.getD i default) ((l.getD i default).size : Int) r).map (·.k), (i : Int) + 1) = res) : iter (F_ref05_Set_l3 l (r.map (·.k)) (i : Int) rc) FU 0 = res := by
 have hp := pos_le (k := l.getD i default) r
 unfold big at hl
 refine iter_up (posR (l.getD i default) r) (fun _ => res) (by unfold bdM; omega) fun rc2 j hj hrc2 => ?_
 simp only [F_ref05_Set_l3, toNat_cast, F_ref05_Set_k2, List.length_map]
 rw [chk_t (by intro hh; have := of_decide_eq_true hh; omega), chk_t (by intro hh; omega)]
 by_cases c : j < posR (l.getD i default) r
 ·have c2 : j < r.length := by omega
  rw [if_pos (by rw [decide_eq_true (by omega), keys_at c2, pos_lt r j c]; rfl), chk_t (by unfold inI; omega)]
  exact hrc2 c
 ·obtain rfl : j = posR (l.getD i default) r := by omega
  rw [if_neg (by
   by_cases c2 : posR (l.getD i default) r < r.length
   ·rw [keys_at c2, (pos_at r c2).1, Bool.and_false]; decide
   ·rw [decide_eq_false (by omega), Bool.false_and]; decide), chk_t (by intro hh; have := of_decide_eq_true hh; omega), chk_t (by intro hh; omega)]
  by_cases ch : hasR (l.getD i default) r = true
  ·have c2 := has_pos ch
   rw [if_pos (by rw [decide_eq_true (by omega), keys_at c2, ← (pos_at r c2).2, ch]; rfl), chk_t (by unfold inI; omega), ← hrc, ins_keys ch]
  ·have ch' : hasR (l.getD i default) r = false := by simpa using ch
   rw [if_neg (by
    by_cases c2 : posR (l.getD i default) r < r.length
    ·rw [keys_at c2, ← (pos_at r c2).2, ch', Bool.and_false]; decide
    ·rw [decide_eq_false (by omega), Bool.false_and]; decide), chk_t (by omega), chk_t (by omega), chk_t (by simp only [List.length_nil, List.length_take, List.length_map]; omega), chk_t (by omega),
    chk_t (by simp only [List.length_append, List.length_cons, List.length_nil, List.length_take, List.length_map]; omega), chk_t (by omega), chk_t (by simp only [List.length_append, List.length_cons, List.length_nil, List.length_take, List.length_drop, List.length_map]; omega), chk_t (by unfold inI; omega), ← hrc, ins_new r ch']
   simp only [List.nil_append, List.map_append, List.map_cons, List.map_take, List.map_drop, List.append_assoc, List.cons_append]

theorem Set_eq (l : List ByteArray) (hl : l.length ≤ big) : F_ref05_Set l = some ((addA l).map (·.k)) := by
 unfold F_ref05_Set
 have hl2 := hl
 unfold big at hl2
 refine (iter_rule (fun s : List ByteArray × Int => l.length - s.2.toNat) (fun _ => some ((addA l).map (·.k))) (fun s => 0 ≤ s.2 ∧ s.2 ≤ (l.length : Int) ∧ s.1 = (addA (l.take s.2.toNat)).map (·.k)) ?_ FU (([] : List ByteArray), (0 : Int)) ⟨by simp, by simp, by rfl⟩ (by unfold FU; simp only; omega))
 rintro rc ⟨o, i⟩ ⟨h1, h2, h3⟩ hrc
 simp only at h1 h2 h3 hrc
 obtain ⟨j, rfl⟩ := Int.eq_ofNat_of_zero_le h1
 rw [toNat_cast] at h3
 simp only [F_ref05_Set_l1]
 by_cases c : j < l.length
 ·rw [if_pos (decide_eq_true (by omega)), h3]
  have ha := (addA_ok (l.take j)).2.2.1
  rw [List.length_take] at ha
  refine Set_l3 c hl (by omega) ?_
  refine hrc (_, (j : Int) + 1) ⟨by simp only; omega, by simp only; omega, ?_⟩ (by simp only [toNat_cast1, toNat_cast]; omega)
  simp only [toNat_cast1]
  rw [take_snoc (d := default) c, addA_snoc]
 ·rw [if_neg (by rw [decide_eq_false (by omega)]; decide), h3, List.take_of_length_le (by omega)]

-- TreeOrder
theorem TreeOrder_l2 (l : List ByteArray) (from_ to_ : ByteArray) {t u : Etree_Tree_int} (ht : trOk t) (hu : trOk u) (e : rowsT u.top = rowsT t.top) (e2 : rowsT t.top = addA (l.take (min l.length 60))) :
  iter (F_law15_TreeOrder_l2 l from_ to_ t u) FU 0 = some true := by
 obtain ⟨a1, a2, a3, a4⟩ := addA_ok (l.take (min l.length 60))
 have hn : min (l.length : Int) 60 = ((min l.length 60 : Nat) : Int) := by omega
 have hlt : (l.take (min l.length 60)).length = min l.length 60 := by rw [List.length_take]; omega
 have hb : (rowsT t.top).length < big := by rw [e2]; unfold big; omega
 have hb2 : (rowsT u.top).length < big := by rw [e]; exact hb
 refine iter_up (min l.length 60) (fun _ => some true) (by unfold bdM; omega) fun rc i hi hrc => ?_
 simp only [F_law15_TreeOrder_l2, toNat_cast, hn]
 by_cases c : i < min l.length 60
 ·have c2 : i < l.length := by omega
  have hm : szR (l.getD i default) ∈ rowsT t.top := by
   rw [e2, a4]
   refine ⟨l.getD i default, ?_, rfl⟩
   rw [getD_lt c2]
   exact List.mem_iff_getElem.2 ⟨i, by rw [hlt]; exact c, List.getElem_take⟩
  have hg : getR (l.getD i default) (rowsT t.top) = (((l.getD i default).size : Int), true) := get_mem (x := szR (l.getD i default)) ht.srt hm
  rw [if_pos (decide_eq_true (by omega)), chk_t (by omega), tree_Get ht, Option.bind_some, hg, chk_t (by omega), if_neg (by simp), chk_t (by unfold inI; omega)]
  exact hrc c
 ·have hk : (keysR from_ to_ (rowsT t.top)).length ≤ big := Nat.le_trans (keys_len _ _ _) (by omega)
  rw [if_neg (by rw [decide_eq_false (by omega)]; decide), chk_t (by omega), tree_Len ht, Option.bind_some, tree_Len hu, Option.bind_some, e]
  simp only [beq_self_eq_true, gif_true, cond_true]
  rw [tree_Keys ht hb, Option.bind_some, tree_Keys hu hb2, Option.bind_some, e]
  simp only []
  rw [same_refl _ hk, Option.bind_some]
  simp only [Bool.and_true, gif_true, cond_true]
  rw [tree_Keys ht hb, Option.bind_some, chk_t (by omega), Set_eq _ (by rw [hlt]; unfold big; omega), Option.bind_some, keys_all, e2, same_refl _ (by rw [List.length_map]; unfold big; omega), Option.bind_some, show (true && true) = true from rfl, gif_true, awake15]
  rfl

theorem pure_TreeOrder (l : List ByteArray) (from_ to_ : ByteArray) (_ : bdSl bdStr l) (_ : bdStr from_) (_ : bdStr to_) : F_law15_TreeOrder l from_ to_ = some true := by
 unfold F_law15_TreeOrder
 rw [new_eq, Option.bind_some, Option.bind_some]
 have hn : min (l.length : Int) 60 = ((min l.length 60 : Nat) : Int) := by omega
 refine iter_up2 (min l.length 60) (fun _ _ => some true) (fun k s => (trOk s.1 ∧ okV (rowsT s.1.top) ∧ (rowsT s.1.top).length ≤ k ∧ ∀ x, x ∈ rowsT s.1.top ↔ ∃ j, j < k ∧ x = szR (l.getD j default)) ∧
  (trOk s.2 ∧ okV (rowsT s.2.top) ∧ (rowsT s.2.top).length ≤ k ∧ ∀ x, x ∈ rowsT s.2.top ↔ ∃ j, min l.length 60 - k ≤ j ∧ j < min l.length 60 ∧ x = szR (l.getD j default))) (by unfold bdM; omega) (s0 := (newT, newT))
  ⟨⟨new_ok, fun x hx => (by cases hx), Nat.le_refl _, fun x => ⟨fun h => (by cases h), fun ⟨j, h, _⟩ => (by omega)⟩⟩, ⟨new_ok, fun x hx => (by cases hx), Nat.le_refl _, fun x => ⟨fun h => (by cases h), fun ⟨j, h, h2, _⟩ => (by omega)⟩⟩⟩ fun rc k s hk hp hrc => ?_
 obtain ⟨t, u⟩ := s
 obtain ⟨⟨t1, t2, t3, t4⟩, ⟨u1, u2, u3, u4⟩⟩ := hp
 simp only at t1 t2 t3 t4 u1 u2 u3 u4
 simp only [F_law15_TreeOrder_l1, toNat_cast, hn]
 by_cases c : k < min l.length 60
 ·have c2 : k < l.length := by omega
  have hx : (((min l.length 60 : Nat) : Int) - 1 - (k : Int)).toNat = min l.length 60 - 1 - k := by omega
  rw [if_pos (decide_eq_true (by omega)), chk_t (by omega), chk_t (by omega), hx]
  obtain ⟨t', e1, e2, e3⟩ := tree_Put t1 (by unfold big; omega) (l.getD k default) ((l.getD k default).size : Int)
  obtain ⟨u', f1, f2, f3⟩ := tree_Put u1 (by unfold big; omega) (l.getD (min l.length 60 - 1 - k) default) ((l.getD (min l.length 60 - 1 - k) default).size : Int)
  rw [e1, Option.bind_some, chk_t (by unfold inI; omega), chk_t (by unfold inI; omega), chk_t (by omega), chk_t (by unfold inI; omega), chk_t (by unfold inI; omega), chk_t (by omega), f1, Option.bind_some, chk_t (by unfold inI; omega)]
  have hl1 := ins_len (k := l.getD k default) (v := ((l.getD k default).size : Int)) (rowsT t.top)
  have hl2 := ins_len (k := l.getD (min l.length 60 - 1 - k) default) (v := ((l.getD (min l.length 60 - 1 - k) default).size : Int)) (rowsT u.top)
  rw [← e3] at hl1
  rw [← f3] at hl2
  refine hrc (t', u') c ⟨⟨e2, by rw [e3]; exact ok_ins t2, by show (rowsT t'.top).length ≤ k + 1; split at hl1 <;> omega, fun x => ?_⟩, ⟨f2, by rw [f3]; exact ok_ins u2, by show (rowsT u'.top).length ≤ k + 1; split at hl2 <;> omega, fun x => ?_⟩⟩
  ·show x ∈ rowsT t'.top ↔ _
   rw [e3, mem_ins t2, t4]
   constructor
   ·rintro (h | ⟨j, hj, h⟩)
    ·exact ⟨k, by omega, h⟩
    ·exact ⟨j, by omega, h⟩
   ·rintro ⟨j, hj, h⟩
    by_cases ej : j = k
    ·subst ej; exact .inl h
    ·exact .inr ⟨j, by omega, h⟩
  ·show x ∈ rowsT u'.top ↔ _
   rw [f3, mem_ins u2, u4]
   constructor
   ·rintro (h | ⟨j, hj, hj2, h⟩)
    ·exact ⟨min l.length 60 - 1 - k, by omega, by omega, h⟩
    ·exact ⟨j, by omega, hj2, h⟩
   ·rintro ⟨j, hj, hj2, h⟩
    by_cases ej : j = min l.length 60 - 1 - k
    ·subst ej; exact .inl h
    ·exact .inr ⟨j, by omega, hj2, h⟩
 ·obtain rfl : k = min l.length 60 := by omega
  rw [if_neg (by rw [decide_eq_false (by omega)]; decide)]
  obtain ⟨a1, a2, a3, a4⟩ := addA_ok (l.take (min l.length 60))
  refine TreeOrder_l2 l from_ to_ t1 u1 (srt_ext u1.srt t1.srt fun x => ?_) (srt_ext t1.srt a1 fun x => ?_)
  ·rw [t4, u4]
   constructor
   ·rintro ⟨j, _, h2, h3⟩; exact ⟨j, h2, h3⟩
   ·rintro ⟨j, h2, h3⟩; exact ⟨j, by omega, h2, h3⟩
  ·rw [t4, a4]
   constructor
   ·rintro ⟨j, h2, h3⟩
    refine ⟨l.getD j default, ?_, h3⟩
    rw [getD_lt (show j < l.length by omega)]
    exact List.mem_iff_getElem.2 ⟨j, by rw [List.length_take]; omega, List.getElem_take⟩
   ·rintro ⟨k, hk, h3⟩
    obtain ⟨j, hj, rfl⟩ := List.mem_iff_getElem.1 hk
    rw [List.length_take] at hj
    refine ⟨j, by omega, ?_⟩
    rw [getD_lt (show j < l.length by omega), h3, List.getElem_take]

end Go.Proofs.Ytfcdghlgcnjkoaa
