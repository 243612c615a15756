/- Many versions: the key that comes next; MvccPages' plain law. -/
import Derived.Test.YtfefmdllnjpmgaaYMWPages
import Derived.Test.YtfefmdllnjpmgaaYMLState
namespace Go.Proofs.Ytfefmdllnjpmgaa
theorem bl_nil (x : List UInt8) : Op.bytesLess x [] = false := by cases x <;> rfl

theorem bl_cons (a b : UInt8) (x y : List UInt8) : Op.bytesLess (a :: x) (b :: y) = (decide (a < b) || (a == b && Op.bytesLess x y)) := rfl

theorem bl_zero : ∀ (L M : List UInt8), Op.bytesLess M (L ++ [0]) = !Op.bytesLess L M
 | [], [] => rfl
 | [], m :: M => by
  rw [List.nil_append, bl_cons, bl_nil, Bool.and_false, Bool.or_false, decide_eq_false (by exact Nat.not_lt_zero _)]; rfl
 | a :: L, [] => rfl
 | a :: L, m :: M => by
  rw [List.cons_append, bl_cons, bl_cons, bl_zero L M]
  by_cases e : m = a
  ·subst e
   have : ¬ m < m := Nat.lt_irrefl _
   rw [decide_eq_false this, beq_self_eq_true, Bool.false_or, Bool.false_or, Bool.true_and, Bool.true_and]
  ·have e1 : (m == a) = false := beq_eq_false_iff_ne.2 e
   have e2 : (a == m) = false := beq_eq_false_iff_ne.2 fun h => e h.symm
   rw [e1, e2, Bool.false_and, Bool.false_and, Bool.or_false, Bool.or_false]
   by_cases c : m < a
   ·rw [decide_eq_true c, decide_eq_false (UInt8.lt_asymm c)]; rfl
   ·rw [decide_eq_false c, decide_eq_true (UInt8.lt_of_le_of_ne (UInt8.not_lt.1 c) fun h => e h.symm)]; rfl

theorem bl_full : ∀ (j : Nat) (M : List UInt8), M.length ≤ j → Op.bytesLess (List.replicate j 255) M = false
 | _, [], _ => bl_nil _
 | 0, m :: M, h => by simp at h
 | j + 1, m :: M, h => by
  rw [List.replicate_succ, bl_cons, bl_full j M (by simpa using h), Bool.and_false, Bool.or_false, decide_eq_false]
  exact UInt8.not_lt.2 (UInt8.le_iff_toNat_le.2 (by have := m.toNat_lt; show m.toNat ≤ 255; omega))

theorem bl_next {x y : UInt8} (hy : y.toNat = x.toNat + 1) (j : Nat) : ∀ (P M : List UInt8), M.length ≤ P.length + 1 + j → Op.bytesLess M (P ++ [y]) = !Op.bytesLess (P ++ x :: List.replicate j 255) M
 | [], [], _ => rfl
 | [], m :: M, h => by
  rw [List.nil_append, List.nil_append, bl_cons, bl_cons, bl_nil, bl_full j M (by simp at h; omega), Bool.and_false, Bool.and_false, Bool.or_false, Bool.or_false]
  by_cases c : x < m
  ·rw [decide_eq_true c, decide_eq_false]; · rfl
   have := UInt8.lt_iff_toNat_lt.1 c
   rw [UInt8.lt_iff_toNat_lt]; omega
  ·rw [decide_eq_false c, decide_eq_true]; · rfl
   rw [UInt8.lt_iff_toNat_lt] at c ⊢; omega
 | a :: P, [], _ => rfl
 | a :: P, m :: M, h => by
  rw [List.cons_append, List.cons_append, bl_cons, bl_cons, bl_next hy j P M (by simp at h; omega)]
  by_cases e : m = a
  ·subst e
   have : ¬ m < m := Nat.lt_irrefl _
   rw [decide_eq_false this, beq_self_eq_true, Bool.false_or, Bool.false_or, Bool.true_and, Bool.true_and]
  ·have e1 : (m == a) = false := beq_eq_false_iff_ne.2 e
   have e2 : (a == m) = false := beq_eq_false_iff_ne.2 fun h => e h.symm
   rw [e1, e2, Bool.false_and, Bool.false_and, Bool.or_false, Bool.or_false]
   by_cases c : m < a
   ·rw [decide_eq_true c, decide_eq_false (UInt8.lt_asymm c)]; rfl
   ·rw [decide_eq_false c, decide_eq_true (UInt8.lt_of_le_of_ne (UInt8.not_lt.1 c) fun h => e h.symm)]; rfl

def toI (l : List UInt8) : List Int := l.map fun b => (b.toNat : Int)

theorem strI_toI (l : List UInt8) : strI (toI l) = ⟨l.toArray⟩ := by
 unfold strI toI
 rw [List.map_map]
 congr 2
 refine (List.map_congr_left fun x _ => ?_).trans (List.map_id l)
 show UInt8.ofNat ((x.toNat : Int)).toNat = id x
 rw [Int.toNat_natCast]; exact UInt8.ofNat_toNat

theorem mkL (l : List UInt8) : (⟨l.toArray⟩ : ByteArray).toList = l := by rw [ByteArray.toList_eq]

theorem Next_loop : ∀ (R : List UInt8) (j n : Nat), R.length < n → R.length ≤ 8 → ∃ out, iter F_ref05_Next_l1 n (toI R.reverse) = some out ∧
  ((∀ M : List UInt8, M.length ≤ R.length + j → Op.bytesLess M out.toList = !Op.bytesLess (R.reverse ++ List.replicate j 255) M) ∨ (∀ M : List UInt8, M.length ≤ R.length + j → Op.bytesLess (R.reverse ++ List.replicate j 255) M = false))
 | [], j, n + 1, _, _ => by
  refine ⟨⟨#[]⟩, rfl, .inr fun M h => ?_⟩
  rw [List.reverse_nil, List.nil_append]
  exact bl_full j M (by simpa using h)
 | x :: r, j, n + 1, hn, h8 => by
  show ∃ out, F_ref05_Next_l1 (iter F_ref05_Next_l1 n) _ = _ ∧ _
  rw [List.length_cons] at hn h8
  have hl : (toI (x :: r).reverse).length = r.length + 1 := by simp [toI]
  have hb : toI (x :: r).reverse = toI r.reverse ++ [(x.toNat : Int)] := by simp [toI]
  have hr : (toI r.reverse).length = r.length := by simp [toI]
  have hx := x.toNat_lt
  have e1 : (((r.length + 1 : Nat) : Int) - 1).toNat = r.length := by omega
  have e2 : (toI (x :: r).reverse).getD r.length default = (x.toNat : Int) := by
   rw [hb, getD_lt (by simp [hr]), List.getElem_append_right (by omega)]; simp [hr]
  have hrep : (x :: r).reverse ++ List.replicate j 255 = r.reverse ++ x :: List.replicate j 255 := by simp
  unfold F_ref05_Next_l1
  dsimp only
  rw [hl, e1, e2, chk_t (fun _ => by unfold inI; omega), chk_t (fun _ => by omega), decide_eq_true (by omega), Bool.true_and]
  by_cases c : x = 255
  ·subst c
   rw [if_pos (by rfl), chk_t (by unfold inI; omega), chk_t (by omega)]
   obtain ⟨out, o1, o2⟩ := Next_loop r (j + 1) n (by omega) (by omega)
   have e3 : (toI (255 :: r).reverse).take r.length = toI r.reverse := by rw [hb, ← hr, List.take_left]
   rw [e3]
   refine ⟨out, o1, ?_⟩
   rw [List.replicate_succ] at o2
   rw [hrep, List.length_cons]
   rcases o2 with o2 | o2
   ·exact .inl fun M h => o2 M (by omega)
   ·exact .inr fun M h => o2 M (by omega)
  ·have hne : ¬ ((x.toNat : Int) == 255) = true := by
    rw [beq_iff_eq]
    intro h
    exact c (UInt8.toNat_inj.1 (by show x.toNat = 255; omega))
   have hlt : x.toNat < 255 := by
    have : ¬ x.toNat = 255 := fun h => c (UInt8.toNat_inj.1 h)
    omega
   rw [if_neg hne, if_neg (by rw [beq_iff_eq]; omega), chk_t (by unfold inI; omega), chk_t (by omega), chk_t (by unfold inB; omega), chk_t (by omega)]
   have e3 : (toI (x :: r).reverse).set r.length ((x.toNat : Int) + 1) = toI (r.reverse ++ [UInt8.ofNat (x.toNat + 1)]) := by
    have hy : (UInt8.ofNat (x.toNat + 1)).toNat = x.toNat + 1 := by rw [UInt8.toNat_ofNat']; exact Nat.mod_eq_of_lt (by omega)
    rw [hb, ← hr, List.set_append_right _ _ (by omega), Nat.sub_self]
    show toI r.reverse ++ [(x.toNat : Int) + 1] = _
    unfold toI
    rw [List.map_append, List.map_cons, List.map_nil, hy]; rfl
   have hy : (UInt8.ofNat (x.toNat + 1)).toNat = x.toNat + 1 := by rw [UInt8.toNat_ofNat']; exact Nat.mod_eq_of_lt (by omega)
   rw [e3, strI_toI]
   refine ⟨_, rfl, .inl fun M h => ?_⟩
   rw [mkL, hrep]
   exact bl_next hy j r.reverse M (by rw [List.length_reverse]; rw [List.length_cons] at h; omega)

theorem toList_len (k : ByteArray) : k.toList.length = k.size := by rw [ByteArray.toList_eq, Array.length_toList]; rfl

theorem Next_ok (k : ByteArray) (hk : bdK k) : ∃ n, F_ref05_Next k = some n ∧ ((∀ j : ByteArray, j.size ≤ 8 → sltB j n = !sltB k j) ∨ (∀ j : ByteArray, j.size ≤ 8 → sltB k j = false)) := by
 obtain ⟨h1, h8⟩ := hk
 unfold F_ref05_Next
 by_cases c : k.size < 8
 ·rw [if_pos (decide_eq_true (by omega)), chk_t (by have : (strI [0]).size = 1 := rfl; unfold maxLen; omega)]
  refine ⟨_, rfl, .inl fun j _ => ?_⟩
  unfold sltB
  have : (k ++ strI [0]).toList = k.toList ++ [0] := by
   rw [ByteArray.toList_eq, ByteArray.toList_eq]
   show (k ++ strI [0]).data.toList = _
   rw [ByteArray.data_append, Array.toList_append]; rfl
  rw [this]
  exact bl_zero _ _
 ·have hs : k.size = 8 := by omega
  rw [if_neg (by rw [decide_eq_false (by omega)]; decide), chk_t (by omega)]
  have e : k.extract 0 ((8 : Int).toNat) = k := by
   show k.extract 0 8 = k
   rw [← hs]; exact ByteArray.extract_zero_size
  rw [e, chk_t (by omega)]
  have hb : bytesI k = toI k.toList.reverse.reverse := by rw [List.reverse_reverse, ByteArray.toList_eq]; rfl
  rw [hb]
  have hl := toList_len k
  obtain ⟨out, o1, o2⟩ := Next_loop k.toList.reverse 0 FU (by rw [List.length_reverse]; unfold FU; omega) (by rw [List.length_reverse]; omega)
  refine ⟨out, o1, ?_⟩
  simp only [List.reverse_reverse, List.replicate_zero, List.append_nil, List.length_reverse, Nat.add_zero] at o2
  rcases o2 with o2 | o2
  ·exact .inl fun j hj => o2 _ (by rw [toList_len, hl, hs]; exact hj)
  ·exact .inr fun j hj => o2 _ (by rw [toList_len, hl, hs]; exact hj)

-- pages
theorem view_next {t : Int} {f to_ q n : ByteArray} {rows : List Rw} (hk : ∀ r ∈ rows, bdK r.k) (hn : ∀ j : ByteArray, j.size ≤ 8 → sltB j n = !sltB q j) (hq : sltB q f = false) : viewR n to_ t rows = (viewR f to_ t rows).filter fun p => sltB q p.key := by
 unfold viewR
 rw [← List.filterMap_eq_filter, List.filterMap_filterMap]
 refine fm_congr fun r hr => ?_
 have h1 := hn r.k (hk r hr).2
 unfold visR inR
 rw [h1, Bool.not_not]
 by_cases v : (atL r.l t).2 = true
 ·rw [v, Bool.true_and, Bool.true_and]
  by_cases g : sltB q r.k = true
  ·have hf : sltB r.k f = false := by
    cases e : sltB r.k f with
    | false => rfl
    | true => rw [slt_trans g e] at hq; cases hq
   rw [g, hf, Bool.true_and, show (!false) = true from rfl, Bool.true_and]
   split
   ·rw [Option.bind_some]
    unfold Option.guard; rw [if_pos (by exact g)]
   ·rfl
  ·have g' : sltB q r.k = false := by simpa using g
   rw [g', Bool.false_and, if_neg (by decide)]
   split
   ·rw [Option.bind_some]
    unfold Option.guard; rw [if_neg (by exact g)]
   ·rfl
 ·have v' : (atL r.l t).2 = false := by simpa using v
  rw [v', Bool.false_and, Bool.false_and, if_neg (by decide)]; rfl

theorem srt_drop {W : List EPair} (hs : SrtP W) {m : Nat} (h0 : 0 < m) (hm : m ≤ W.length) : (W.filter fun p => sltB (W.getD (m - 1) default).key p.key) = W.drop m := by
 have hget : ∀ i j (hi : i < j) (hj : j < W.length), sltB (W[i]'(by omega)).key W[j].key = true := fun i j hi hj => List.pairwise_iff_getElem.1 hs i j (by omega) hj hi
 have hq : W.getD (m - 1) default = W[m - 1] := getD_lt (by omega)
 have hA : ∀ i (hi : i < W.length), i < m → sltB (W.getD (m - 1) default).key W[i].key = false := fun i hi him => by
  rw [hq]
  by_cases e : i = m - 1
  ·subst e; exact slt_irr _
  ·exact slt_asym (hget i (m - 1) (by omega) (by omega))
 have hB : ∀ i (hi : i < W.length), m ≤ i → sltB (W.getD (m - 1) default).key W[i].key = true := fun i hi him => by rw [hq]; exact hget (m - 1) i (by omega) hi
 generalize (W.getD (m - 1) default).key = q at *
 have e1 : (W.filter fun p => sltB q p.key) = ((W.take m ++ W.drop m).filter fun p => sltB q p.key) := by rw [List.take_append_drop]
 rw [e1, List.filter_append, List.filter_eq_nil_iff.2, List.filter_eq_self.2, List.nil_append]
 ·intro p hp
  obtain ⟨i, hi, rfl⟩ := List.getElem_of_mem hp
  rw [List.length_drop] at hi
  rw [List.getElem_drop]
  exact hB (m + i) (by omega) (by omega)
 ·intro p hp
  obtain ⟨i, hi, rfl⟩ := List.getElem_of_mem hp
  rw [List.length_take] at hi
  rw [List.getElem_take, hA i (by omega) (by omega)]
  decide

theorem iter_succ {σ R : Type} (b : (σ → Option R) → σ → Option R) (n : Nat) (s : σ) : iter b (n + 1) s = b (iter b n) s := rfl

theorem Pages_l2 {s : Emvcc_Store} {T : Etree_Tree_api_Cell} {rows : List Rw} (h : mvOk s T rows) (hc : cellsR rows ≤ 120) {t : Int} {to_ k : ByteArray} {n0 : Int} (hn0 : inB n0) {v : List EPair × Bool × Emvcc_Store} (hv : v.1 = viewR k to_ t rows) :
  ∀ (n i : Nat) (got : List EPair) (from_ : ByteArray), i ≤ got.length → got ++ viewR from_ to_ t rows = viewR k to_ t rows → 200 - i < n → iter (F_law16_MvccPages_l2 t to_ n0 v) n (got, from_, (i : Int), s) = some true
 | 0, i, _, _, _, _, h => by omega
 | n + 1, i, got, from_, hi, hg, hn => by
  rw [iter_succ]
  have hz : cellsR rows < big := by unfold big; omega
  have hrc := rows_cells h.r
  have hvl := view_len k to_ t rows
  have hW := view_len from_ to_ t rows
  have hgl := congrArg List.length hg
  rw [List.length_append] at hgl
  have hsz : ∃ m : Nat, 1 + n0.tmod 5 = (m : Int) ∧ 1 ≤ m ∧ m ≤ 5 := by
   rw [Int.tmod_eq_emod_of_nonneg hn0.1]
   have a1 := Int.emod_nonneg n0 (show (5 : Int) ≠ 0 by decide)
   have a2 := Int.emod_lt_of_pos n0 (show (0 : Int) < 5 by decide)
   exact ⟨(1 + n0 % 5).toNat, by omega, by omega, by omega⟩
  obtain ⟨m, em, m1, m5⟩ := hsz
  generalize e0 : iter (F_law16_MvccPages_l2 t to_ n0 v) n = rc
  unfold F_law16_MvccPages_l2
  dsimp only
  rw [em, if_pos (decide_eq_true (by omega)), mv_Scan h hz, Option.bind_some]
  dsimp only
  rw [toNat_cast]
  have htl : ((viewR from_ to_ t rows).take m).length = min m (viewR from_ to_ t rows).length := List.length_take
  rw [chk_t (by omega)]
  by_cases c : m < (viewR from_ to_ t rows).length
  ·rw [decide_eq_true c, if_neg (by decide), htl, if_neg (by rw [bne_iff_ne]; omega), chk_t (by unfold inI; omega), chk_t (by omega)]
   have e1 : (((min m (viewR from_ to_ t rows).length : Nat) : Int) - 1).toNat = m - 1 := by omega
   have e2 : ((viewR from_ to_ t rows).take m).getD (m - 1) default = (viewR from_ to_ t rows).getD (m - 1) default := by
    rw [getD_lt (by omega), getD_lt (by omega), List.getElem_take]
   rw [e1, e2]
   have hin : (viewR from_ to_ t rows).getD (m - 1) default ∈ viewR from_ to_ t rows := by rw [getD_lt (by omega)]; exact List.getElem_mem _
   have hin2 : (viewR from_ to_ t rows).getD m default ∈ viewR from_ to_ t rows := by rw [getD_lt c]; exact List.getElem_mem _
   have hup : sltB ((viewR from_ to_ t rows).getD (m - 1) default).key ((viewR from_ to_ t rows).getD m default).key = true := by
    rw [getD_lt (by omega), getD_lt c]; exact List.pairwise_iff_getElem.1 (view_srt h.srt) (m - 1) m (by omega) c (by omega)
   obtain ⟨r, r1, r2⟩ := List.mem_filterMap.1 hin
   obtain ⟨r', r1', r2'⟩ := List.mem_filterMap.1 hin2
   obtain ⟨k1, _, k3⟩ := vis_key r2
   obtain ⟨k1', _, _⟩ := vis_key r2'
   obtain ⟨nx, x1, x2⟩ := Next_ok ((viewR from_ to_ t rows).getD (m - 1) default).key (by rw [k1]; exact (h.r r r1).k)
   rw [x1, Option.bind_some, chk_t (by unfold inI; omega), ← e0]
   rcases x2 with x2 | x2
   ·have hf : sltB ((viewR from_ to_ t rows).getD (m - 1) default).key from_ = false := by
     rw [k1]
     unfold inR at k3
     rw [Bool.and_eq_true] at k3
     simpa using k3.1
    have hnext := view_next (t := t) (to_ := to_) (fun r hr => (h.r r hr).k) x2 hf
    rw [srt_drop (view_srt h.srt) m1 (by omega)] at hnext
    refine Pages_l2 h hc hn0 hv n (i + 1) _ _ (by rw [List.length_append, htl]; omega) ?_ (by omega)
    rw [hnext, List.append_assoc, List.take_append_drop]; exact hg
   ·rw [x2 _ (by rw [k1']; exact (h.r r' r1').k.2)] at hup; cases hup
  ·rw [decide_eq_false c, if_pos (by rfl), List.take_of_length_le (by omega), hg, hv, samePairs_refl _ (by unfold big; omega), Option.bind_some, gif_true, awake16]
   rfl

theorem pure_MvccPages (first : List Elaw16_Act) (t : Int) (k to_ : ByteArray) (n0 : Int) (hb : bdSl bdElaw16_Act first) (ht : inU t) (_ : bdStr k) (_ : bdStr to_) (hn0 : inB n0) : F_law16_MvccPages first t k to_ n0 = some true := by
 unfold F_law16_MvccPages
 obtain ⟨b1, h1⟩ := few_some first
 rw [h1, Option.bind_some]
 by_cases c0 : (!b1) = true
 ·rw [if_pos c0, awake16]; rfl
 rw [if_neg c0, mvNew, Option.bind_some]
 have loop : ∀ (n i : Nat) (s : Emvcc_Store) (T : Etree_Tree_api_Cell) (rs : List Rw), i ≤ 30 → 30 - i < n → mvOk s T rs → cellsR rs ≤ 4 * i → iter (F_law16_MvccPages_l1 first t k to_ n0) n ((i : Int), s) = some true := by
  intro n
  induction n with
  | zero => intro i _ _ _ _ h; omega
  | succ n ih =>
   intro i s T rs hi hn h hc
   show F_law16_MvccPages_l1 first t k to_ n0 (iter (F_law16_MvccPages_l1 first t k to_ n0) n) ((i : Int), s) = some true
   have hz : cellsR rs + 4 < big := by unfold big; omega
   generalize e0 : iter (F_law16_MvccPages_l1 first t k to_ n0) n = rc
   unfold F_law16_MvccPages_l1
   dsimp only
   by_cases c : i < first.length ∧ i < 30
   ·rw [if_pos (by rw [decide_eq_true (show (i : Int) < (first.length : Int) by omega), decide_eq_true (show (i : Int) < 30 by omega)]; rfl), chk_t (by omega), chk_t (by omega), toNat_cast]
    have hb1 : bdElaw16_Act (first.getD i default) := hb.2 i c.1
    obtain ⟨e, s', T', e1, _, e2, e3, e4⟩ := mv_Put h (first.getD i default).t hb1.t.1 (first.getD i default).ops hz
    rw [e1, Option.bind_some, chk_t (by unfold inI; omega), ← e0]
    refine ih (i + 1) s' T' _ (by omega) (by omega) e2 ?_
    split
    ·rename_i q
     obtain ⟨_, u2, _⟩ := e4 q
     have hpc := put_cells (first.getD i default).t (first.getD i default).ops rs
     omega
    ·omega
   ·have hrc := rows_cells h.r
    have hvl := view_len k to_ t rs
    have e1000 : (1000 : Int).toNat = 1000 := rfl
    rw [if_neg (by
     intro e
     rw [Bool.and_eq_true] at e
     have e1 := of_decide_eq_true e.1; have e2 := of_decide_eq_true e.2
     omega), mv_Scan h (by omega), Option.bind_some, e1000, List.take_of_length_le (by omega)]
    have hb0 := hn0
    unfold inB at hb0
    rw [chk_t (by unfold inI; omega), chk_t (by rw [Int.tmod_eq_emod_of_nonneg hb0.1]; have a1 := Int.emod_nonneg n0 (show (5 : Int) ≠ 0 by decide); have a2 := Int.emod_lt_of_pos n0 (show (0 : Int) < 5 by decide); unfold inI; omega)]
    exact Pages_l2 h (by omega) hn0 rfl FU 0 [] k (Nat.le_refl _) rfl (by unfold FU; omega)
 exact loop FU 0 newS newT [] (by omega) (by unfold FU; omega) mvNew_ok (Nat.le_refl _)

end Go.Proofs.Ytfefmdllnjpmgaa
