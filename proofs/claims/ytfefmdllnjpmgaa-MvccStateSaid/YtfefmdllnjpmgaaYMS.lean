/- Many versions: the program's store, by its rows. -/
import Derived.Test.YtfefmdllnjpmgaaYMV
import Derived.Test.YtfefmdllnjpmgaaYOpsC
namespace Go.Proofs.Ytfefmdllnjpmgaa

def bdK (k : ByteArray) : Prop := 1 ≤ k.size ∧ k.size ≤ 8

/-- a row -/
structure okR (m : Int) (r : Rw) : Prop where
 l : okL m r.l
 ne : r.l ≠ []
 k : bdK r.k

def cellsR (rows : List Rw) : Nat := (rows.map (·.l.length)).sum

structure mvOk (s : Emvcc_Store) (T : Etree_Tree_api_Cell) (rows : List Rw) : Prop where
 t : s.t = some T
 ok : trOk T
 rs : rowsT T.top = rows
 r : ∀ r ∈ rows, okR s.last r
 n : s.n = (cellsR rows : Int)
 last : 0 ≤ s.last

theorem mvOk.srt {s : Emvcc_Store} {T : Etree_Tree_api_Cell} {rows : List Rw} (h : mvOk s T rows) : Srt rows := by rw [← h.rs]; exact h.ok.srt

theorem cells_cons (r : Rw) (b : List Rw) : cellsR (r :: b) = r.l.length + cellsR b := rfl

theorem rows_cells {m : Int} : ∀ {rows : List Rw}, (∀ r ∈ rows, okR m r) → rows.length ≤ cellsR rows
 | [], _ => Nat.le_refl _
 | r :: l, h => by
  have h1 := rows_cells (rows := l) fun x hx => h x (by simp [hx])
  have h2 := (h r (by simp)).ne
  have h3 : 0 < r.l.length := List.length_pos_iff.2 h2
  rw [cells_cons, List.length_cons]; omega

-- what a key has
def gR (k : ByteArray) (rows : List Rw) : List ECell := (getR k rows).1

theorem g_t {k : ByteArray} {r : Rw} {l : List Rw} (h : sltB r.k k = true) : gR k (r :: l) = gR k l := by unfold gR; rw [show getR k (r :: l) = getR k l from if_pos h]

theorem g_f {k : ByteArray} {r : Rw} {l : List Rw} (h : ¬ sltB r.k k = true) : gR k (r :: l) = if seqB r.k k = true then r.l else [] := by
 unfold gR; rw [show getR k (r :: l) = _ from if_neg h]; split <;> rfl

theorem g_ok {m : Int} {k : ByteArray} : ∀ {rows : List Rw}, (∀ r ∈ rows, okL m r.l) → okL m (gR k rows)
 | [], _ => okL.nil
 | r :: l, h => by
  by_cases c : sltB r.k k = true
  ·rw [g_t c]; exact g_ok fun x hx => h x (by simp [hx])
  ·rw [g_f c]
   split
   ·exact h r (by simp)
   ·exact okL.nil

theorem g_len (k : ByteArray) : ∀ rows : List Rw, (gR k rows).length ≤ cellsR rows
 | [] => Nat.le_refl _
 | r :: l => by
  rw [cells_cons]
  by_cases c : sltB r.k k = true
  ·rw [g_t c]; have := g_len k l; omega
  ·rw [g_f c]
   split
   ·omega
   ·exact Nat.zero_le _

theorem g_mem : ∀ {rows : List Rw} {r : Rw}, Srt rows → r ∈ rows → gR r.k rows = r.l
 | [], _, _, h => by cases h
 | x :: l, r, hs, h => by
  obtain ⟨h1, h2⟩ := List.pairwise_cons.1 hs
  rcases List.mem_cons.1 h with rfl | h
  ·rw [g_f (by rw [slt_irr]; decide), if_pos (seqB_iff.2 rfl)]
  ·rw [g_t (h1 r h)]; exact g_mem h2 h

theorem insR_t {k : ByteArray} {v : List ECell} {r : Rw} {l : List Rw} (h : sltB r.k k = true) : insR k v (r :: l) = r :: insR k v l := if_pos h

theorem insR_f {k : ByteArray} {v : List ECell} {r : Rw} {l : List Rw} (h : ¬ sltB r.k k = true) : insR k v (r :: l) = if seqB r.k k = true then ⟨r.k, v⟩ :: l else ⟨k, v⟩ :: r :: l := if_neg h

theorem ins_cells (k : ByteArray) (c : ECell) : ∀ rows : List Rw, cellsR (insR k (gR k rows ++ [c]) rows) = cellsR rows + 1
 | [] => rfl
 | r :: l => by
  by_cases h : sltB r.k k = true
  ·rw [g_t h, insR_t h, cells_cons, cells_cons, ins_cells k c l]; omega
  ·rw [g_f h, insR_f h]
   by_cases q : seqB r.k k = true
   ·rw [if_pos q, if_pos q, cells_cons, cells_cons, List.length_append]; simp only [List.length_cons, List.length_nil]; omega
   ·rw [if_neg q, if_neg q, cells_cons, cells_cons]; simp only [List.nil_append, List.length_cons, List.length_nil]; omega

theorem ins_all {P : Rw → Prop} {k : ByteArray} {v : List ECell} (hk : P ⟨k, v⟩) : ∀ {rows : List Rw}, (∀ r ∈ rows, P r) → ∀ r ∈ insR k v rows, P r
 | [], _, r, h => by obtain rfl := List.mem_singleton.1 h; exact hk
 | x :: l, hr, r, h => by
  by_cases c : sltB x.k k = true
  ·rw [insR_t c] at h
   rcases List.mem_cons.1 h with rfl | h
   ·exact hr _ (by simp)
   ·exact ins_all hk (fun y hy => hr y (by simp [hy])) r h
  ·rw [insR_f c] at h
   split at h
   ·rename_i q
    rcases List.mem_cons.1 h with rfl | h
    ·rw [seqB_iff.1 q]; exact hk
    ·exact hr r (by simp [h])
   ·rcases List.mem_cons.1 h with rfl | h
    ·exact hk
    ·exact hr r h

-- reading
section
variable {s : Emvcc_Store} {T : Etree_Tree_api_Cell} {rows : List Rw} (h : mvOk s T rows) (hz : cellsR rows < big)
include h
theorem mv_none : F_mvcc_Store_none s = some false := by unfold F_mvcc_Store_none; rw [h.t]; rfl

include hz
theorem mv_len : (rowsT T.top).length < big := by rw [h.rs]; have := rows_cells h.r; omega

theorem mv_Get (k : ByteArray) (t : Int) : F_mvcc_Store_Get s k t = some ((atL (gR k rows) t).1, (atL (gR k rows) t).2, s) := by
 have hb := g_len k rows
 unfold F_mvcc_Store_Get
 rw [mv_none h, Option.bind_some, if_neg (by decide), h.t]
 simp only [optE]
 rw [tree_Get h.ok, Option.bind_some, h.rs, show (getR k rows).1 = gR k rows from rfl, at_ok (g_ok fun r hr => (h.r r hr).l) (by omega), Option.bind_some, ← h.t]

end
def visR (f to_ : ByteArray) (t : Int) (r : Rw) : Option EPair := if ((atL r.l t).2 && inR f to_ r.k) = true then some ⟨r.k, (atL r.l t).1⟩ else none

def viewR (f to_ : ByteArray) (t : Int) (rows : List Rw) : List EPair := rows.filterMap (visR f to_ t)

theorem view_len (f to_ : ByteArray) (t : Int) (rows : List Rw) : (viewR f to_ t rows).length ≤ rows.length := List.length_filterMap_le _ _

theorem fm_congr {α β : Type} {f g : α → Option β} : ∀ {l : List α}, (∀ a ∈ l, f a = g a) → l.filterMap f = l.filterMap g
 | [], _ => rfl
 | a :: l, h => by rw [List.filterMap_cons, List.filterMap_cons, h a (by simp), fm_congr fun x hx => h x (by simp [hx])]

theorem view_in (f to_ : ByteArray) (t : Int) (rows : List Rw) : viewR f to_ t (rows.filter fun r => inR f to_ r.k) = viewR f to_ t rows := by
 unfold viewR
 rw [List.filterMap_filter]
 refine fm_congr fun r _ => ?_
 unfold visR
 by_cases c : inR f to_ r.k = true
 ·rw [if_pos c]
 ·rw [if_neg c, if_neg (by rw [Bool.and_eq_true]; exact fun e => c e.2)]

theorem keysIn (k f to_ : ByteArray) : F_keys_In k f to_ = some (inR f to_ k) := by
 unfold F_keys_In inR
 cases sltB k f <;> rfl

section
variable {s : Emvcc_Store} {T : Etree_Tree_api_Cell} {rows : List Rw} (h : mvOk s T rows) (hz : cellsR rows < big)
include h hz
theorem mv_Scan (f to_ : ByteArray) (t : Int) (most : Int) : F_mvcc_Store_Scan s f to_ t most = some ((viewR f to_ t rows).take most.toNat, decide (most.toNat < (viewR f to_ t rows).length), s) := by
 have hlen := rows_cells h.r
 unfold F_mvcc_Store_Scan
 rw [mv_none h, Option.bind_some, if_neg (by decide), h.t]
 simp only [optE]
 rw [tree_Keys h.ok (mv_len h hz), Option.bind_some, h.rs, ← h.t, ← view_in]
 have hL : (rows.filter fun r => inR f to_ r.k).length ≤ rows.length := List.length_filter_le _ _
 have hm : ∀ r ∈ (rows.filter fun r => inR f to_ r.k), gR r.k rows = r.l ∧ inR f to_ r.k = true := fun r hr => by
  obtain ⟨h1, h2⟩ := List.mem_filter.1 hr
  exact ⟨g_mem h.srt h1, h2⟩
 unfold keysR
 generalize (rows.filter fun r => inR f to_ r.k) = L at *
 unfold big at hz
 refine iter_rule (fun s : List EPair × Int × Emvcc_Store => L.length - s.2.1.toNat) (fun _ => some ((viewR f to_ t L).take most.toNat, decide (most.toNat < (viewR f to_ t L).length), s)) (fun q => 0 ≤ q.2.1 ∧ q.2.1 ≤ (L.length : Int) ∧ q.1 = viewR f to_ t (L.take q.2.1.toNat) ∧ q.1.length ≤ most.toNat ∧ q.2.2 = s) ?_ FU _ ⟨by simp, by simp, rfl, Nat.zero_le _, rfl⟩ (by unfold FU; simp only; omega)
 rintro rc ⟨o, x, s'⟩ ⟨h1, h2, h3, h4, h5⟩ hrc
 simp only at h1 h2 h3 h4 h5 hrc
 subst h5
 obtain ⟨j, rfl⟩ := Int.eq_ofNat_of_zero_le h1
 rw [toNat_cast] at h3
 have hfull : viewR f to_ t L = o ++ viewR f to_ t (L.drop j) := by
  rw [h3]; unfold viewR; rw [← List.filterMap_append, List.take_append_drop]
 have hol : o.length ≤ j := by rw [h3]; exact Nat.le_trans (view_len _ _ _ _) (by rw [List.length_take]; omega)
 simp only [F_mvcc_Store_Scan_l4, toNat_cast, F_mvcc_Store_Scan_k5, F_mvcc_Store_Scan_k1, List.length_map]
 by_cases c : j < L.length
 ·have hk : (L.map (·.k)).getD j default = (L.getD j default).k := by rw [getD_lt (by rw [List.length_map]; exact c), getD_lt c, List.getElem_map]
  have hin : L.getD j default ∈ L := by rw [getD_lt c]; exact List.getElem_mem c
  obtain ⟨g1, g2⟩ := hm _ hin
  rw [if_pos (decide_eq_true (by omega)), chk_t (by omega), hk, mv_Get h hz, Option.bind_some, keysIn, g1, g2]
  have hs : viewR f to_ t (L.take (j + 1)) = o ++ (visR f to_ t (L.getD j default)).toList := by
   rw [take_snoc (d := default) c, h3]; unfold viewR; rw [List.filterMap_append]; congr 1
  have hd : viewR f to_ t (L.drop j) = (visR f to_ t (L.getD j default)).toList ++ viewR f to_ t (L.drop (j + 1)) := by
   rw [drop_cons (d := default) c]; unfold viewR; rw [List.filterMap_cons]
   cases visR f to_ t (L.getD j default) <;> rfl
  dsimp only
  by_cases v : (atL (L.getD j default).l t).2 = true
  ·have hv : visR f to_ t (L.getD j default) = some ⟨(L.getD j default).k, (atL (L.getD j default).l t).1⟩ := by unfold visR; rw [if_pos (by rw [v, g2]; rfl)]
   rw [v, show (!(!true)) = true from rfl, gif_true, Option.bind_some, if_neg (by decide)]
   rw [hv] at hs hd
   by_cases q : (o.length : Int) ≥ most
   ·have e1 : most.toNat = o.length := by omega
    rw [if_pos (decide_eq_true q), hfull, e1, List.take_left, decide_eq_true (by rw [List.length_append, hd]; simp)]
   ·rw [if_neg (by rw [decide_eq_false q]; decide), chk_t (by simp only [List.length_cons, List.length_nil]; omega), chk_t (by unfold inI; omega)]
    refine hrc (_, (j : Int) + 1, _) ⟨by simp only; omega, by simp only; omega, ?_, ?_, rfl⟩ (by simp only [toNat_cast1]; omega)
    ·simp only [toNat_cast1]; rw [hs]; rfl
    ·simp only [List.length_append, List.length_cons, List.length_nil]; omega
  ·have v' : (atL (L.getD j default).l t).2 = false := by simpa using v
   have hv : visR f to_ t (L.getD j default) = none := by unfold visR; rw [if_neg (by rw [v', Bool.false_and]; decide)]
   rw [hv] at hs
   rw [v', show (!(!false)) = false from rfl, gif_false, Option.bind_some, if_pos (by rfl), chk_t (by unfold inI; omega)]
   refine hrc (_, (j : Int) + 1, _) ⟨by simp only; omega, by simp only; omega, ?_, h4, rfl⟩ (by simp only [toNat_cast1]; omega)
   simp only [toNat_cast1]; rw [hs]; simp
 ·rw [if_neg (by rw [decide_eq_false (by omega)]; decide)]
  have e : viewR f to_ t L = o := by rw [hfull, List.drop_eq_nil_of_le (by omega)]; simp [viewR]
  rw [e, List.take_of_length_le h4, decide_eq_false (by omega)]

end
end Go.Proofs.Ytfefmdllnjpmgaa
