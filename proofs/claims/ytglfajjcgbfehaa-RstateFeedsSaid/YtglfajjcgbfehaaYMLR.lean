/- Small texts in one. -/
import Derived.Test.YtglfajjcgbfehaaYMV
import Derived.Test.YtglfajjcgbfehaaYOpsC
import Derived.Test.YtglfajjcgbfehaaYRsV
import Derived.Test.YtglfajjcgbfehaaYO
import Derived.Test.YtglfajjcgbfehaaYP
namespace Go.Proofs.Ytglfajjcgbfehaa

def bdK (k : ByteArray) : Prop := 1 ≤ k.size ∧ k.size ≤ 8

/-- a row -/
structure okR (m : Int) (r : Rw) : Prop where
 l : okL m r.l
 ne : r.l ≠ []
 k : bdK r.k

def cellsR (rows : List Rw) : Nat := (rows.map (·.l.length)).sum

structure mvOk (s : Emvcc_Store) (T : Etree_Tree_api_Cell) (rows : List Rw) : Prop where
 t : s.t = some T
 ok : trOk T
 rs : rowsT T.top = rows
 r : ∀ r ∈ rows, okR s.last r
 n : s.n = (cellsR rows : Int)
 last : 0 ≤ s.last

theorem mvOk.srt {s : Emvcc_Store} {T : Etree_Tree_api_Cell} {rows : List Rw} (h : mvOk s T rows) : Srt rows := by rw [← h.rs]; exact h.ok.srt

theorem cells_app (a b : List Rw) : cellsR (a ++ b) = cellsR a + cellsR b := by unfold cellsR; rw [List.map_append, List.sum_append]

theorem cells_cons (r : Rw) (b : List Rw) : cellsR (r :: b) = r.l.length + cellsR b := rfl

theorem rows_cells {m : Int} : ∀ {rows : List Rw}, (∀ r ∈ rows, okR m r) → rows.length ≤ cellsR rows
 | [], _ => Nat.le_refl _
 | r :: l, h => by
  have h1 := rows_cells (rows := l) fun x hx => h x (by simp [hx])
  have h2 := (h r (by simp)).ne
  have h3 : 0 < r.l.length := List.length_pos_iff.2 h2
  rw [cells_cons, List.length_cons]; omega

theorem mem_cells : ∀ {rows : List Rw} {r : Rw}, r ∈ rows → r.l.length ≤ cellsR rows
 | [], _, h => by cases h
 | x :: l, r, h => by
  rw [cells_cons]
  rcases List.mem_cons.1 h with rfl | h
  ·omega
  ·have := mem_cells h; omega

-- what a key has
def gR (k : ByteArray) (rows : List Rw) : List ECell := (getR k rows).1

theorem g_t {k : ByteArray} {r : Rw} {l : List Rw} (h : sltB r.k k = true) : gR k (r :: l) = gR k l := by unfold gR; rw [show getR k (r :: l) = getR k l from if_pos h]

theorem g_f {k : ByteArray} {r : Rw} {l : List Rw} (h : ¬ sltB r.k k = true) : gR k (r :: l) = if seqB r.k k = true then r.l else [] := by
 unfold gR; rw [show getR k (r :: l) = _ from if_neg h]; split <;> rfl

theorem g_ok {m : Int} {k : ByteArray} : ∀ {rows : List Rw}, (∀ r ∈ rows, okL m r.l) → okL m (gR k rows)
 | [], _ => okL.nil
 | r :: l, h => by
  by_cases c : sltB r.k k = true
  ·rw [g_t c]; exact g_ok fun x hx => h x (by simp [hx])
  ·rw [g_f c]
   split
   ·exact h r (by simp)
   ·exact okL.nil

theorem g_len (k : ByteArray) : ∀ rows : List Rw, (gR k rows).length ≤ cellsR rows
 | [] => Nat.le_refl _
 | r :: l => by
  rw [cells_cons]
  by_cases c : sltB r.k k = true
  ·rw [g_t c]; have := g_len k l; omega
  ·rw [g_f c]
   split
   ·omega
   ·exact Nat.zero_le _

theorem g_mem : ∀ {rows : List Rw} {r : Rw}, Srt rows → r ∈ rows → gR r.k rows = r.l
 | [], _, _, h => by cases h
 | x :: l, r, hs, h => by
  obtain ⟨h1, h2⟩ := List.pairwise_cons.1 hs
  rcases List.mem_cons.1 h with rfl | h
  ·rw [g_f (by rw [slt_irr]; decide), if_pos (seqB_iff.2 rfl)]
  ·rw [g_t (h1 r h)]; exact g_mem h2 h

theorem insR_t {k : ByteArray} {v : List ECell} {r : Rw} {l : List Rw} (h : sltB r.k k = true) : insR k v (r :: l) = r :: insR k v l := if_pos h

theorem insR_f {k : ByteArray} {v : List ECell} {r : Rw} {l : List Rw} (h : ¬ sltB r.k k = true) : insR k v (r :: l) = if seqB r.k k = true then ⟨r.k, v⟩ :: l else ⟨k, v⟩ :: r :: l := if_neg h

theorem ins_cells (k : ByteArray) (c : ECell) : ∀ rows : List Rw, cellsR (insR k (gR k rows ++ [c]) rows) = cellsR rows + 1
 | [] => rfl
 | r :: l => by
  by_cases h : sltB r.k k = true
  ·rw [g_t h, insR_t h, cells_cons, cells_cons, ins_cells k c l]; omega
  ·rw [g_f h, insR_f h]
   by_cases q : seqB r.k k = true
   ·rw [if_pos q, if_pos q, cells_cons, cells_cons, List.length_append]; simp only [List.length_cons, List.length_nil]; omega
   ·rw [if_neg q, if_neg q, cells_cons, cells_cons]; simp only [List.nil_append, List.length_cons, List.length_nil]; omega

theorem ins_all {P : Rw → Prop} {k : ByteArray} {v : List ECell} (hk : P ⟨k, v⟩) : ∀ {rows : List Rw}, (∀ r ∈ rows, P r) → ∀ r ∈ insR k v rows, P r
 | [], _, r, h => by obtain rfl := List.mem_singleton.1 h; exact hk
 | x :: l, hr, r, h => by
  by_cases c : sltB x.k k = true
  ·rw [insR_t c] at h
   rcases List.mem_cons.1 h with rfl | h
   ·exact hr _ (by simp)
   ·exact ins_all hk (fun y hy => hr y (by simp [hy])) r h
  ·rw [insR_f c] at h
   split at h
   ·rename_i q
    rcases List.mem_cons.1 h with rfl | h
    ·rw [seqB_iff.1 q]; exact hk
    ·exact hr r (by simp [h])
   ·rcases List.mem_cons.1 h with rfl | h
    ·exact hk
    ·exact hr r h

-- reading
section
variable {s : Emvcc_Store} {T : Etree_Tree_api_Cell} {rows : List Rw} (h : mvOk s T rows) (hz : cellsR rows < big)
include h
theorem mv_none : F_mvcc_Store_none s = some false := by unfold F_mvcc_Store_none; rw [h.t]; rfl

theorem mv_Last : F_mvcc_Store_Last s = some s.last := by unfold F_mvcc_Store_Last; rw [mv_none h, Option.bind_some, if_neg (by decide)]

theorem mv_Cells : F_mvcc_Store_Cells s = some (cellsR rows : Int) := by unfold F_mvcc_Store_Cells; rw [mv_none h, Option.bind_some, if_neg (by decide), h.n]

include hz
theorem mv_len : (rowsT T.top).length < big := by rw [h.rs]; have := rows_cells h.r; omega

theorem mv_Get (k : ByteArray) (t : Int) : F_mvcc_Store_Get s k t = some ((atL (gR k rows) t).1, (atL (gR k rows) t).2, s) := by
 have hb := g_len k rows
 unfold F_mvcc_Store_Get
 rw [mv_none h, Option.bind_some, if_neg (by decide), h.t]
 simp only [optE]
 rw [tree_Get h.ok, Option.bind_some, h.rs, show (getR k rows).1 = gR k rows from rfl, at_ok (g_ok fun r hr => (h.r r hr).l) (by omega), Option.bind_some, ← h.t]

end
def visR (f to_ : ByteArray) (t : Int) (r : Rw) : Option EPair := if ((atL r.l t).2 && inR f to_ r.k) = true then some ⟨r.k, (atL r.l t).1⟩ else none

def viewR (f to_ : ByteArray) (t : Int) (rows : List Rw) : List EPair := rows.filterMap (visR f to_ t)

theorem view_len (f to_ : ByteArray) (t : Int) (rows : List Rw) : (viewR f to_ t rows).length ≤ rows.length := List.length_filterMap_le _ _

theorem fm_congr {α β : Type} {f g : α → Option β} : ∀ {l : List α}, (∀ a ∈ l, f a = g a) → l.filterMap f = l.filterMap g
 | [], _ => rfl
 | a :: l, h => by rw [List.filterMap_cons, List.filterMap_cons, h a (by simp), fm_congr fun x hx => h x (by simp [hx])]

theorem view_in (f to_ : ByteArray) (t : Int) (rows : List Rw) : viewR f to_ t (rows.filter fun r => inR f to_ r.k) = viewR f to_ t rows := by
 unfold viewR
 rw [List.filterMap_filter]
 refine fm_congr fun r _ => ?_
 unfold visR
 by_cases c : inR f to_ r.k = true
 ·rw [if_pos c]
 ·rw [if_neg c, if_neg (by rw [Bool.and_eq_true]; exact fun e => c e.2)]

theorem keysIn (k f to_ : ByteArray) : F_keys_In k f to_ = some (inR f to_ k) := by
 unfold F_keys_In inR
 cases sltB k f <;> rfl

section
variable {s : Emvcc_Store} {T : Etree_Tree_api_Cell} {rows : List Rw} (h : mvOk s T rows) (hz : cellsR rows < big)
include h hz
theorem mv_Scan (f to_ : ByteArray) (t : Int) (most : Int) : F_mvcc_Store_Scan s f to_ t most = some ((viewR f to_ t rows).take most.toNat, decide (most.toNat < (viewR f to_ t rows).length), s) := by
 have hlen := rows_cells h.r
 unfold F_mvcc_Store_Scan
 rw [mv_none h, Option.bind_some, if_neg (by decide), h.t]
 simp only [optE]
 rw [tree_Keys h.ok (mv_len h hz), Option.bind_some, h.rs, ← h.t, ← view_in]
 have hL : (rows.filter fun r => inR f to_ r.k).length ≤ rows.length := List.length_filter_le _ _
 have hm : ∀ r ∈ (rows.filter fun r => inR f to_ r.k), gR r.k rows = r.l ∧ inR f to_ r.k = true := fun r hr => by
  obtain ⟨h1, h2⟩ := List.mem_filter.1 hr
  exact ⟨g_mem h.srt h1, h2⟩
 unfold keysR
 generalize (rows.filter fun r => inR f to_ r.k) = L at *
 unfold big at hz
 refine iter_rule (fun s : List EPair × Int × Emvcc_Store => L.length - s.2.1.toNat) (fun _ => some ((viewR f to_ t L).take most.toNat, decide (most.toNat < (viewR f to_ t L).length), s)) (fun q => 0 ≤ q.2.1 ∧ q.2.1 ≤ (L.length : Int) ∧ q.1 = viewR f to_ t (L.take q.2.1.toNat) ∧ q.1.length ≤ most.toNat ∧ q.2.2 = s) ?_ FU _ ⟨by simp, by simp, rfl, Nat.zero_le _, rfl⟩ (by unfold FU; simp only; omega)
 rintro rc ⟨o, x, s'⟩ ⟨h1, h2, h3, h4, h5⟩ hrc
 simp only at h1 h2 h3 h4 h5 hrc
 subst h5
 obtain ⟨j, rfl⟩ := Int.eq_ofNat_of_zero_le h1
 rw [toNat_cast] at h3
 have hfull : viewR f to_ t L = o ++ viewR f to_ t (L.drop j) := by
  rw [h3]; unfold viewR; rw [← List.filterMap_append, List.take_append_drop]
 have hol : o.length ≤ j := by rw [h3]; exact Nat.le_trans (view_len _ _ _ _) (by rw [List.length_take]; omega)
 simp only [F_mvcc_Store_Scan_l4, toNat_cast, F_mvcc_Store_Scan_k5, F_mvcc_Store_Scan_k1, List.length_map]
 by_cases c : j < L.length
 ·have hk : (L.map (·.k)).getD j default = (L.getD j default).k := by rw [getD_lt (by rw [List.length_map]; exact c), getD_lt c, List.getElem_map]
  have hin : L.getD j default ∈ L := by rw [getD_lt c]; exact List.getElem_mem c
  obtain ⟨g1, g2⟩ := hm _ hin
  rw [if_pos (decide_eq_true (by omega)), chk_t (by omega), hk, mv_Get h hz, Option.bind_some, keysIn, g1, g2]
  have hs : viewR f to_ t (L.take (j + 1)) = o ++ (visR f to_ t (L.getD j default)).toList := by
   rw [take_snoc (d := default) c, h3]; unfold viewR; rw [List.filterMap_append]; congr 1
  have hd : viewR f to_ t (L.drop j) = (visR f to_ t (L.getD j default)).toList ++ viewR f to_ t (L.drop (j + 1)) := by
   rw [drop_cons (d := default) c]; unfold viewR; rw [List.filterMap_cons]
   cases visR f to_ t (L.getD j default) <;> rfl
  dsimp only
  by_cases v : (atL (L.getD j default).l t).2 = true
  ·have hv : visR f to_ t (L.getD j default) = some ⟨(L.getD j default).k, (atL (L.getD j default).l t).1⟩ := by unfold visR; rw [if_pos (by rw [v, g2]; rfl)]
   rw [v, show (!(!true)) = true from rfl, gif_true, Option.bind_some, if_neg (by decide)]
   rw [hv] at hs hd
   by_cases q : (o.length : Int) ≥ most
   ·have e1 : most.toNat = o.length := by omega
    rw [if_pos (decide_eq_true q), hfull, e1, List.take_left, decide_eq_true (by rw [List.length_append, hd]; simp)]
   ·rw [if_neg (by rw [decide_eq_false q]; decide), chk_t (by simp only [List.length_cons, List.length_nil]; omega), chk_t (by unfold inI; omega)]
    refine hrc (_, (j : Int) + 1, _) ⟨by simp only; omega, by simp only; omega, ?_, ?_, rfl⟩ (by simp only [toNat_cast1]; omega)
    ·simp only [toNat_cast1]; rw [hs]; rfl
    ·simp only [List.length_append, List.length_cons, List.length_nil]; omega
  ·have v' : (atL (L.getD j default).l t).2 = false := by simpa using v
   have hv : visR f to_ t (L.getD j default) = none := by unfold visR; rw [if_neg (by rw [v', Bool.false_and]; decide)]
   rw [hv] at hs
   rw [v', show (!(!false)) = false from rfl, gif_false, Option.bind_some, if_pos (by rfl), chk_t (by unfold inI; omega)]
   refine hrc (_, (j : Int) + 1, _) ⟨by simp only; omega, by simp only; omega, ?_, h4, rfl⟩ (by simp only [toNat_cast1]; omega)
   simp only [toNat_cast1]; rw [hs]; simp
 ·rw [if_neg (by rw [decide_eq_false (by omega)]; decide)]
  have e : viewR f to_ t L = o := by rw [hfull, List.drop_eq_nil_of_le (by omega)]; simp [viewR]
  rw [e, List.take_of_length_le h4, decide_eq_false (by omega)]

end
end Go.Proofs.Ytglfajjcgbfehaa

namespace Go.Proofs.Ytglfajjcgbfehaa

def layR (ts : Int) (o : EOp) (rows : List Rw) : List Rw := insR o.key (gR o.key rows ++ [⟨ts, o.val, o.del⟩]) rows

def putR (ts : Int) (l : List EOp) (rows : List Rw) : List Rw := l.foldl (fun r o => layR ts o r) rows

def KeysUp : Option ByteArray → List EOp → Prop
 | _, [] => True
 | a, o :: l => bdK o.key ∧ (∀ b, a = some b → sltB b o.key = true) ∧ KeysUp (some o.key) l

theorem chk_up : ∀ (l : List EOp) (a : Option ByteArray), opsChk a l = 0 → KeysUp a l
 | [], _, _ => trivial
 | x :: r, a, h => by
  rw [opsChk_cons] at h
  split at h; · cases h
  split at h; · cases h
  by_cases c3 : (x.del && !decide (x.val.size = 0)) = true
  ·rw [if_pos c3] at h; cases h
  rw [if_neg c3] at h
  by_cases c4 : notBehind a x.key = true
  ·rw [if_pos c4] at h; cases h
  rw [if_neg c4] at h
  refine ⟨⟨by omega, by omega⟩, fun b hb => ?_, chk_up r _ h⟩
  subst hb
  simpa [notBehind] using c4

theorem batch_up {l : List EOp} (h : batchCheck ⟨0, 1, l⟩ = 0) : l.length ≤ 4 ∧ KeysUp none l := by
 unfold batchCheck at h
 split at h; · cases h
 split at h; · cases h
 split at h; · cases h
 rename_i h3
 exact ⟨by simpa using h3, chk_up _ _ h⟩

theorem ins_g {k : ByteArray} {v : List ECell} {j : ByteArray} : ∀ {rows : List Rw}, sltB k j = true → gR j (insR k v rows) = gR j rows
 | [], h => by rw [show insR k v [] = [⟨k, v⟩] from rfl, g_t (r := ⟨k, v⟩) h]
 | r :: l, h => by
  by_cases c : sltB r.k k = true
  ·rw [insR_t c]
   have c2 := slt_trans c h
   rw [g_t c2, g_t c2, ins_g h]
  ·rw [insR_f c]
   by_cases q : seqB r.k k = true
   ·rw [if_pos q]
    have e := seqB_iff.1 q
    have c2 : sltB r.k j = true := by rw [e]; exact h
    rw [g_t (r := ⟨r.k, v⟩) c2, g_t c2]
   ·rw [if_neg q, g_t (r := ⟨k, v⟩) h]

/-- rows ahead of and behind a time that is being put: those whose key comes later are as they were -/
structure halfOk (last ts : Int) (a : Option ByteArray) (rows : List Rw) : Prop where
 r : ∀ r ∈ rows, okR ts r
 g : ∀ k, (∀ b, a = some b → sltB b k = true) → okL last (gR k rows)

theorem half_lay {last ts : Int} {a : Option ByteArray} {rows : List Rw} {o : EOp} (h : halfOk last ts a rows) (h0 : 0 ≤ last) (ht : last < ts) (hk : bdK o.key) (ha : ∀ b, a = some b → sltB b o.key = true) : okL ts (gR o.key rows ++ [⟨ts, o.val, o.del⟩]) ∧ halfOk last ts (some o.key) (layR ts o rows) := by
 have h1 := (h.g o.key ha).snoc (c := ⟨ts, o.val, o.del⟩) h0 ht
 refine ⟨h1, fun r hr => ins_all (P := okR ts) ⟨h1, by simp, hk⟩ h.r r hr, fun k hb => ?_⟩
 have h2 := hb o.key rfl
 unfold layR
 rw [ins_g h2]
 refine h.g k fun b e => ?_
 exact slt_trans (ha b e) h2

theorem lay_cells (ts : Int) (o : EOp) (rows : List Rw) : cellsR (layR ts o rows) = cellsR rows + 1 := ins_cells _ _ _

theorem put_cells (ts : Int) : ∀ (l : List EOp) (rows : List Rw), cellsR (putR ts l rows) = cellsR rows + l.length
 | [], _ => rfl
 | o :: l, rows => by
  rw [show putR ts (o :: l) rows = putR ts l (layR ts o rows) from rfl, put_cells, lay_cells, List.length_cons]; omega

section
variable {ts : Int}
theorem Put_loop {last : Int} {s0 : Emvcc_Store} (hl : s0.last = last) (h0 : 0 ≤ last) (ht : last < ts) (all : List EOp) (ha : all.length ≤ 4) : ∀ (n : Nat) (l : List EOp) (i : Nat) (a : Option ByteArray) (s : Emvcc_Store) (T : Etree_Tree_api_Cell) (rows : List Rw), l.length < n → all.drop i = l → i ≤ all.length → KeysUp a l → s.t = some T → s.last = last → trOk T → rowsT T.top = rows → halfOk last ts a rows → s.n = (cellsR rows : Int) → cellsR rows + l.length < big →
  ∃ s' T', iter (F_mvcc_Store_Put_l1 ts all) n ((i : Int), s) = some (0, s') ∧ mvOk s' T' (putR ts l rows) ∧ s'.last = ts
 | 0, l, _, _, _, _, _, h, _, _, _, _, _, _, _, _, _, _ => by omega
 | n + 1, [], i, a, s, T, rows, _, hd, hi, hk, h1, h2, h3, h4, h5, h6, h7 => by
  have : i = all.length := by
   have := congrArg List.length hd
   rw [List.length_drop, List.length_nil] at this; omega
  subst this
  show ∃ s' T', F_mvcc_Store_Put_l1 ts all (iter (F_mvcc_Store_Put_l1 ts all) n) (_, s) = _ ∧ _
  unfold F_mvcc_Store_Put_l1
  dsimp only
  rw [if_neg (by rw [decide_eq_false (by omega)]; decide)]
  exact ⟨_, T, rfl, ⟨h1, h3, h4, h5.r, h6, by show 0 ≤ ts; omega⟩, rfl⟩
 | n + 1, o :: l, i, a, s, T, rows, hn, hd, hi, hk, h1, h2, h3, h4, h5, h6, h7 => by
  have hi2 : i < all.length := by
   have := congrArg List.length hd
   rw [List.length_drop, List.length_cons] at this; omega
  rw [drop_cons (d := default) hi2] at hd
  injection hd with hd1 hd2
  obtain ⟨k1, k2, k3⟩ := hk
  obtain ⟨b1, b2⟩ := half_lay h5 h0 ht k1 k2
  have hrl := rows_cells h5.r
  have hgl := g_len o.key rows
  rw [List.length_cons] at h7
  show ∃ s' T', F_mvcc_Store_Put_l1 ts all (iter (F_mvcc_Store_Put_l1 ts all) n) (_, s) = _ ∧ _
  unfold F_mvcc_Store_Put_l1
  dsimp only
  rw [if_pos (decide_eq_true (by omega)), chk_t (by omega), toNat_cast, hd1, h1]
  simp only [optE]
  rw [tree_Get h3, Option.bind_some, h4, show (getR o.key rows).1 = gR o.key rows from rfl, vput_ok (h5.g o.key k2) (by omega) h0 ht, Option.bind_some]
  obtain ⟨T', e1, e2, e3⟩ := tree_Put h3 (by rw [h4]; omega) o.key (gR o.key rows ++ [⟨ts, o.val, o.del⟩])
  rw [e1, Option.bind_some, h6, chk_t (by unfold inI; unfold big at h7; omega), chk_t (by unfold inI; omega)]
  rw [h4] at e3
  exact Put_loop hl h0 ht all ha n l (i + 1) (some o.key) _ T' (layR ts o rows) (by rw [List.length_cons] at hn; omega) hd2 (by omega) k3 rfl h2 e2 e3 b2 (by rw [lay_cells]; rfl) (by rw [lay_cells]; omega)

end
section
variable {s : Emvcc_Store} {T : Etree_Tree_api_Cell} {rows : List Rw} (h : mvOk s T rows)
include h
theorem mv_half {ts : Int} (ht : s.last < ts) : halfOk s.last ts none rows := ⟨fun r hr => ⟨(h.r r hr).l.mono (by omega), (h.r r hr).ne, (h.r r hr).k⟩, fun k _ => g_ok fun r hr => (h.r r hr).l⟩

theorem mv_Put (ts : Int) (h0 : 0 ≤ ts) (l : List EOp) (hz : cellsR rows + 4 < big) : ∃ e s' T', F_mvcc_Store_Put s ts l = some (e, s') ∧ e = (if ts = 0 then 5 else if ts ≤ s.last then 18 else batchCheck ⟨0, 1, l⟩) ∧ mvOk s' T' (if e = 0 then putR ts l rows else rows) ∧ s'.last = (if e = 0 then ts else s.last) ∧ (e = 0 → s.last < ts ∧ l.length ≤ 4 ∧ KeysUp none l) := by
 have hlast := h.last
 unfold F_mvcc_Store_Put
 rw [mv_none h, Option.bind_some, if_neg (by decide)]
 by_cases c1 : ts = 0
 ·exact ⟨5, s, T, by rw [if_pos (by rw [c1]; rfl)], by rw [if_pos c1], h, rfl, fun e => by cases e⟩
 rw [if_neg (by rw [beq_iff_eq]; exact c1), if_neg c1]
 by_cases c2 : ts ≤ s.last
 ·exact ⟨18, s, T, by rw [if_pos (decide_eq_true c2)], by rw [if_pos c2], h, rfl, fun e => by cases e⟩
 rw [if_neg (by rw [decide_eq_false c2]; decide), if_neg c2, ops_Check, Option.bind_some]
 by_cases c3 : batchCheck ⟨0, 1, l⟩ = 0
 ·obtain ⟨u1, u2⟩ := batch_up c3
  rw [c3, if_neg (by decide)]
  obtain ⟨s', T', e1, e2, e3⟩ := Put_loop (ts := ts) rfl hlast (by omega) l u1 FU l 0 none s T rows (by unfold FU; omega) rfl (Nat.zero_le _) u2 h.t rfl h.ok h.rs (mv_half h (by omega)) h.n (by omega)
  exact ⟨0, s', T', e1, rfl, e2, e3, fun _ => ⟨by omega, u1, u2⟩⟩
 ·rw [if_pos (by rw [bne_iff_ne]; exact c3)]
  exact ⟨_, s, T, rfl, rfl, by rw [if_neg c3]; exact h, by rw [if_neg c3], fun e => absurd e c3⟩

end
-- pruning
section
variable {h : Int} {K : List ByteArray} {T0 : Etree_Tree_api_Cell}
end
theorem keys_all (rows : List Rw) : keysR ⟨#[]⟩ ⟨#[]⟩ rows = rows.map (·.k) := by
 unfold keysR
 rw [List.filter_eq_self.2]
 intro r _
 unfold inR
 have e : sltB r.k ⟨#[]⟩ = false := by
  cases h : sltB r.k ⟨#[]⟩ with
  | false => rfl
  | true => exact absurd h (by unfold sltB; cases r.k.toList <;> simp [Op.bytesLess] <;> rfl)
 rw [e, seqB_iff.2 rfl]; rfl

end Go.Proofs.Ytglfajjcgbfehaa

namespace Go.Proofs.Ytglfajjcgbfehaa
end Go.Proofs.Ytglfajjcgbfehaa

namespace Go.Proofs.Ytglfajjcgbfehaa
def newS : Emvcc_Store := { (default : Emvcc_Store) with t := some newT }

theorem mvNew : F_mvcc_New = some newS := rfl

theorem mvNew_ok : mvOk newS newT [] := ⟨rfl, new_ok, rfl, fun r h => (by cases h), rfl, Int.le_refl _⟩

theorem eqEPair_refl (x : EPair) : eqEPair x x = true := eqEPair_iff.2 rfl

theorem samePairs_refl (l : List EPair) (h : l.length ≤ big) : F_ref06_SamePairs l l = some true := by
 unfold F_ref06_SamePairs
 rw [if_neg (by rw [bne_self_eq_false]; decide)]
 unfold big at h
 refine iter_up l.length (fun _ => some true) (by unfold bdM; omega) fun rc i hi hrc => ?_
 simp only [F_ref06_SamePairs_l1, toNat_cast]
 by_cases c : i < l.length
 ·rw [if_pos (by rw [decide_eq_true (by omega)]; rfl), chk_t (by omega), chk_t (by omega), if_neg (by rw [eqEPair_refl]; decide), chk_t (by unfold inI; omega)]
  exact hrc c
 ·rw [if_neg (by rw [decide_eq_false (by omega)]; decide)]

-- what a key has behind a version more
theorem ins_g_same {k : ByteArray} {v : List ECell} : ∀ rows : List Rw, gR k (insR k v rows) = v
 | [] => by rw [show insR k v [] = [⟨k, v⟩] from rfl, g_f (r := ⟨k, v⟩) (by rw [slt_irr]; decide), if_pos (seqB_iff.2 rfl)]
 | r :: l => by
  by_cases c : sltB r.k k = true
  ·rw [insR_t c, g_t c, ins_g_same l]
  ·rw [insR_f c]
   by_cases q : seqB r.k k = true
   ·rw [if_pos q, g_f (r := ⟨r.k, v⟩) c, if_pos q]
   ·rw [if_neg q, g_f (r := ⟨k, v⟩) (by rw [slt_irr]; decide), if_pos (seqB_iff.2 rfl)]

theorem ins_g_other {k : ByteArray} {v : List ECell} {j : ByteArray} (hj : seqB k j = false) : ∀ rows : List Rw, gR j (insR k v rows) = gR j rows
 | [] => by
  rw [show insR k v [] = [⟨k, v⟩] from rfl]
  by_cases c : sltB k j = true
  ·rw [g_t (r := ⟨k, v⟩) c]
  ·rw [g_f (r := ⟨k, v⟩) c, if_neg (by rw [hj]; decide)]; rfl
 | r :: l => by
  by_cases c : sltB r.k k = true
  ·rw [insR_t c]
   by_cases d : sltB r.k j = true
   ·rw [g_t d, g_t d, ins_g_other hj l]
   ·rw [g_f d, g_f d]
  ·rw [insR_f c]
   by_cases q : seqB r.k k = true
   ·rw [if_pos q]
    have e := seqB_iff.1 q
    by_cases d : sltB r.k j = true
    ·rw [g_t (r := ⟨r.k, v⟩) d, g_t d]
    ·rw [g_f (r := ⟨r.k, v⟩) d, g_f d, if_neg (by rw [e, hj]; decide), if_neg (by rw [e, hj]; decide)]
   ·rw [if_neg q]
    by_cases d : sltB k j = true
    ·rw [g_t (r := ⟨k, v⟩) d]
    ·rw [g_f (r := ⟨k, v⟩) d, if_neg (by rw [hj]; decide)]
     have hkr := slt_tri (by simpa using c) (by simpa using q)
     have hjk : sltB j k = true := slt_tri (by simpa using d) hj
     have hjr := slt_trans hjk hkr
     rw [g_f (by rw [slt_asym hjr]; decide), if_neg (by rw [slt_ne' hjr]; decide)]

theorem at_nil (t : Int) : atL [] t = (⟨#[]⟩, false) := rfl

theorem view_ins {f to_ : ByteArray} {t : Int} {k : ByteArray} {v : List ECell} : ∀ rows : List Rw, atL v t = atL (gR k rows) t → viewR f to_ t (insR k v rows) = viewR f to_ t rows
 | [], h => by
  rw [show insR k v [] = [⟨k, v⟩] from rfl]
  unfold viewR
  rw [List.filterMap_cons]
  have : visR f to_ t ⟨k, v⟩ = none := by
   unfold visR; rw [if_neg]
   intro e
   rw [Bool.and_eq_true] at e
   have e1 : (atL v t).2 = true := e.1
   rw [h, show gR k [] = [] from rfl, at_nil] at e1; cases e1
  rw [this]
 | r :: l, h => by
  by_cases c : sltB r.k k = true
  ·rw [g_t c] at h
   rw [insR_t c]
   have := view_ins (f := f) (to_ := to_) l h
   unfold viewR at *
   rw [List.filterMap_cons, List.filterMap_cons, this]
  ·rw [g_f c] at h
   rw [insR_f c]
   by_cases q : seqB r.k k = true
   ·rw [if_pos q] at h ⊢
    unfold viewR
    rw [List.filterMap_cons, List.filterMap_cons]
    have : visR f to_ t ⟨r.k, v⟩ = visR f to_ t r := by unfold visR; rw [show (⟨r.k, v⟩ : Rw).l = v from rfl, h]
    rw [this]
   ·rw [if_neg q] at h ⊢
    unfold viewR
    rw [List.filterMap_cons]
    have : visR f to_ t ⟨k, v⟩ = none := by
     unfold visR; rw [if_neg]
     intro e
     rw [Bool.and_eq_true] at e
     have e1 : (atL v t).2 = true := e.1
     rw [h, at_nil] at e1; cases e1
    rw [this]

/-- at a time all is told as it was -/
structure Sm (t : Int) (rows rows' : List Rw) : Prop where
 g : ∀ j, atL (gR j rows') t = atL (gR j rows) t
 v : ∀ f to_, viewR f to_ t rows' = viewR f to_ t rows

theorem Sm.refl (t : Int) (rows : List Rw) : Sm t rows rows := ⟨fun _ => rfl, fun _ _ => rfl⟩

theorem Sm.trans {t : Int} {a b c : List Rw} (h1 : Sm t a b) (h2 : Sm t b c) : Sm t a c := ⟨fun j => (h2.g j).trans (h1.g j), fun f to_ => (h2.v f to_).trans (h1.v f to_)⟩

theorem lay_same {t last ts : Int} {o : EOp} {rows : List Rw} (hg : okL last (gR o.key rows)) (h0 : 0 ≤ last) (ht : last < ts) (h1 : t < ts) : Sm t rows (layR ts o rows) := by
 have e : atL (gR o.key rows ++ [⟨ts, o.val, o.del⟩]) t = atL (gR o.key rows) t := by rw [at_snoc hg h0 ht, if_neg (by show ¬ ts ≤ t; omega)]
 unfold layR
 refine ⟨fun j => ?_, fun f to_ => view_ins rows e⟩
 by_cases q : seqB o.key j = true
 ·rw [← seqB_iff.1 q, ins_g_same, e]
 ·rw [ins_g_other (by simpa using q)]

theorem puts_same {t last ts : Int} (h0 : 0 ≤ last) (ht : last < ts) (h1 : t < ts) : ∀ (l : List EOp) (a : Option ByteArray) (rows : List Rw), halfOk last ts a rows → KeysUp a l → Sm t rows (putR ts l rows)
 | [], _, rows, _, _ => Sm.refl _ _
 | o :: l, a, rows, h, hk => by
  obtain ⟨k1, k2, k3⟩ := hk
  exact (lay_same (h.g o.key k2) h0 ht h1).trans (puts_same h0 ht h1 l (some o.key) _ (half_lay h h0 ht k1 k2).2 k3)

end Go.Proofs.Ytglfajjcgbfehaa

namespace Go.Proofs.Ytglfajjcgbfehaa
section
variable {m : Int} {l : List ECell} (hl : okL m l) (hz : l.length ≤ big)
include hl hz
end
section
variable {m : Int} {rows : List Rw} (hr : ∀ r ∈ rows, okR m r) (hs : Srt rows) (hz : cellsR rows < big) (last : Int)
include hr hz
theorem r_at (j : Nat) (hj : j < rows.length) : okL m (rows.getD j default).l ∧ (rows.getD j default).l.length ≤ big := by
 rw [getD_lt hj]
 have := mem_cells (List.getElem_mem hj)
 exact ⟨(hr _ (List.getElem_mem hj)).l, by omega⟩

section
include hs
end
theorem ref_Cells : F_ref16_Store_Cells ⟨rows, last⟩ = some (cellsR rows : Int) := by
 have hlen := rows_cells hr
 unfold big at hz
 unfold F_ref16_Store_Cells
 refine iter_rule (fun s : Int × Int => rows.length - s.2.toNat) (fun _ => some (cellsR rows : Int)) (fun s => 0 ≤ s.2 ∧ s.2 ≤ (rows.length : Int) ∧ s.1 = (cellsR (rows.take s.2.toNat) : Int)) ?_ FU _ ⟨by simp, by simp, by rfl⟩ (by unfold FU; simp only; omega)
 rintro rc ⟨n, i⟩ ⟨h1, h2, h3⟩ hrc
 simp only at h1 h2 h3 hrc
 obtain ⟨j, rfl⟩ := Int.eq_ofNat_of_zero_le h1
 rw [toNat_cast] at h3
 simp only [F_ref16_Store_Cells_l1, toNat_cast] at *
 by_cases c : j < rows.length
 ·have e1 : cellsR (rows.take (j + 1)) = cellsR (rows.take j) + (rows.getD j default).l.length := by
   rw [take_snoc (d := default) c, cells_app]; rfl
  have e2 : cellsR rows = cellsR (rows.take (j + 1)) + cellsR (rows.drop (j + 1)) := by rw [← cells_app, List.take_append_drop]
  rw [if_pos (decide_eq_true (by omega)), chk_t (by omega), chk_t (by unfold inI; omega), chk_t (by unfold inI; omega)]
  exact hrc (_, (j : Int) + 1) ⟨by simp only; omega, by simp only; omega, by simp only [toNat_cast1]; omega⟩ (by simp only [toNat_cast1]; omega)
 ·rw [if_neg (by rw [decide_eq_false (by omega)]; decide), h3, List.take_of_length_le (by omega)]

theorem ref_lay (k : ByteArray) (c : ECell) : F_ref16_Store_lay ⟨rows, last⟩ k c = some ⟨insR k (gR k rows ++ [c]) rows, last⟩ := by
 have hlen := rows_cells hr
 have hp := pos_le (k := k) rows
 have hgl := g_len k rows
 have hz' := hz
 unfold big at hz'
 unfold F_ref16_Store_lay
 refine iter_up (posR k rows) (fun _ => some (⟨insR k (gR k rows ++ [c]) rows, last⟩ : Eref16_Store)) (by unfold bdM; omega) fun rc i hi hrc => ?_
 simp only [F_ref16_Store_lay_l1, toNat_cast]
 rw [chk_t (by intro hh; have := of_decide_eq_true hh; omega)]
 by_cases d : i < posR k rows
 ·rw [if_pos (by rw [decide_eq_true (by omega), pos_lt rows i d]; rfl), chk_t (by unfold inI; omega)]
  exact hrc d
 obtain rfl : i = posR k rows := by omega
 have gat : gR k rows = if hasR k rows = true then (rows.getD (posR k rows) default).l else [] := by
  unfold gR; rw [get_at]; split <;> rfl
 have new : hasR k rows = false → F_ref16_Store_lay_k2 ⟨rows, last⟩ c (posR k rows : Int) ((([] ++ rows.take (posR k rows)) ++ [({ k := k, l := ([] : List ECell) } : Eref16_Row)]) ++ rows.drop (posR k rows)) = some ⟨insR k (gR k rows ++ [c]) rows, last⟩ := fun hh => by
  have e1 : ((([] ++ rows.take (posR k rows)) ++ [({ k := k, l := ([] : List ECell) } : Eref16_Row)]) ++ rows.drop (posR k rows)) = rows.take (posR k rows) ++ ⟨k, []⟩ :: rows.drop (posR k rows) := by simp
  have hl : (rows.take (posR k rows)).length = posR k rows := by rw [List.length_take]; omega
  have e2 : (rows.take (posR k rows) ++ (⟨k, []⟩ : Rw) :: rows.drop (posR k rows)).getD (posR k rows) default = ⟨k, []⟩ := by
   rw [getD_lt (by rw [List.length_append, List.length_cons]; omega), List.getElem_append_right (by omega)]; simp [hl]
  rw [e1]
  unfold F_ref16_Store_lay_k2
  rw [toNat_cast, chk_t (by rw [List.length_append, List.length_cons]; omega), e2, chk_t (by simp only [List.length_nil]; omega), chk_t (by simp only [List.length_append, List.length_cons, List.length_nil]; omega), chk_t (by rw [List.length_append, List.length_cons]; omega), gat, if_neg (by rw [hh]; decide), ins_new rows hh]
  congr 2
  rw [List.set_append_right _ _ (by omega), hl, Nat.sub_self]; rfl
 by_cases d2 : posR k rows < rows.length
 ·obtain ⟨e1, e2⟩ := pos_at rows d2
  have e3 : ((posR k rows : Int) == (rows.length : Int)) = false := by rw [beq_eq_false_iff_ne]; omega
  rw [if_neg (by rw [e1, Bool.and_false]; decide), chk_t (fun _ => by omega), e3, Bool.false_or]
  by_cases hh : hasR k rows = true
  ·rw [← e2, hh, if_neg (by decide)]
   have hle := (r_at hr hz _ d2).2
   unfold big at hle
   unfold F_ref16_Store_lay_k2
   rw [toNat_cast, chk_t (by omega), chk_t (by simp only [List.length_nil]; omega), chk_t (by simp only [List.length_append, List.length_cons, List.length_nil]; omega), chk_t (by omega), gat, if_pos hh, ins_set rows hh]
   rfl
  ·have hh' : hasR k rows = false := by simpa using hh
   rw [← e2, hh', if_pos (by decide), chk_t (by omega), chk_t (by simp only [List.length_nil, List.length_take]; omega), chk_t (by simp only [List.length_append, List.length_cons, List.length_nil, List.length_take]; omega), chk_t (by omega), chk_t (by simp only [List.length_append, List.length_cons, List.length_nil, List.length_take, List.length_drop]; omega)]
   exact new hh'
 ·have e3 : ((posR k rows : Int) == (rows.length : Int)) = true := by rw [beq_iff_eq]; omega
  rw [decide_eq_false (by omega), if_neg (by rw [Bool.false_and]; decide), e3, chk_t (by intro hh; cases hh), if_pos (by rfl), chk_t (by omega), chk_t (by simp only [List.length_nil, List.length_take]; omega), chk_t (by simp only [List.length_append, List.length_cons, List.length_nil, List.length_take]; omega), chk_t (by omega), chk_t (by simp only [List.length_append, List.length_cons, List.length_nil, List.length_take, List.length_drop]; omega)]
  exact new (pos_end rows (by omega))

end
theorem ref_Put_loop {ts : Int} {last : Int} (h0 : 0 ≤ last) (ht : last < ts) (all : List EOp) (ha : all.length ≤ 4) (la : Int) : ∀ (n : Nat) (l : List EOp) (i : Nat) (a : Option ByteArray) (rows : List Rw), l.length < n → all.drop i = l → i ≤ all.length → KeysUp a l → halfOk last ts a rows → cellsR rows + l.length < big →
  iter (F_ref16_Store_Put_l1 ts all) n ((i : Int), ⟨rows, la⟩) = some (0, ⟨putR ts l rows, ts⟩)
 | 0, l, _, _, _, h, _, _, _, _, _ => by omega
 | n + 1, [], i, a, rows, _, hd, hi, hk, h5, h7 => by
  have : i = all.length := by
   have := congrArg List.length hd
   rw [List.length_drop, List.length_nil] at this; omega
  subst this
  show F_ref16_Store_Put_l1 ts all (iter (F_ref16_Store_Put_l1 ts all) n) (_, _) = _
  generalize iter (F_ref16_Store_Put_l1 ts all) n = rc
  unfold F_ref16_Store_Put_l1
  dsimp only
  rw [if_neg (by rw [decide_eq_false (by omega)]; decide)]; rfl
 | n + 1, o :: l, i, a, rows, hn, hd, hi, hk, h5, h7 => by
  have hi2 : i < all.length := by
   have := congrArg List.length hd
   rw [List.length_drop, List.length_cons] at this; omega
  rw [drop_cons (d := default) hi2] at hd
  injection hd with hd1 hd2
  obtain ⟨k1, k2, k3⟩ := hk
  obtain ⟨b1, b2⟩ := half_lay h5 h0 ht k1 k2
  rw [List.length_cons] at h7
  show F_ref16_Store_Put_l1 ts all (iter (F_ref16_Store_Put_l1 ts all) n) (_, _) = _
  generalize e0 : iter (F_ref16_Store_Put_l1 ts all) n = rc
  unfold F_ref16_Store_Put_l1
  dsimp only
  rw [if_pos (decide_eq_true (by omega)), chk_t (by omega), chk_t (by omega), chk_t (by omega), toNat_cast, hd1, ref_lay h5.r (by omega), Option.bind_some, chk_t (by unfold inI; omega), ← e0]
  exact ref_Put_loop h0 ht all ha la n l (i + 1) (some o.key) (layR ts o rows) (by rw [List.length_cons] at hn; omega) hd2 (by omega) k3 b2 (by rw [lay_cells]; omega)

theorem ref_Put16 {s : Emvcc_Store} {T : Etree_Tree_api_Cell} {rows : List Rw} (h : mvOk s T rows) (ts : Int) (l : List EOp) (hz : cellsR rows + 4 < big) :
  F_ref16_Store_Put ⟨rows, s.last⟩ ts l = some ((if ts = 0 then 5 else if ts ≤ s.last then 18 else batchCheck ⟨0, 1, l⟩), (if (if ts = 0 then (5 : Int) else if ts ≤ s.last then 18 else batchCheck ⟨0, 1, l⟩) = 0 then ⟨putR ts l rows, ts⟩ else ⟨rows, s.last⟩)) := by
 have hlast := h.last
 unfold F_ref16_Store_Put
 by_cases c1 : ts = 0
 ·rw [if_pos (by rw [c1]; rfl), if_pos c1]; rfl
 rw [if_neg (by rw [beq_iff_eq]; exact c1), if_neg c1]
 by_cases c2 : ts ≤ s.last
 ·rw [if_pos (decide_eq_true c2), if_pos c2]; rfl
 rw [if_neg (by rw [decide_eq_false c2]; decide), if_neg c2, ref06_Check, Option.bind_some]
 by_cases c3 : batchCheck ⟨0, 1, l⟩ = 0
 ·obtain ⟨u1, u2⟩ := batch_up c3
  rw [c3, if_neg (by decide)]
  exact ref_Put_loop (ts := ts) hlast (by omega) l u1 s.last FU l 0 none rows (by unfold FU; omega) rfl (Nat.zero_le _) u2 (mv_half h (by omega)) (by omega)
 ·rw [if_pos (by rw [bne_iff_ne]; exact c3), if_neg c3]

end Go.Proofs.Ytglfajjcgbfehaa

