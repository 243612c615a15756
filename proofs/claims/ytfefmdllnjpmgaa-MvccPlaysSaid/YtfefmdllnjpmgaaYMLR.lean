/- Many versions: the document's store, by its rows. -/
import Derived.Test.YtfefmdllnjpmgaaYML1
namespace Go.Proofs.Ytfefmdllnjpmgaa
section
variable {m : Int} {l : List ECell} (hl : okL m l) (hz : l.length ≤ big)
include hl hz
theorem rlast_ok (t : Int) : F_ref14_last l t = some ((cnt t l : Int) - 1) := by
 have hc := cnt_le (t := t) l
 unfold F_ref14_last
 unfold big at hz
 rw [chk_t (by unfold inI; omega)]
 refine iter_rule (fun s : Int => (s + 1).toNat) (fun _ => some ((cnt t l : Int) - 1)) (fun s => (cnt t l : Int) ≤ s + 1 ∧ s + 1 ≤ (l.length : Int)) ?_ FU _ ⟨by omega, by omega⟩ (by unfold FU; omega)
 rintro rc i ⟨h1, h2⟩ hrc
 unfold F_ref14_last_l1
 dsimp only
 by_cases c : i ≥ 0
 ·obtain ⟨j, rfl⟩ := Int.eq_ofNat_of_zero_le c
  rw [if_pos (decide_eq_true c), chk_t (by omega), toNat_cast]
  by_cases d : (l.getD j default).ts ≤ t
  ·rw [if_pos (decide_eq_true d)]
   have : ¬ cnt t l ≤ j := fun h => by have := cnt_ge (t := t) hl.ris j h (by omega); omega
   congr 1; omega
  ·rw [if_neg (by rw [decide_eq_false d]; decide), chk_t (by unfold inI; omega)]
   have : ¬ j < cnt t l := fun h => d (cnt_lt l j h)
   exact hrc _ ⟨by omega, by omega⟩ (by omega)
 ·rw [if_neg (by rw [decide_eq_false c]; decide)]
  congr 1; omega

theorem rat_ok (t : Int) : F_ref14_At l t = some (atL l t) := by
 have hc := cnt_le (t := t) l
 unfold F_ref14_At
 rw [rlast_ok hl hz, Option.bind_some]
 unfold big at hz
 unfold atL
 by_cases c : cnt t l = 0
 ·have e : decide ((cnt t l : Int) - 1 < 0) = true := decide_eq_true (by omega)
  rw [e, chk_t (by intro h; cases h), if_pos (by rfl), if_pos c]
 ·have e : ((cnt t l : Int) - 1).toNat = cnt t l - 1 := by omega
  have e2 : decide ((cnt t l : Int) - 1 < 0) = false := decide_eq_false (by omega)
  rw [e, e2, Bool.false_or, chk_t (fun _ => by omega), if_neg c]
  by_cases d : (l.getD (cnt t l - 1) default).del = true
  ·rw [if_pos d, if_pos d]
  ·rw [if_neg d, if_neg d, chk_t (by omega)]

theorem rprune_ok (h : Int) : F_ref14_Prune l h = some (prL l h) := by
 have hc := cnt_le (t := h) l
 unfold F_ref14_Prune
 rw [rlast_ok hl hz, Option.bind_some]
 unfold big at hz
 unfold prL F_ref14_Prune_k1
 have e3 : ((cnt h l : Int) - 1 + 1).toNat = cnt h l := by omega
 by_cases c : cnt h l = 0
 ·have e : decide ((cnt h l : Int) - 1 < 0) = true := decide_eq_true (by omega)
  rw [e, chk_t (by intro h; cases h), if_pos (by rfl), chk_t (by unfold inI; omega), e3, chk_t (by omega), chk_t (by simp only [List.length_nil, List.length_drop]; omega), if_neg (by omega)]; rfl
 ·have e : ((cnt h l : Int) - 1).toNat = cnt h l - 1 := by omega
  have e2 : decide ((cnt h l : Int) - 1 < 0) = false := decide_eq_false (by omega)
  rw [e, e2, Bool.false_or, chk_t (fun _ => by omega)]
  by_cases d : (l.getD (cnt h l - 1) default).del = true
  ·rw [if_pos d, chk_t (by unfold inI; omega), e3, chk_t (by omega), chk_t (by simp only [List.length_nil, List.length_drop]; omega), if_neg (by rintro ⟨_, h⟩; rw [d] at h; cases h)]; rfl
  ·have d' : (l.getD (cnt h l - 1) default).del = false := by simpa using d
   rw [if_neg d, chk_t (by omega), chk_t (by simp only [List.length_nil, List.length_drop]; omega), if_pos ⟨by omega, d'⟩]; rfl

end
def fR (k : ByteArray) : List Rw → List ECell
 | [] => []
 | r :: l => if seqB r.k k = true then r.l else fR k l

theorem f_none {k : ByteArray} : ∀ {rows : List Rw}, (∀ r ∈ rows, seqB r.k k = false) → fR k rows = []
 | [], _ => rfl
 | r :: l, h => by rw [fR, if_neg (by rw [h r (by simp)]; decide), f_none fun x hx => h x (by simp [hx])]

theorem f_g {k : ByteArray} : ∀ {rows : List Rw}, Srt rows → fR k rows = gR k rows
 | [], _ => rfl
 | r :: l, hs => by
  obtain ⟨h1, h2⟩ := List.pairwise_cons.1 hs
  rw [fR]
  by_cases c : sltB r.k k = true
  ·rw [if_neg (by rw [slt_ne c]; decide), g_t c, f_g h2]
  ·rw [g_f c]
   by_cases q : seqB r.k k = true
   ·rw [if_pos q, if_pos q]
   ·rw [if_neg q, if_neg q, f_none]
    intro x hx
    have := slt_trans (slt_tri (by simpa using c) (by simpa using q)) (h1 x hx)
    exact slt_ne' this

section
variable {m : Int} {rows : List Rw} (hr : ∀ r ∈ rows, okR m r) (hs : Srt rows) (hz : cellsR rows < big) (last : Int)
include hr hz
theorem r_at (j : Nat) (hj : j < rows.length) : okL m (rows.getD j default).l ∧ (rows.getD j default).l.length ≤ big := by
 rw [getD_lt hj]
 have := mem_cells (List.getElem_mem hj)
 exact ⟨(hr _ (List.getElem_mem hj)).l, by omega⟩

include hs in
theorem ref_Get (k : ByteArray) (t : Int) : F_ref16_Store_Get ⟨rows, last⟩ k t = some (atL (gR k rows) t) := by
 have hlen := rows_cells hr
 have hz' := hz
 unfold big at hz'
 rw [← f_g hs]
 unfold F_ref16_Store_Get
 refine (iter_up rows.length (fun j => some (atL (fR k (rows.drop j)) t)) (by unfold bdM; omega) fun rc j hj hrc => ?_).trans rfl
 simp only [F_ref16_Store_Get_l1, toNat_cast]
 by_cases c : j < rows.length
 ·obtain ⟨a1, a2⟩ := r_at hr hz j c
  rw [if_pos (decide_eq_true (by omega)), chk_t (by omega), drop_cons (d := default) c, fR]
  by_cases q : seqB (rows.getD j default).k k = true
  ·rw [if_pos q, if_pos q, chk_t (by omega), rat_ok a1 a2]; rfl
  ·rw [if_neg q, if_neg q, chk_t (by unfold inI; omega)]
   exact hrc c
 ·rw [if_neg (by rw [decide_eq_false (by omega)]; decide), List.drop_eq_nil_of_le (by omega)]; rfl

theorem ref_Cells : F_ref16_Store_Cells ⟨rows, last⟩ = some (cellsR rows : Int) := by
 have hlen := rows_cells hr
 unfold big at hz
 unfold F_ref16_Store_Cells
 refine iter_rule (fun s : Int × Int => rows.length - s.2.toNat) (fun _ => some (cellsR rows : Int)) (fun s => 0 ≤ s.2 ∧ s.2 ≤ (rows.length : Int) ∧ s.1 = (cellsR (rows.take s.2.toNat) : Int)) ?_ FU _ ⟨by simp, by simp, by rfl⟩ (by unfold FU; simp only; omega)
 rintro rc ⟨n, i⟩ ⟨h1, h2, h3⟩ hrc
 simp only at h1 h2 h3 hrc
 obtain ⟨j, rfl⟩ := Int.eq_ofNat_of_zero_le h1
 rw [toNat_cast] at h3
 simp only [F_ref16_Store_Cells_l1, toNat_cast] at *
 by_cases c : j < rows.length
 ·have e1 : cellsR (rows.take (j + 1)) = cellsR (rows.take j) + (rows.getD j default).l.length := by
   rw [take_snoc (d := default) c, cells_app]; rfl
  have e2 : cellsR rows = cellsR (rows.take (j + 1)) + cellsR (rows.drop (j + 1)) := by rw [← cells_app, List.take_append_drop]
  rw [if_pos (decide_eq_true (by omega)), chk_t (by omega), chk_t (by unfold inI; omega), chk_t (by unfold inI; omega)]
  exact hrc (_, (j : Int) + 1) ⟨by simp only; omega, by simp only; omega, by simp only [toNat_cast1]; omega⟩ (by simp only [toNat_cast1]; omega)
 ·rw [if_neg (by rw [decide_eq_false (by omega)]; decide), h3, List.take_of_length_le (by omega)]

theorem ref_Scan (f to_ : ByteArray) (t : Int) (most : Int) : F_ref16_Store_Scan ⟨rows, last⟩ f to_ t most = some ((viewR f to_ t rows).take most.toNat, decide (most.toNat < (viewR f to_ t rows).length)) := by
 have hlen := rows_cells hr
 have hz' := hz
 unfold big at hz'
 unfold F_ref16_Store_Scan
 refine iter_rule (fun s : List EPair × Int => rows.length - s.2.toNat) (fun _ => some ((viewR f to_ t rows).take most.toNat, decide (most.toNat < (viewR f to_ t rows).length))) (fun q => 0 ≤ q.2 ∧ q.2 ≤ (rows.length : Int) ∧ q.1 = viewR f to_ t (rows.take q.2.toNat) ∧ q.1.length ≤ most.toNat) ?_ FU _ ⟨by simp, by simp, rfl, Nat.zero_le _⟩ (by unfold FU; simp only; omega)
 rintro rc ⟨o, x⟩ ⟨h1, h2, h3, h4⟩ hrc
 simp only at h1 h2 h3 h4 hrc
 obtain ⟨j, rfl⟩ := Int.eq_ofNat_of_zero_le h1
 rw [toNat_cast] at h3
 have hfull : viewR f to_ t rows = o ++ viewR f to_ t (rows.drop j) := by
  rw [h3]; unfold viewR; rw [← List.filterMap_append, List.take_append_drop]
 have hol : o.length ≤ j := by rw [h3]; exact Nat.le_trans (view_len _ _ _ _) (by rw [List.length_take]; omega)
 simp only [F_ref16_Store_Scan_l1, toNat_cast, F_ref16_Store_Scan_k2]
 by_cases c : j < rows.length
 ·obtain ⟨a1, a2⟩ := r_at hr hz j c
  have hs : viewR f to_ t (rows.take (j + 1)) = o ++ (visR f to_ t (rows.getD j default)).toList := by
   rw [take_snoc (d := default) c, h3]; unfold viewR; rw [List.filterMap_append]; congr 1
  have hd : viewR f to_ t (rows.drop j) = (visR f to_ t (rows.getD j default)).toList ++ viewR f to_ t (rows.drop (j + 1)) := by
   rw [drop_cons (d := default) c]; unfold viewR; rw [List.filterMap_cons]
   cases visR f to_ t (rows.getD j default) <;> rfl
  rw [if_pos (decide_eq_true (by omega)), chk_t (by omega), rat_ok a1 a2, Option.bind_some, chk_t (fun _ => by omega)]
  unfold F_ref05_In
  rw [gif_some, Option.bind_some]
  by_cases v : (atL (rows.getD j default).l t).2 = true
  ·rw [v, if_pos (show (!(!true)) = true from rfl)]
   by_cases g2 : inR f to_ (rows.getD j default).k = true
   ·have hv : visR f to_ t (rows.getD j default) = some ⟨(rows.getD j default).k, (atL (rows.getD j default).l t).1⟩ := by unfold visR; rw [if_pos (by rw [v, g2]; rfl)]
    rw [if_neg (by rw [show ((!sltB (rows.getD j default).k f) && ((seqB to_ ⟨#[]⟩) || (sltB (rows.getD j default).k to_))) = true from g2]; decide)]
    rw [hv] at hs hd
    by_cases q : (o.length : Int) ≥ max most 0
    ·have e1 : most.toNat = o.length := by omega
     rw [if_pos (decide_eq_true q), hfull, e1, List.take_left, decide_eq_true (by rw [List.length_append, hd]; simp)]
    ·rw [if_neg (by rw [decide_eq_false q]; decide), chk_t (by omega), chk_t (by simp only [List.length_cons, List.length_nil]; omega), chk_t (by unfold inI; omega)]
     refine hrc (_, (j : Int) + 1) ⟨by simp only; omega, by simp only; omega, ?_, ?_⟩ (by simp only [toNat_cast1]; omega)
     ·simp only [toNat_cast1]; rw [hs]; rfl
     ·simp only [List.length_append, List.length_cons, List.length_nil]; omega
   ·have g2' : inR f to_ (rows.getD j default).k = false := by simpa using g2
    have hv : visR f to_ t (rows.getD j default) = none := by unfold visR; rw [if_neg (by rw [g2', Bool.and_false]; decide)]
    rw [if_pos (by rw [show ((!sltB (rows.getD j default).k f) && ((seqB to_ ⟨#[]⟩) || (sltB (rows.getD j default).k to_))) = false from g2']; rfl)]
    rw [hv] at hs
    rw [chk_t (by unfold inI; omega)]
    refine hrc (_, (j : Int) + 1) ⟨by simp only; omega, by simp only; omega, ?_, h4⟩ (by simp only [toNat_cast1]; omega)
    simp only [toNat_cast1]; rw [hs]; simp
  ·have v' : (atL (rows.getD j default).l t).2 = false := by simpa using v
   have hv : visR f to_ t (rows.getD j default) = none := by unfold visR; rw [if_neg (by rw [v', Bool.false_and]; decide)]
   rw [hv] at hs
   rw [v', if_pos (by rfl), chk_t (by unfold inI; omega)]
   refine hrc (_, (j : Int) + 1) ⟨by simp only; omega, by simp only; omega, ?_, h4⟩ (by simp only [toNat_cast1]; omega)
   simp only [toNat_cast1]; rw [hs]; simp
 ·rw [if_neg (by rw [decide_eq_false (by omega)]; decide)]
  have e : viewR f to_ t rows = o := by rw [hfull, List.drop_eq_nil_of_le (by omega)]; simp [viewR]
  rw [e, List.take_of_length_le h4, decide_eq_false (by omega)]

theorem ref_lay (k : ByteArray) (c : ECell) : F_ref16_Store_lay ⟨rows, last⟩ k c = some ⟨insR k (gR k rows ++ [c]) rows, last⟩ := by
 have hlen := rows_cells hr
 have hp := pos_le (k := k) rows
 have hgl := g_len k rows
 have hz' := hz
 unfold big at hz'
 unfold F_ref16_Store_lay
 refine iter_up (posR k rows) (fun _ => some (⟨insR k (gR k rows ++ [c]) rows, last⟩ : Eref16_Store)) (by unfold bdM; omega) fun rc i hi hrc => ?_
 simp only [F_ref16_Store_lay_l1, toNat_cast]
 rw [chk_t (by intro hh; have := of_decide_eq_true hh; omega)]
 by_cases d : i < posR k rows
 ·rw [if_pos (by rw [decide_eq_true (by omega), pos_lt rows i d]; rfl), chk_t (by unfold inI; omega)]
  exact hrc d
 obtain rfl : i = posR k rows := by omega
 have gat : gR k rows = if hasR k rows = true then (rows.getD (posR k rows) default).l else [] := by
  unfold gR; rw [get_at]; split <;> rfl
 have new : hasR k rows = false → F_ref16_Store_lay_k2 ⟨rows, last⟩ c (posR k rows : Int) ((([] ++ rows.take (posR k rows)) ++ [({ k := k, l := ([] : List ECell) } : Eref16_Row)]) ++ rows.drop (posR k rows)) = some ⟨insR k (gR k rows ++ [c]) rows, last⟩ := fun hh => by
  have e1 : ((([] ++ rows.take (posR k rows)) ++ [({ k := k, l := ([] : List ECell) } : Eref16_Row)]) ++ rows.drop (posR k rows)) = rows.take (posR k rows) ++ ⟨k, []⟩ :: rows.drop (posR k rows) := by simp
  have hl : (rows.take (posR k rows)).length = posR k rows := by rw [List.length_take]; omega
  have e2 : (rows.take (posR k rows) ++ (⟨k, []⟩ : Rw) :: rows.drop (posR k rows)).getD (posR k rows) default = ⟨k, []⟩ := by
   rw [getD_lt (by rw [List.length_append, List.length_cons]; omega), List.getElem_append_right (by omega)]; simp [hl]
  rw [e1]
  unfold F_ref16_Store_lay_k2
  rw [toNat_cast, chk_t (by rw [List.length_append, List.length_cons]; omega), e2, chk_t (by simp only [List.length_nil]; omega), chk_t (by simp only [List.length_append, List.length_cons, List.length_nil]; omega), chk_t (by rw [List.length_append, List.length_cons]; omega), gat, if_neg (by rw [hh]; decide), ins_new rows hh]
  congr 2
  rw [List.set_append_right _ _ (by omega), hl, Nat.sub_self]; rfl
 by_cases d2 : posR k rows < rows.length
 ·obtain ⟨e1, e2⟩ := pos_at rows d2
  have e3 : ((posR k rows : Int) == (rows.length : Int)) = false := by rw [beq_eq_false_iff_ne]; omega
  rw [if_neg (by rw [e1, Bool.and_false]; decide), chk_t (fun _ => by omega), e3, Bool.false_or]
  by_cases hh : hasR k rows = true
  ·rw [← e2, hh, if_neg (by decide)]
   have hle := (r_at hr hz _ d2).2
   unfold big at hle
   unfold F_ref16_Store_lay_k2
   rw [toNat_cast, chk_t (by omega), chk_t (by simp only [List.length_nil]; omega), chk_t (by simp only [List.length_append, List.length_cons, List.length_nil]; omega), chk_t (by omega), gat, if_pos hh, ins_set rows hh]
   rfl
  ·have hh' : hasR k rows = false := by simpa using hh
   rw [← e2, hh', if_pos (by decide), chk_t (by omega), chk_t (by simp only [List.length_nil, List.length_take]; omega), chk_t (by simp only [List.length_append, List.length_cons, List.length_nil, List.length_take]; omega), chk_t (by omega), chk_t (by simp only [List.length_append, List.length_cons, List.length_nil, List.length_take, List.length_drop]; omega)]
   exact new hh'
 ·have e3 : ((posR k rows : Int) == (rows.length : Int)) = true := by rw [beq_iff_eq]; omega
  rw [decide_eq_false (by omega), if_neg (by rw [Bool.false_and]; decide), e3, chk_t (by intro hh; cases hh), if_pos (by rfl), chk_t (by omega), chk_t (by simp only [List.length_nil, List.length_take]; omega), chk_t (by simp only [List.length_append, List.length_cons, List.length_nil, List.length_take]; omega), chk_t (by omega), chk_t (by simp only [List.length_append, List.length_cons, List.length_nil, List.length_take, List.length_drop]; omega)]
  exact new (pos_end rows (by omega))

end
theorem ref_Put_loop {ts : Int} {last : Int} (h0 : 0 ≤ last) (ht : last < ts) (all : List EOp) (ha : all.length ≤ 4) (la : Int) : ∀ (n : Nat) (l : List EOp) (i : Nat) (a : Option ByteArray) (rows : List Rw), l.length < n → all.drop i = l → i ≤ all.length → KeysUp a l → halfOk last ts a rows → cellsR rows + l.length < big →
  iter (F_ref16_Store_Put_l1 ts all) n ((i : Int), ⟨rows, la⟩) = some (0, ⟨putR ts l rows, ts⟩)
 | 0, l, _, _, _, h, _, _, _, _, _ => by omega
 | n + 1, [], i, a, rows, _, hd, hi, hk, h5, h7 => by
  have : i = all.length := by
   have := congrArg List.length hd
   rw [List.length_drop, List.length_nil] at this; omega
  subst this
  show F_ref16_Store_Put_l1 ts all (iter (F_ref16_Store_Put_l1 ts all) n) (_, _) = _
  generalize iter (F_ref16_Store_Put_l1 ts all) n = rc
  unfold F_ref16_Store_Put_l1
  dsimp only
  rw [if_neg (by rw [decide_eq_false (by omega)]; decide)]; rfl
 | n + 1, o :: l, i, a, rows, hn, hd, hi, hk, h5, h7 => by
  have hi2 : i < all.length := by
   have := congrArg List.length hd
   rw [List.length_drop, List.length_cons] at this; omega
  rw [drop_cons (d := default) hi2] at hd
  injection hd with hd1 hd2
  obtain ⟨k1, k2, k3⟩ := hk
  obtain ⟨b1, b2⟩ := half_lay h5 h0 ht k1 k2
  rw [List.length_cons] at h7
  show F_ref16_Store_Put_l1 ts all (iter (F_ref16_Store_Put_l1 ts all) n) (_, _) = _
  generalize e0 : iter (F_ref16_Store_Put_l1 ts all) n = rc
  unfold F_ref16_Store_Put_l1
  dsimp only
  rw [if_pos (decide_eq_true (by omega)), chk_t (by omega), chk_t (by omega), chk_t (by omega), toNat_cast, hd1, ref_lay h5.r (by omega), Option.bind_some, chk_t (by unfold inI; omega), ← e0]
  exact ref_Put_loop h0 ht all ha la n l (i + 1) (some o.key) (layR ts o rows) (by rw [List.length_cons] at hn; omega) hd2 (by omega) k3 b2 (by rw [lay_cells]; omega)

theorem ref_Put16 {s : Emvcc_Store} {T : Etree_Tree_api_Cell} {rows : List Rw} (h : mvOk s T rows) (ts : Int) (l : List EOp) (hz : cellsR rows + 4 < big) :
  F_ref16_Store_Put ⟨rows, s.last⟩ ts l = some ((if ts = 0 then 5 else if ts ≤ s.last then 18 else batchCheck ⟨0, 1, l⟩), (if (if ts = 0 then (5 : Int) else if ts ≤ s.last then 18 else batchCheck ⟨0, 1, l⟩) = 0 then ⟨putR ts l rows, ts⟩ else ⟨rows, s.last⟩)) := by
 have hlast := h.last
 unfold F_ref16_Store_Put
 by_cases c1 : ts = 0
 ·rw [if_pos (by rw [c1]; rfl), if_pos c1]; rfl
 rw [if_neg (by rw [beq_iff_eq]; exact c1), if_neg c1]
 by_cases c2 : ts ≤ s.last
 ·rw [if_pos (decide_eq_true c2), if_pos c2]; rfl
 rw [if_neg (by rw [decide_eq_false c2]; decide), if_neg c2, ref06_Check, Option.bind_some]
 by_cases c3 : batchCheck ⟨0, 1, l⟩ = 0
 ·obtain ⟨u1, u2⟩ := batch_up c3
  rw [c3, if_neg (by decide)]
  exact ref_Put_loop (ts := ts) hlast (by omega) l u1 s.last FU l 0 none rows (by unfold FU; omega) rfl (Nat.zero_le _) u2 (mv_half h (by omega)) (by omega)
 ·rw [if_pos (by rw [bne_iff_ne]; exact c3), if_neg c3]

theorem ref_Prune16 {m : Int} {rows : List Rw} (hr : ∀ r ∈ rows, okR m r) (hz : cellsR rows < big) (last h : Int) : F_ref16_Store_Prune ⟨rows, last⟩ h = some ((cellsR rows : Int) - (cellsR (pruneR h rows) : Int), ⟨pruneR h rows, last⟩) := by
 have hlen := rows_cells hr
 have hpc := prune_cells h rows
 have hz' := hz
 unfold big at hz'
 unfold F_ref16_Store_Prune
 rw [ref_Cells hr hz, Option.bind_some]
 refine iter_rule (fun s : List Rw × Int => rows.length - s.2.toNat) (fun _ => some ((cellsR rows : Int) - (cellsR (pruneR h rows) : Int), (⟨pruneR h rows, last⟩ : Eref16_Store))) (fun q => 0 ≤ q.2 ∧ q.2 ≤ (rows.length : Int) ∧ q.1 = pruneR h (rows.take q.2.toNat)) ?_ FU _ ⟨by simp, by simp, rfl⟩ (by unfold FU; simp only; omega)
 rintro rc ⟨o, x⟩ ⟨h1, h2, h3⟩ hrc
 simp only at h1 h2 h3 hrc
 obtain ⟨j, rfl⟩ := Int.eq_ofNat_of_zero_le h1
 rw [toNat_cast] at h3
 have hol : o.length ≤ j := by rw [h3]; exact Nat.le_trans (List.length_filterMap_le _ _) (by rw [List.length_take]; omega)
 simp only [F_ref16_Store_Prune_l1, toNat_cast, F_ref16_Store_Prune_k2]
 by_cases c : j < rows.length
 ·obtain ⟨a1, a2⟩ := r_at hr hz j c
  have hs : pruneR h (rows.take (j + 1)) = o ++ (prR h (rows.getD j default)).toList := by
   rw [take_snoc (d := default) c, h3, prune_app]; congr 1
  rw [if_pos (decide_eq_true (by omega)), chk_t (by omega), rprune_ok a1 a2, Option.bind_some]
  by_cases d : prL (rows.getD j default).l h = []
  ·rw [show prR h (rows.getD j default) = none from if_pos d] at hs
   rw [d, if_neg (by decide), chk_t (by unfold inI; omega)]
   refine hrc (_, (j : Int) + 1) ⟨by simp only; omega, by simp only; omega, ?_⟩ (by simp only [toNat_cast1]; omega)
   simp only [toNat_cast1]; rw [hs]; simp
  ·rw [show prR h (rows.getD j default) = some _ from if_neg d] at hs
   have hpos := List.length_pos_iff.2 d
   rw [if_pos (decide_eq_true (by omega)), chk_t (by omega), chk_t (by simp only [List.length_cons, List.length_nil]; omega), chk_t (by unfold inI; omega)]
   refine hrc (_, (j : Int) + 1) ⟨by simp only; omega, by simp only; omega, ?_⟩ (by simp only [toNat_cast1]; omega)
   simp only [toNat_cast1]; rw [hs]; rfl
 ·rw [if_neg (by rw [decide_eq_false (by omega)]; decide)]
  have e : o = pruneR h rows := by rw [h3, List.take_of_length_le (by omega)]
  subst e
  rw [ref_Cells (prune_ok_rows hr) (by omega), Option.bind_some, chk_t (by unfold inI; omega)]

end Go.Proofs.Ytfefmdllnjpmgaa
