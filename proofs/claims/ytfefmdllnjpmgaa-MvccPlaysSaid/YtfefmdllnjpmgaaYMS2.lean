/- Many versions: the program's store put into and pruned, by its rows. -/
import Derived.Test.YtfefmdllnjpmgaaYMS
namespace Go.Proofs.Ytfefmdllnjpmgaa

def layR (ts : Int) (o : EOp) (rows : List Rw) : List Rw := insR o.key (gR o.key rows ++ [⟨ts, o.val, o.del⟩]) rows

def putR (ts : Int) (l : List EOp) (rows : List Rw) : List Rw := l.foldl (fun r o => layR ts o r) rows

def KeysUp : Option ByteArray → List EOp → Prop
 | _, [] => True
 | a, o :: l => bdK o.key ∧ (∀ b, a = some b → sltB b o.key = true) ∧ KeysUp (some o.key) l

theorem chk_up : ∀ (l : List EOp) (a : Option ByteArray), opsChk a l = 0 → KeysUp a l
 | [], _, _ => trivial
 | x :: r, a, h => by
  rw [opsChk_cons] at h
  split at h; · cases h
  split at h; · cases h
  by_cases c3 : (x.del && !decide (x.val.size = 0)) = true
  ·rw [if_pos c3] at h; cases h
  rw [if_neg c3] at h
  by_cases c4 : notBehind a x.key = true
  ·rw [if_pos c4] at h; cases h
  rw [if_neg c4] at h
  refine ⟨⟨by omega, by omega⟩, fun b hb => ?_, chk_up r _ h⟩
  subst hb
  simpa [notBehind] using c4

theorem batch_up {l : List EOp} (h : batchCheck ⟨0, 1, l⟩ = 0) : l.length ≤ 4 ∧ KeysUp none l := by
 unfold batchCheck at h
 split at h; · cases h
 split at h; · cases h
 split at h; · cases h
 rename_i h3
 exact ⟨by simpa using h3, chk_up _ _ h⟩

theorem ins_g {k : ByteArray} {v : List ECell} {j : ByteArray} : ∀ {rows : List Rw}, sltB k j = true → gR j (insR k v rows) = gR j rows
 | [], h => by rw [show insR k v [] = [⟨k, v⟩] from rfl, g_t (r := ⟨k, v⟩) h]
 | r :: l, h => by
  by_cases c : sltB r.k k = true
  ·rw [insR_t c]
   have c2 := slt_trans c h
   rw [g_t c2, g_t c2, ins_g h]
  ·rw [insR_f c]
   by_cases q : seqB r.k k = true
   ·rw [if_pos q]
    have e := seqB_iff.1 q
    have c2 : sltB r.k j = true := by rw [e]; exact h
    rw [g_t (r := ⟨r.k, v⟩) c2, g_t c2]
   ·rw [if_neg q, g_t (r := ⟨k, v⟩) h]

/-- rows ahead of and behind a time that is being put: those whose key comes later are as they were -/
structure halfOk (last ts : Int) (a : Option ByteArray) (rows : List Rw) : Prop where
 r : ∀ r ∈ rows, okR ts r
 g : ∀ k, (∀ b, a = some b → sltB b k = true) → okL last (gR k rows)

theorem half_lay {last ts : Int} {a : Option ByteArray} {rows : List Rw} {o : EOp} (h : halfOk last ts a rows) (h0 : 0 ≤ last) (ht : last < ts) (hk : bdK o.key) (ha : ∀ b, a = some b → sltB b o.key = true) : okL ts (gR o.key rows ++ [⟨ts, o.val, o.del⟩]) ∧ halfOk last ts (some o.key) (layR ts o rows) := by
 have h1 := (h.g o.key ha).snoc (c := ⟨ts, o.val, o.del⟩) h0 ht
 refine ⟨h1, fun r hr => ins_all (P := okR ts) ⟨h1, by simp, hk⟩ h.r r hr, fun k hb => ?_⟩
 have h2 := hb o.key rfl
 unfold layR
 rw [ins_g h2]
 refine h.g k fun b e => ?_
 exact slt_trans (ha b e) h2

theorem lay_cells (ts : Int) (o : EOp) (rows : List Rw) : cellsR (layR ts o rows) = cellsR rows + 1 := ins_cells _ _ _

theorem put_cells (ts : Int) : ∀ (l : List EOp) (rows : List Rw), cellsR (putR ts l rows) = cellsR rows + l.length
 | [], _ => rfl
 | o :: l, rows => by
  rw [show putR ts (o :: l) rows = putR ts l (layR ts o rows) from rfl, put_cells, lay_cells, List.length_cons]; omega

section
variable {ts : Int}
theorem Put_loop {last : Int} {s0 : Emvcc_Store} (hl : s0.last = last) (h0 : 0 ≤ last) (ht : last < ts) (all : List EOp) (ha : all.length ≤ 4) : ∀ (n : Nat) (l : List EOp) (i : Nat) (a : Option ByteArray) (s : Emvcc_Store) (T : Etree_Tree_api_Cell) (rows : List Rw), l.length < n → all.drop i = l → i ≤ all.length → KeysUp a l → s.t = some T → s.last = last → trOk T → rowsT T.top = rows → halfOk last ts a rows → s.n = (cellsR rows : Int) → cellsR rows + l.length < big →
  ∃ s' T', iter (F_mvcc_Store_Put_l1 ts all) n ((i : Int), s) = some (0, s') ∧ mvOk s' T' (putR ts l rows) ∧ s'.last = ts
 | 0, l, _, _, _, _, _, h, _, _, _, _, _, _, _, _, _, _ => by omega
 | n + 1, [], i, a, s, T, rows, _, hd, hi, hk, h1, h2, h3, h4, h5, h6, h7 => by
  have : i = all.length := by
   have := congrArg List.length hd
   rw [List.length_drop, List.length_nil] at this; omega
  subst this
  show ∃ s' T', F_mvcc_Store_Put_l1 ts all (iter (F_mvcc_Store_Put_l1 ts all) n) (_, s) = _ ∧ _
  unfold F_mvcc_Store_Put_l1
  dsimp only
  rw [if_neg (by rw [decide_eq_false (by omega)]; decide)]
  exact ⟨_, T, rfl, ⟨h1, h3, h4, h5.r, h6, by show 0 ≤ ts; omega⟩, rfl⟩
 | n + 1, o :: l, i, a, s, T, rows, hn, hd, hi, hk, h1, h2, h3, h4, h5, h6, h7 => by
  have hi2 : i < all.length := by
   have := congrArg List.length hd
   rw [List.length_drop, List.length_cons] at this; omega
  rw [drop_cons (d := default) hi2] at hd
  injection hd with hd1 hd2
  obtain ⟨k1, k2, k3⟩ := hk
  obtain ⟨b1, b2⟩ := half_lay h5 h0 ht k1 k2
  have hrl := rows_cells h5.r
  have hgl := g_len o.key rows
  rw [List.length_cons] at h7
  show ∃ s' T', F_mvcc_Store_Put_l1 ts all (iter (F_mvcc_Store_Put_l1 ts all) n) (_, s) = _ ∧ _
  unfold F_mvcc_Store_Put_l1
  dsimp only
  rw [if_pos (decide_eq_true (by omega)), chk_t (by omega), toNat_cast, hd1, h1]
  simp only [optE]
  rw [tree_Get h3, Option.bind_some, h4, show (getR o.key rows).1 = gR o.key rows from rfl, vput_ok (h5.g o.key k2) (by omega) h0 ht, Option.bind_some]
  obtain ⟨T', e1, e2, e3⟩ := tree_Put h3 (by rw [h4]; omega) o.key (gR o.key rows ++ [⟨ts, o.val, o.del⟩])
  rw [e1, Option.bind_some, h6, chk_t (by unfold inI; unfold big at h7; omega), chk_t (by unfold inI; omega)]
  rw [h4] at e3
  exact Put_loop hl h0 ht all ha n l (i + 1) (some o.key) _ T' (layR ts o rows) (by rw [List.length_cons] at hn; omega) hd2 (by omega) k3 rfl h2 e2 e3 b2 (by rw [lay_cells]; rfl) (by rw [lay_cells]; omega)

end
section
variable {s : Emvcc_Store} {T : Etree_Tree_api_Cell} {rows : List Rw} (h : mvOk s T rows)
include h
theorem mv_half {ts : Int} (ht : s.last < ts) : halfOk s.last ts none rows := ⟨fun r hr => ⟨(h.r r hr).l.mono (by omega), (h.r r hr).ne, (h.r r hr).k⟩, fun k _ => g_ok fun r hr => (h.r r hr).l⟩

theorem mv_Put (ts : Int) (h0 : 0 ≤ ts) (l : List EOp) (hz : cellsR rows + 4 < big) : ∃ e s' T', F_mvcc_Store_Put s ts l = some (e, s') ∧ e = (if ts = 0 then 5 else if ts ≤ s.last then 18 else batchCheck ⟨0, 1, l⟩) ∧ mvOk s' T' (if e = 0 then putR ts l rows else rows) ∧ s'.last = (if e = 0 then ts else s.last) ∧ (e = 0 → s.last < ts ∧ l.length ≤ 4 ∧ KeysUp none l) := by
 have hlast := h.last
 unfold F_mvcc_Store_Put
 rw [mv_none h, Option.bind_some, if_neg (by decide)]
 by_cases c1 : ts = 0
 ·exact ⟨5, s, T, by rw [if_pos (by rw [c1]; rfl)], by rw [if_pos c1], h, rfl, fun e => by cases e⟩
 rw [if_neg (by rw [beq_iff_eq]; exact c1), if_neg c1]
 by_cases c2 : ts ≤ s.last
 ·exact ⟨18, s, T, by rw [if_pos (decide_eq_true c2)], by rw [if_pos c2], h, rfl, fun e => by cases e⟩
 rw [if_neg (by rw [decide_eq_false c2]; decide), if_neg c2, ops_Check, Option.bind_some]
 by_cases c3 : batchCheck ⟨0, 1, l⟩ = 0
 ·obtain ⟨u1, u2⟩ := batch_up c3
  rw [c3, if_neg (by decide)]
  obtain ⟨s', T', e1, e2, e3⟩ := Put_loop (ts := ts) rfl hlast (by omega) l u1 FU l 0 none s T rows (by unfold FU; omega) rfl (Nat.zero_le _) u2 h.t rfl h.ok h.rs (mv_half h (by omega)) h.n (by omega)
  exact ⟨0, s', T', e1, rfl, e2, e3, fun _ => ⟨by omega, u1, u2⟩⟩
 ·rw [if_pos (by rw [bne_iff_ne]; exact c3)]
  exact ⟨_, s, T, rfl, rfl, by rw [if_neg c3]; exact h, by rw [if_neg c3], fun e => absurd e c3⟩

end
-- pruning
def prR (h : Int) (r : Rw) : Option Rw := if prL r.l h = [] then none else some ⟨r.k, prL r.l h⟩

def pruneR (h : Int) (rows : List Rw) : List Rw := rows.filterMap (prR h)

theorem pr_k {h : Int} {r x : Rw} (e : prR h r = some x) : x.k = r.k ∧ x.l = prL r.l h ∧ x.l ≠ [] := by
 unfold prR at e
 split at e
 ·cases e
 ·rename_i q
  injection e with e; subst e
  exact ⟨rfl, rfl, q⟩

theorem prune_mem {h : Int} {rows : List Rw} {x : Rw} (hx : x ∈ pruneR h rows) : ∃ r ∈ rows, x.k = r.k ∧ x.l = prL r.l h ∧ x.l ≠ [] := by
 obtain ⟨r, h1, h2⟩ := List.mem_filterMap.1 hx
 exact ⟨r, h1, pr_k h2⟩

theorem prune_ok_rows {m h : Int} {rows : List Rw} (hr : ∀ r ∈ rows, okR m r) : ∀ r ∈ pruneR h rows, okR m r := fun x hx => by
 obtain ⟨r, h1, h2, h3, h4⟩ := prune_mem hx
 exact ⟨by rw [h3]; exact (hr r h1).l.pr h, h4, by rw [h2]; exact (hr r h1).k⟩

theorem prune_cells (h : Int) : ∀ rows : List Rw, cellsR (pruneR h rows) ≤ cellsR rows
 | [] => Nat.le_refl _
 | r :: l => by
  have := prune_cells h l
  have := pr_len r.l h
  rw [cells_cons]
  unfold pruneR at *
  rw [List.filterMap_cons]
  cases e : prR h r with
  | none => dsimp only; omega
  | some x => dsimp only; rw [cells_cons, (pr_k e).2.1]; omega

theorem srt_mid {A B : List Rw} {m : Rw} (h : Srt (A ++ m :: B)) : (∀ a ∈ A, sltB a.k m.k = true) := (srt_app.1 h).2.2.1

/-- a row in the middle, others ahead of it -/
theorem g_mid {A B : List Rw} {m : Rw} (h : ∀ a ∈ A, sltB a.k m.k = true) : gR m.k (A ++ m :: B) = m.l := by
 unfold gR
 rw [get_r h, getR, if_neg (by rw [slt_irr]; decide), if_pos (seqB_iff.2 rfl)]

theorem ins_mid {A B : List Rw} {m : Rw} {v : List ECell} (h : ∀ a ∈ A, sltB a.k m.k = true) : insR m.k v (A ++ m :: B) = A ++ ⟨m.k, v⟩ :: B := by
 rw [ins_r h, insR_f (by rw [slt_irr]; decide), if_pos (seqB_iff.2 rfl)]

theorem del_mid {A B : List Rw} {m : Rw} (h : ∀ a ∈ A, sltB a.k m.k = true) : delR m.k (A ++ m :: B) = A ++ B := by
 rw [del_r h, delR, if_neg (by rw [slt_irr]; decide), if_pos (seqB_iff.2 rfl)]

theorem prune_app (h : Int) (a b : List Rw) : pruneR h (a ++ b) = pruneR h a ++ pruneR h b := List.filterMap_append

section
variable {h : Int} {K : List ByteArray} {T0 : Etree_Tree_api_Cell}
theorem Prune_loop {m : Int} (all : List Rw) (hK : K = all.map (·.k)) (hs : Srt all) (hr : ∀ r ∈ all, okR m r) (hz : cellsR all < big) (h0 : 0 ≤ m) : ∀ (n : Nat) (B : List Rw) (i : Nat) (gone : Int) (s : Emvcc_Store) (T : Etree_Tree_api_Cell), B.length < n → all.drop i = B → i ≤ all.length → s.t = some T → s.last = m → s.n = (cellsR all : Int) → trOk T → rowsT T.top = pruneR h (all.take i) ++ B → gone = (cellsR all : Int) - (cellsR (pruneR h (all.take i)) + cellsR B : Nat) →
  ∃ s' T', iter (F_mvcc_Store_Prune_l3 h (K, T0)) n (gone, (i : Int), s) = some ((cellsR all : Int) - (cellsR (pruneR h all) : Int), s') ∧ mvOk s' T' (pruneR h all) ∧ s'.last = m
 | 0, B, _, _, _, _, hn, _, _, _, _, _, _, _, _ => by omega
 | n + 1, [], i, gone, s, T, _, hd, hi, h1, h2, h3, h4, h5, h6 => by
  have : i = all.length := by
   have := congrArg List.length hd
   rw [List.length_drop, List.length_nil] at this; omega
  subst this
  rw [List.take_length] at h5 h6
  rw [List.append_nil] at h5
  have hc := prune_cells h all
  have e0 : cellsR ([] : List Rw) = 0 := rfl
  rw [e0, Nat.add_zero] at h6
  unfold big at hz
  show ∃ s' T', F_mvcc_Store_Prune_l3 h (K, T0) (iter (F_mvcc_Store_Prune_l3 h (K, T0)) n) (gone, _, s) = _ ∧ _
  unfold F_mvcc_Store_Prune_l3
  dsimp only
  rw [if_neg (by rw [hK, List.length_map, decide_eq_false (by omega)]; decide), chk_t (by rw [h3, h6]; unfold inI; omega)]
  refine ⟨{ s with n := s.n - gone }, T, by rw [h6], ⟨h1, h4, h5, by show ∀ r ∈ _, okR s.last r; rw [h2]; exact prune_ok_rows hr, by show s.n - gone = _; rw [h3, h6]; omega, by show 0 ≤ s.last; omega⟩, h2⟩
 | n + 1, r :: B, i, gone, s, T, hn, hd, hi, h1, h2, h3, h4, h5, h6 => by
  have hi2 : i < all.length := by
   have := congrArg List.length hd
   rw [List.length_drop, List.length_cons] at this; omega
  rw [drop_cons (d := default) hi2] at hd
  injection hd with hd1 hd2
  have hr1 : r ∈ all := by rw [← hd1, getD_lt hi2]; exact List.getElem_mem hi2
  have hK1 : K.getD i default = r.k := by rw [hK, getD_lt (by rw [List.length_map]; exact hi2), List.getElem_map, ← getD_lt (d := default) hi2, hd1]
  have hall : all = all.take i ++ r :: B := by rw [← hd1, ← hd2, ← drop_cons hi2, List.take_append_drop]
  have hA : ∀ a ∈ pruneR h (all.take i), sltB a.k r.k = true := fun a ha => by
   obtain ⟨z, z1, z2, _⟩ := prune_mem ha
   rw [z2]
   rw [hall] at hs
   exact srt_mid hs z z1
  have hts : all.take (i + 1) = all.take i ++ [r] := by rw [take_snoc (d := default) hi2, hd1]
  have hp1 : pruneR h (all.take (i + 1)) = pruneR h (all.take i) ++ (prR h r).toList := by
   rw [hts, prune_app]; congr 1
  have hcr : r.l.length ≤ cellsR all := mem_cells hr1
  have hca : cellsR (pruneR h (all.take i)) + (r.l.length + cellsR B) ≤ cellsR all := by
   have := prune_cells h (all.take i)
   have e := congrArg cellsR hall
   rw [cells_app, cells_cons] at e
   omega
  have hpl := pr_len r.l h
  rw [cells_cons] at h6
  have hlen : (rowsT T.top).length < big := by
   rw [h5, List.length_append, List.length_cons]
   have a1 := rows_cells (prune_ok_rows (h := h) (rows := all.take i) fun x hx => hr x (List.mem_of_mem_take hx))
   have a2 := rows_cells (rows := r :: B) (m := m) fun x hx => hr x (by rw [hall]; exact List.mem_append_right _ hx)
   rw [cells_cons, List.length_cons] at a2
   omega
  show ∃ s' T', F_mvcc_Store_Prune_l3 h (K, T0) (iter (F_mvcc_Store_Prune_l3 h (K, T0)) n) (gone, _, s) = _ ∧ _
  unfold F_mvcc_Store_Prune_l3
  dsimp only
  rw [if_pos (decide_eq_true (by rw [hK, List.length_map]; omega)), chk_t (by rw [hK, List.length_map]; omega), toNat_cast, hK1, h1]
  simp only [optE]
  rw [tree_Get h4, Option.bind_some, h5, show (getR r.k (pruneR h (all.take i) ++ r :: B)).1 = gR r.k (pruneR h (all.take i) ++ r :: B) from rfl, g_mid hA, prune_ok (hr r hr1).l (by omega), Option.bind_some, chk_t (by unfold inI; unfold big at hz; omega), chk_t (by unfold inI; unfold big at hz; omega)]
  have hi3 : (i : Int) + 1 = ((i + 1 : Nat) : Int) := rfl
  by_cases c : prL r.l h = []
  ·have hn0 : prR h r = none := if_pos c
   rw [hn0] at hp1
   simp only [Option.toList, List.append_nil] at hp1
   rw [if_pos (by rw [c]; rfl)]
   obtain ⟨T', e1, e2, e3⟩ := tree_Del h4 hlen r.k
   rw [e1, Option.bind_some]
   unfold F_mvcc_Store_Prune_k4
   rw [chk_t (by unfold inI; unfold big at hlen; have := rows_cells hr; unfold big at hz; omega), hi3]
   rw [h5, del_mid hA] at e3
   refine Prune_loop all hK hs hr hz h0 n B (i + 1) _ _ T' (by rw [List.length_cons] at hn; omega) hd2 (by omega) rfl h2 h3 e2 (by rw [hp1]; exact e3) (by rw [hp1, c, h6, List.length_nil]; omega)
  ·have hn0 : prR h r = some ⟨r.k, prL r.l h⟩ := if_neg c
   rw [hn0] at hp1
   simp only [Option.toList] at hp1
   rw [if_neg (by rw [beq_iff_eq]; intro e; exact c (List.eq_nil_of_length_eq_zero (by omega)))]
   obtain ⟨T', e1, e2, e3⟩ := tree_Put h4 hlen r.k (prL r.l h)
   rw [e1, Option.bind_some]
   unfold F_mvcc_Store_Prune_k4
   rw [chk_t (by unfold inI; have := rows_cells hr; unfold big at hz; omega), hi3]
   rw [h5, ins_mid hA] at e3
   refine Prune_loop all hK hs hr hz h0 n B (i + 1) _ _ T' (by rw [List.length_cons] at hn; omega) hd2 (by omega) rfl h2 h3 e2 (by rw [hp1, e3, List.append_assoc]; rfl) (by rw [hp1, h6, cells_app, cells_cons]; have e0 : cellsR ([] : List Rw) = 0 := rfl; rw [e0]; dsimp only; omega)

end
theorem keys_all (rows : List Rw) : keysR ⟨#[]⟩ ⟨#[]⟩ rows = rows.map (·.k) := by
 unfold keysR
 rw [List.filter_eq_self.2]
 intro r _
 unfold inR
 have e : sltB r.k ⟨#[]⟩ = false := by
  cases h : sltB r.k ⟨#[]⟩ with
  | false => rfl
  | true => exact absurd h (by unfold sltB; cases r.k.toList <;> simp [Op.bytesLess] <;> rfl)
 rw [e, seqB_iff.2 rfl]; rfl

theorem mv_Prune {s : Emvcc_Store} {T : Etree_Tree_api_Cell} {rows : List Rw} (hh : mvOk s T rows) (hz : cellsR rows < big) (h : Int) : ∃ s' T', F_mvcc_Store_Prune s h = some ((cellsR rows : Int) - (cellsR (pruneR h rows) : Int), s') ∧ mvOk s' T' (pruneR h rows) ∧ s'.last = s.last := by
 have hrc := rows_cells hh.r
 unfold F_mvcc_Store_Prune
 rw [mv_none hh, Option.bind_some, if_neg (by decide), hh.t]
 simp only [optE]
 rw [tree_Keys hh.ok (mv_len hh hz), Option.bind_some, hh.rs, keys_all]
 have e : (cellsR rows : Int) - (cellsR (pruneR h (rows.take 0)) + cellsR rows : Nat) = 0 := by
  show (cellsR rows : Int) - ((0 + cellsR rows : Nat) : Int) = 0; omega
 obtain ⟨s', T', e1, e2, e3⟩ := Prune_loop (h := h) (K := rows.map (·.k)) (T0 := T) (m := s.last) rows rfl hh.srt hh.r hz hh.last FU rows 0 0 { s with t := some T } T (by unfold FU; unfold big at hz; omega) rfl (Nat.zero_le _) rfl rfl hh.n hh.ok (by rw [hh.rs]; rfl) e.symm
 exact ⟨s', T', e1, e2, e3⟩

end Go.Proofs.Ytfefmdllnjpmgaa
