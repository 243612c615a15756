/- Many versions: the program's store put into and pruned, by its rows. -/
import Derived.Test.YtfefmdllnjpmgaaYMS
namespace Go.Proofs.Ytfefmdllnjpmgaa

def layR (ts : Int) (o : EOp) (rows : List Rw) : List Rw := insR o.key (gR o.key rows ++ [⟨ts, o.val, o.del⟩]) rows

def putR (ts : Int) (l : List EOp) (rows : List Rw) : List Rw := l.foldl (fun r o => layR ts o r) rows

def KeysUp : Option ByteArray → List EOp → Prop
 | _, [] => True
 | a, o :: l => bdK o.key ∧ (∀ b, a = some b → sltB b o.key = true) ∧ KeysUp (some o.key) l

theorem chk_up : ∀ (l : List EOp) (a : Option ByteArray), opsChk a l = 0 → KeysUp a l
 | [], _, _ => trivial
 | x :: r, a, h => by
  rw [opsChk_cons] at h
  split at h; · cases h
  split at h; · cases h
  by_cases c3 : (x.del && !decide (x.val.size = 0)) = true
  ·rw [if_pos c3] at h; cases h
  rw [if_neg c3] at h
  by_cases c4 : notBehind a x.key = true
  ·rw [if_pos c4] at h; cases h
  rw [if_neg c4] at h
  refine ⟨⟨by omega, by omega⟩, fun b hb => ?_, chk_up r _ h⟩
  subst hb
  simpa [notBehind] using c4

theorem batch_up {l : List EOp} (h : batchCheck ⟨0, 1, l⟩ = 0) : l.length ≤ 4 ∧ KeysUp none l := by
 unfold batchCheck at h
 split at h; · cases h
 split at h; · cases h
 split at h; · cases h
 rename_i h3
 exact ⟨by simpa using h3, chk_up _ _ h⟩

theorem ins_g {k : ByteArray} {v : List ECell} {j : ByteArray} : ∀ {rows : List Rw}, sltB k j = true → gR j (insR k v rows) = gR j rows
 | [], h => by rw [show insR k v [] = [⟨k, v⟩] from rfl, g_t (r := ⟨k, v⟩) h]
 | r :: l, h => by
  by_cases c : sltB r.k k = true
  ·rw [insR_t c]
   have c2 := slt_trans c h
   rw [g_t c2, g_t c2, ins_g h]
  ·rw [insR_f c]
   by_cases q : seqB r.k k = true
   ·rw [if_pos q]
    have e := seqB_iff.1 q
    have c2 : sltB r.k j = true := by rw [e]; exact h
    rw [g_t (r := ⟨r.k, v⟩) c2, g_t c2]
   ·rw [if_neg q, g_t (r := ⟨k, v⟩) h]

/-- rows ahead of and behind a time that is being put: those whose key comes later are as they were -/
structure halfOk (last ts : Int) (a : Option ByteArray) (rows : List Rw) : Prop where
 r : ∀ r ∈ rows, okR ts r
 g : ∀ k, (∀ b, a = some b → sltB b k = true) → okL last (gR k rows)

theorem half_lay {last ts : Int} {a : Option ByteArray} {rows : List Rw} {o : EOp} (h : halfOk last ts a rows) (h0 : 0 ≤ last) (ht : last < ts) (hk : bdK o.key) (ha : ∀ b, a = some b → sltB b o.key = true) : okL ts (gR o.key rows ++ [⟨ts, o.val, o.del⟩]) ∧ halfOk last ts (some o.key) (layR ts o rows) := by
 have h1 := (h.g o.key ha).snoc (c := ⟨ts, o.val, o.del⟩) h0 ht
 refine ⟨h1, fun r hr => ins_all (P := okR ts) ⟨h1, by simp, hk⟩ h.r r hr, fun k hb => ?_⟩
 have h2 := hb o.key rfl
 unfold layR
 rw [ins_g h2]
 refine h.g k fun b e => ?_
 exact slt_trans (ha b e) h2

theorem lay_cells (ts : Int) (o : EOp) (rows : List Rw) : cellsR (layR ts o rows) = cellsR rows + 1 := ins_cells _ _ _

theorem put_cells (ts : Int) : ∀ (l : List EOp) (rows : List Rw), cellsR (putR ts l rows) = cellsR rows + l.length
 | [], _ => rfl
 | o :: l, rows => by
  rw [show putR ts (o :: l) rows = putR ts l (layR ts o rows) from rfl, put_cells, lay_cells, List.length_cons]; omega

section
variable {ts : Int}
theorem Put_loop {last : Int} {s0 : Emvcc_Store} (hl : s0.last = last) (h0 : 0 ≤ last) (ht : last < ts) (all : List EOp) (ha : all.length ≤ 4) : ∀ (n : Nat) (l : List EOp) (i : Nat) (a : Option ByteArray) (s : Emvcc_Store) (T : Etree_Tree_api_Cell) (rows : List Rw), l.length < n → all.drop i = l → i ≤ all.length → KeysUp a l → s.t = some T → s.last = last → trOk T → rowsT T.top = rows → halfOk last ts a rows → s.n = (cellsR rows : Int) → cellsR rows + l.length < big →
  ∃ s' T', iter (F_mvcc_Store_Put_l1 ts all) n ((i : Int), s) = some (0, s') ∧ mvOk s' T' (putR ts l rows) ∧ s'.last = ts
 | 0, l, _, _, _, _, _, h, _, _, _, _, _, _, _, _, _, _ => by omega
 | n + 1, [], i, a, s, T, rows, _, hd, hi, hk, h1, h2, h3, h4, h5, h6, h7 => by
  have : i = all.length := by
   have := congrArg List.length hd
   rw [List.length_drop, List.length_nil] at this; omega
  subst this
  show ∃ s' T', F_mvcc_Store_Put_l1 ts all (iter (F_mvcc_Store_Put_l1 ts all) n) (_, s) = _ ∧ _
  unfold F_mvcc_Store_Put_l1
  dsimp only
  rw [if_neg (by rw [decide_eq_false (by omega)]; decide)]
  exact ⟨_, T, rfl, ⟨h1, h3, h4, h5.r, h6, by show 0 ≤ ts; omega⟩, rfl⟩
 | n + 1, o :: l, i, a, s, T, rows, hn, hd, hi, hk, h1, h2, h3, h4, h5, h6, h7 => by
  have hi2 : i < all.length := by
   have := congrArg List.length hd
   rw [List.length_drop, List.length_cons] at this; omega
  rw [drop_cons (d := default) hi2] at hd
  injection hd with hd1 hd2
  obtain ⟨k1, k2, k3⟩ := hk
  obtain ⟨b1, b2⟩ := half_lay h5 h0 ht k1 k2
  have hrl := rows_cells h5.r
  have hgl := g_len o.key rows
  rw [List.length_cons] at h7
  show ∃ s' T', F_mvcc_Store_Put_l1 ts all (iter (F_mvcc_Store_Put_l1 ts all) n) (_, s) = _ ∧ _
  unfold F_mvcc_Store_Put_l1
  dsimp only
  rw [if_pos (decide_eq_true (by omega)), chk_t (by omega), toNat_cast, hd1, h1]
  simp only [optE]
  rw [tree_Get h3, Option.bind_some, h4, show (getR o.key rows).1 = gR o.key rows from rfl, vput_ok (h5.g o.key k2) (by omega) h0 ht, Option.bind_some]
  obtain ⟨T', e1, e2, e3⟩ := tree_Put h3 (by rw [h4]; omega) o.key (gR o.key rows ++ [⟨ts, o.val, o.del⟩])
  rw [e1, Option.bind_some, h6, chk_t (by unfold inI; unfold big at h7; omega), chk_t (by unfold inI; omega)]
  rw [h4] at e3
  exact Put_loop hl h0 ht all ha n l (i + 1) (some o.key) _ T' (layR ts o rows) (by rw [List.length_cons] at hn; omega) hd2 (by omega) k3 rfl h2 e2 e3 b2 (by rw [lay_cells]; rfl) (by rw [lay_cells]; omega)

end
section
variable {s : Emvcc_Store} {T : Etree_Tree_api_Cell} {rows : List Rw} (h : mvOk s T rows)
include h
theorem mv_half {ts : Int} (ht : s.last < ts) : halfOk s.last ts none rows := ⟨fun r hr => ⟨(h.r r hr).l.mono (by omega), (h.r r hr).ne, (h.r r hr).k⟩, fun k _ => g_ok fun r hr => (h.r r hr).l⟩

theorem mv_Put (ts : Int) (h0 : 0 ≤ ts) (l : List EOp) (hz : cellsR rows + 4 < big) : ∃ e s' T', F_mvcc_Store_Put s ts l = some (e, s') ∧ e = (if ts = 0 then 5 else if ts ≤ s.last then 18 else batchCheck ⟨0, 1, l⟩) ∧ mvOk s' T' (if e = 0 then putR ts l rows else rows) ∧ s'.last = (if e = 0 then ts else s.last) ∧ (e = 0 → s.last < ts ∧ l.length ≤ 4 ∧ KeysUp none l) := by
 have hlast := h.last
 unfold F_mvcc_Store_Put
 rw [mv_none h, Option.bind_some, if_neg (by decide)]
 by_cases c1 : ts = 0
 ·exact ⟨5, s, T, by rw [if_pos (by rw [c1]; rfl)], by rw [if_pos c1], h, rfl, fun e => by cases e⟩
 rw [if_neg (by rw [beq_iff_eq]; exact c1), if_neg c1]
 by_cases c2 : ts ≤ s.last
 ·exact ⟨18, s, T, by rw [if_pos (decide_eq_true c2)], by rw [if_pos c2], h, rfl, fun e => by cases e⟩
 rw [if_neg (by rw [decide_eq_false c2]; decide), if_neg c2, ops_Check, Option.bind_some]
 by_cases c3 : batchCheck ⟨0, 1, l⟩ = 0
 ·obtain ⟨u1, u2⟩ := batch_up c3
  rw [c3, if_neg (by decide)]
  obtain ⟨s', T', e1, e2, e3⟩ := Put_loop (ts := ts) rfl hlast (by omega) l u1 FU l 0 none s T rows (by unfold FU; omega) rfl (Nat.zero_le _) u2 h.t rfl h.ok h.rs (mv_half h (by omega)) h.n (by omega)
  exact ⟨0, s', T', e1, rfl, e2, e3, fun _ => ⟨by omega, u1, u2⟩⟩
 ·rw [if_pos (by rw [bne_iff_ne]; exact c3)]
  exact ⟨_, s, T, rfl, rfl, by rw [if_neg c3]; exact h, by rw [if_neg c3], fun e => absurd e c3⟩

end
-- pruning
section
variable {h : Int} {K : List ByteArray} {T0 : Etree_Tree_api_Cell}
end
theorem keys_all (rows : List Rw) : keysR ⟨#[]⟩ ⟨#[]⟩ rows = rows.map (·.k) := by
 unfold keysR
 rw [List.filter_eq_self.2]
 intro r _
 unfold inR
 have e : sltB r.k ⟨#[]⟩ = false := by
  cases h : sltB r.k ⟨#[]⟩ with
  | false => rfl
  | true => exact absurd h (by unfold sltB; cases r.k.toList <;> simp [Op.bytesLess] <;> rfl)
 rw [e, seqB_iff.2 rfl]; rfl

end Go.Proofs.Ytfefmdllnjpmgaa
