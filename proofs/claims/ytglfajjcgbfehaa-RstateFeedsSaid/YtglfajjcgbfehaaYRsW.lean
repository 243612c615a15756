/- Entries fed into a store: RstateFeeds, plain. -/
import Derived.Test.YtglfajjcgbfehaaYRsV
import Derived.Test.YtglfajjcgbfehaaYRfWF
import Derived.Test.YtglfajjcgbfehaaYMLR
import Derived.Test.YtglfajjcgbfehaaYMLState
namespace Go.Proofs.Ytglfajjcgbfehaa

def tsOk (L : List EEntry) : Prop := ∀ e ∈ L, 0 ≤ e.ts

theorem ts_set {L : List EEntry} (h : tsOk L) (k : Nat) {e : EEntry} (he : 0 ≤ e.ts) : tsOk (L.set k e) := fun x hx => by
 rcases List.mem_or_eq_of_mem_set hx with h1 | h1
 ·exact h x h1
 ·rw [h1]; exact he

theorem ts_thin (h : Int) : ∀ (k : Nat) (L : List EEntry) (m : List (ByteArray × Bool)) (g : Int), k ≤ L.length → tsOk L → tsOk (thinD h k L m g).1
 | 0, _, _, _, _, hl => hl
 | k + 1, L, m, g, hk, hl => by
  unfold thinD
  have h0 : 0 ≤ (L.getD k default).ts := by rw [getD_lt (by omega)]; exact hl _ (List.getElem_mem _)
  split
  ·exact ts_thin h k _ _ _ (by rw [List.length_set]; omega) (ts_set hl k h0)
  ·exact ts_thin h k _ _ _ (by omega) hl

theorem app_ts {a : Abs} (h : tsOk a.L) (n : ENote) (h1 : 0 ≤ n.entry.ts) (h2 : 0 ≤ n.at_) : tsOk (appA a n).L := by
 unfold appA
 by_cases c0 : noteCheck n ≠ 0
 ·rw [if_pos c0]; exact h
 rw [if_neg c0]
 by_cases c1 : n.k = 1
 ·rw [if_pos c1]; split <;> exact h
 rw [if_neg c1]
 by_cases c2 : n.k = 2
 ·rw [if_pos c2]
  show tsOk (if _ then _ else _)
  split
  ·unfold putE
   split
   ·split
    ·exact h
    ·intro e he
     rw [List.mem_append, List.mem_cons] at he
     rcases he with he | rfl | he
     ·exact h e (List.mem_of_mem_take he)
     ·exact h1
     ·obtain ⟨x, _, rfl⟩ := List.mem_map.1 he
      exact Int.le_refl _
   ·intro e he
    rw [List.mem_append, List.mem_singleton] at he
    rcases he with he | rfl
    ·exact h e (List.mem_of_mem_take he)
    ·exact h1
  ·exact h
 rw [if_neg c2]
 by_cases c3 : n.k = 3
 ·rw [if_pos c3]
  show tsOk (stampR a.L n.n n.at_)
  unfold stampR
  split
  ·exact ts_set h _ h2
  ·exact h
 rw [if_neg c3]
 by_cases c4 : n.k = 4
 ·rw [if_pos c4]
  split
  ·exact h
  ·have := stampF_le a.L
   exact ts_thin _ _ _ _ _ (by omega) h
 ·rw [if_neg c4]; exact h

-- what has been fed
def fedR (L : List EEntry) : Nat → List Rw
 | 0 => []
 | k + 1 => putR (L.getD k default).ts (L.getD k default).batch.ops (fedR L k)

def lastA (L : List EEntry) (k : Nat) : Int := if k = 0 then 0 else (L.getD (k - 1) default).ts

theorem ops_up {e : EEntry} (h : batchCheck e.batch = 0) : batchCheck ⟨0, 1, e.batch.ops⟩ = 0 := by
 unfold batchCheck at h
 split at h; · cases h
 split at h; · cases h
 unfold batchCheck
 rw [if_neg (by decide : ¬ ((0 : Int) < 0 ∨ (0 : Int) ≥ 3)), if_neg (by decide : ¬ ((1 : Int) < 1 ∨ (1 : Int) > 1073741824))]
 exact h

theorem put_cells' (ts : Int) (l : List EOp) (rows : List Rw) (hl : l.length ≤ 4) : cellsR (putR ts l rows) ≤ cellsR rows + 4 := by
 have := put_cells ts l rows
 omega

section
variable {L : List EEntry} (hR : Rt L) (hT : tsOk L) (hl : L.length ≤ 100)
include hR hT hl
theorem fed_step {k : Nat} (hk : k < stampF L) {s : Emvcc_Store} {T : Etree_Tree_api_Cell} (h : mvOk s T (fedR L k)) (hlast : s.last = lastA L k) (hc : cellsR (fedR L k) ≤ 4 * k) :
  ∃ s' T', F_mvcc_Store_Put s (L.getD k default).ts (L.getD k default).batch.ops = some (0, s') ∧ mvOk s' T' (fedR L (k + 1)) ∧ s'.last = lastA L (k + 1) ∧ cellsR (fedR L (k + 1)) ≤ 4 * (k + 1) ∧ s.last < (L.getD k default).ts ∧ KeysUp none (L.getD k default).batch.ops ∧ (if (L.getD k default).ts = 0 then (5 : Int) else if (L.getD k default).ts ≤ s.last then 18 else batchCheck ⟨0, 1, (L.getD k default).batch.ops⟩) = 0 := by
 have hs := stampF_le L
 have hkl : k < L.length := by omega
 have q := hR k hkl
 have h0 : 0 ≤ (L.getD k default).ts := by rw [getD_lt hkl]; exact hT _ (List.getElem_mem _)
 have hz := stampF_pos L k hk
 have hgt : lastA L k < (L.getD k default).ts := by
  unfold lastA
  split
  ·omega
  ·exact (q.fol (by omega) hz).2
 obtain ⟨e, s', T', e1, e2, e3, e4, e5⟩ := mv_Put h (L.getD k default).ts h0 (L.getD k default).batch.ops (by unfold big; omega)
 have he0 : (if (L.getD k default).ts = 0 then (5 : Int) else if (L.getD k default).ts ≤ s.last then 18 else batchCheck ⟨0, 1, (L.getD k default).batch.ops⟩) = 0 := by
  rw [if_neg hz, if_neg (by rw [hlast]; omega), ops_up q.chk]
 rw [he0] at e2
 subst e2
 rw [if_pos rfl] at e3 e4
 obtain ⟨u1, u2, u3⟩ := e5 rfl
 refine ⟨s', T', e1, e3, ?_, ?_, u1, u3, he0⟩
 ·rw [e4]; unfold lastA; rw [if_neg (by omega), Nat.add_sub_cancel]
 ·have := put_cells' (L.getD k default).ts (L.getD k default).batch.ops (fedR L k) u2
  show cellsR (putR _ _ _) ≤ _
  omega

theorem fed_ok : ∀ k, k ≤ stampF L → ∃ s T, mvOk s T (fedR L k) ∧ s.last = lastA L k ∧ cellsR (fedR L k) ≤ 4 * k
 | 0, _ => ⟨newS, newT, mvNew_ok, rfl, by unfold fedR cellsR; simp⟩
 | k + 1, hk => by
  obtain ⟨s, T, h1, h2, h3⟩ := fed_ok k (by omega)
  obtain ⟨s', T', _, g1, g2, g3, _⟩ := fed_step hR hT hl (by omega) h1 h2 h3
  exact ⟨s', T', g1, g2, g3⟩

theorem fed_put {k : Nat} (hk : k < stampF L) : F_ref16_Store_Put ⟨fedR L k, lastA L k⟩ (L.getD k default).ts (L.getD k default).batch.ops = some (0, ⟨fedR L (k + 1), lastA L (k + 1)⟩) := by
 obtain ⟨s, T, h1, h2, h3⟩ := fed_ok hR hT hl k (by omega)
 obtain ⟨s', T', _, g1, g2, g3, _, _, g4⟩ := fed_step hR hT hl hk h1 h2 h3
 have hs := stampF_le L
 rw [← h2, ref_Put16 h1 _ _ (by unfold big; omega), g4, if_pos rfl]
 unfold lastA
 rw [if_neg (by omega), Nat.add_sub_cancel]; rfl

theorem fed_view {k : Nat} (hk : k < stampF L) (t : Int) : viewR ⟨#[]⟩ ⟨#[]⟩ t (fedR L (k + 1)) = if (L.getD k default).ts ≤ t then overL (viewR ⟨#[]⟩ ⟨#[]⟩ t (fedR L k)) (L.getD k default).batch.ops else viewR ⟨#[]⟩ ⟨#[]⟩ t (fedR L k) := by
 obtain ⟨s, T, h1, h2, h3⟩ := fed_ok hR hT hl k (by omega)
 obtain ⟨s', T', _, g1, g2, g3, g5, g6, g4⟩ := fed_step hR hT hl hk h1 h2 h3
 split
 ·rename_i c
  exact put_over h1.last g5 c (mv_half h1 g5) h1.srt g6
 ·exact (puts_same h1.last g5 (by omega) _ none _ (mv_half h1 g5) g6).v _ _

end
theorem SR.Stamped {s : Erstate_State} {a : Abs} (h : SR s a) : F_rstate_State_Stamped s = some ((stampF a.L : Int), s) := by
 unfold F_rstate_State_Stamped F_rlog_Log_Stamped
 have hn := h.none
 obtain ⟨h1, h2, l, hl, hr⟩ := h
 have hst := hr.st
 rw [hn, Option.bind_some, if_neg (by decide), hl, optE_some, hr.none, Option.bind_some, if_neg (by decide), Option.bind_some, hst]
 congr 2
 cases s; simp only at hl; rw [hl]

theorem SR.eta {s : Erstate_State} {l : Erlog_Log} (h : s.log = some l) : ({ s with log := some l } : Erstate_State) = s := by cases s; simp only at h; rw [h]

theorem feed_loop {s : Erstate_State} {a : Abs} (h : SR s a) (ho : AOk a) (hT : tsOk a.L) (from_ to_ : Int) : ∀ (N k : Nat) (m : Emvcc_Store) (T : Etree_Tree_api_Cell), stampF a.L - k < N → k ≤ stampF a.L → mvOk m T (fedR a.L k) → m.last = lastA a.L k → cellsR (fedR a.L k) ≤ 4 * k →
  ∃ m' T', iter (F_rstate_State_Feed_l1 from_ to_) N ((k : Int), s, m) = some (max from_ (max (k : Int) (min to_ (stampF a.L))), s, m') ∧ mvOk m' T' (fedR a.L (max k (min to_.toNat (stampF a.L)))) ∧ m'.last = lastA a.L (max k (min to_.toNat (stampF a.L)))
 | 0, _, _, _, hN, _, _, _, _ => by omega
 | N + 1, k, m, T, hN, hk, hm, hla, hc => by
  show ∃ m' T', F_rstate_State_Feed_l1 from_ to_ (iter (F_rstate_State_Feed_l1 from_ to_) N) ((k : Int), s, m) = _ ∧ _
  have hrec := feed_loop h ho hT from_ to_ N
  generalize iter (F_rstate_State_Feed_l1 from_ to_) N = rc at hrec ⊢
  unfold F_rstate_State_Feed_l1
  dsimp only
  rw [h.Stamped, Option.bind_some]
  dsimp only
  have hs := stampF_le a.L
  have hlen := ho.len
  by_cases c : (k : Int) < min to_ (stampF a.L : Int)
  ·obtain ⟨l, hl, hr⟩ := h.log
   obtain ⟨m', T', e1, e2, e3, e4, _⟩ := fed_step ho.rt hT ho.len (by omega) hm hla hc
   rw [if_pos (decide_eq_true c), hl, optE_some, at_ok' ho.rt hr, if_pos (by omega), Option.bind_some]
   dsimp only
   rw [toNat_cast, e1, Option.bind_some, chk_t (by unfold inI; omega), SR.eta hl]
   obtain ⟨m2, T2, r1, r2, r3⟩ := hrec (k + 1) m' T' (by omega) (by omega) e2 e3 e4
   have x1 : max (k + 1) (min to_.toNat (stampF a.L)) = max k (min to_.toNat (stampF a.L)) := by omega
   have x2 : max ((k + 1 : Nat) : Int) (min to_ (stampF a.L : Int)) = max (k : Int) (min to_ (stampF a.L : Int)) := by omega
   rw [x1] at r2 r3
   rw [x2] at r1
   exact ⟨m2, T2, r1, r2, r3⟩
  ·rw [if_neg (by rw [decide_eq_true_eq]; exact c)]
   have x1 : max k (min to_.toNat (stampF a.L)) = k := by omega
   have x2 : max (k : Int) (min to_ (stampF a.L : Int)) = (k : Int) := by omega
   rw [x1, x2]
   exact ⟨m, T, rfl, hm, hla⟩

theorem prog_Feed {s : Erstate_State} {a : Abs} (h : SR s a) (ho : AOk a) (hT : tsOk a.L) (k : Nat) (to_ : Int) {m : Emvcc_Store} {T : Etree_Tree_api_Cell} (hk : k ≤ stampF a.L) (hm : mvOk m T (fedR a.L k)) (hla : m.last = lastA a.L k) : ∃ m' T', F_rstate_State_Feed s m (k : Int) to_ = some (((max k (min to_.toNat (stampF a.L)) : Nat) : Int), s, m') ∧ mvOk m' T' (fedR a.L (max k (min to_.toNat (stampF a.L)))) ∧ m'.last = lastA a.L (max k (min to_.toNat (stampF a.L))) := by
 unfold F_rstate_State_Feed
 rw [h.none, Option.bind_some, if_neg (by decide), show max (k : Int) 0 = (k : Int) by omega]
 have hs := stampF_le a.L
 have hlen := ho.len
 obtain ⟨s1, T1, _, _, h3⟩ := fed_ok ho.rt hT ho.len k hk
 obtain ⟨m', T', e1, e2, e3⟩ := feed_loop h ho hT (k : Int) to_ FU k m T (by unfold FU; omega) hk hm hla h3
 refine ⟨m', T', ?_, e2, e3⟩
 rw [e1]
 congr 2
 omega

theorem feeds_l2 {s : Erstate_State} {a : Abs} (h : SR s a) (ho : AOk a) (hT : tsOk a.L) (t : Int) {m : Emvcc_Store} {T : Etree_Tree_api_Cell} (hm : mvOk m T (fedR a.L (stampF a.L))) (hla : m.last = lastA a.L (stampF a.L)) : ∀ (N k : Nat), stampF a.L - k < N → k ≤ stampF a.L →
  iter (F_law30_RstateFeeds_l2 t ((stampF a.L : Int), s, m) (a.L, s)) N (viewR ⟨#[]⟩ ⟨#[]⟩ t (fedR a.L k), (k : Int), ⟨fedR a.L k, lastA a.L k⟩) = some true
 | 0, _, hN, _ => by omega
 | N + 1, k, hN, hk => by
  show F_law30_RstateFeeds_l2 t _ _ (iter (F_law30_RstateFeeds_l2 t ((stampF a.L : Int), s, m) (a.L, s)) N) (_, (k : Int), _) = _
  have hrec := feeds_l2 h ho hT t hm hla N
  generalize iter (F_law30_RstateFeeds_l2 t ((stampF a.L : Int), s, m) (a.L, s)) N = rc at hrec ⊢
  unfold F_law30_RstateFeeds_l2
  dsimp only
  have hs := stampF_le a.L
  have hlen := ho.len
  obtain ⟨sk, Tk, hk1, _, hk3⟩ := fed_ok ho.rt hT ho.len k hk
  have hrl := rows_cells hk1.r
  have hv := view_len ⟨#[]⟩ ⟨#[]⟩ t (fedR a.L k)
  by_cases c : k < stampF a.L
  ·have hb : (0 : Int) ≤ (k : Int) ∧ (k : Int) < (a.L.length : Int) := by omega
   have ho4 := (ho.rt.ops (e := a.L.getD k default) (by rw [getD_lt (by omega)]; exact List.getElem_mem _)).2
   rw [if_pos (by simp only [Bool.and_eq_true, decide_eq_true_eq]; omega), chk_t hb, chk_t hb, toNat_cast, fed_put ho.rt hT ho.len c, Option.bind_some, chk_t hb]
   have hvk := fed_view ho.rt hT ho.len c t
   have hj : ∀ w x, F_law30_RstateFeeds_k3 (k : Int) rc w x = rc (w, (k : Int) + 1, x) := fun w x => by
    unfold F_law30_RstateFeeds_k3; rw [chk_t (by unfold inI; omega)]
   by_cases d : (a.L.getD k default).ts ≤ t
   ·rw [if_pos d] at hvk
    rw [if_pos (decide_eq_true d), chk_t hb, Over_eq _ _ (by unfold big; omega), Option.bind_some, hj, ← hvk]
    exact hrec (k + 1) (by omega) (by omega)
   ·rw [if_neg d] at hvk
    rw [if_neg (by rw [decide_eq_true_eq]; exact d), hj]
    have := hrec (k + 1) (by omega) (by omega)
    rw [hvk] at this
    exact this
  ·obtain rfl : k = stampF a.L := by omega
   have hcz : cellsR (fedR a.L (stampF a.L)) < big := by unfold big; omega
   have e1000 : (1000 : Int).toNat = 1000 := rfl
   rw [if_neg (by simp only [Bool.and_eq_true, decide_eq_true_eq]; omega), mv_Scan hm hcz, Option.bind_some]
   dsimp only
   rw [h.Stamped, Option.bind_some]
   dsimp only
   rw [e1000, List.take_of_length_le (by omega), samePairs_refl _ (by unfold big; omega), beq_self_eq_true, gif_true, Option.bind_some, decide_eq_false (by omega), show ((true && true) && !false) = true from rfl, gif_true, mv_Last hm, Option.bind_some, hla, beq_self_eq_true, show (true && true) = true from rfl, gif_true, mv_Cells hm, Option.bind_some, gif_true]
   rw [ref_Cells (m := m.last) hm.r hcz, Option.bind_some, beq_self_eq_true, show (true && true) = true from rfl, gif_true, awakeF]; rfl

theorem feeds_l1 (l : List ENote) (hb : (bdSl bdENote) l) (cut : Int) (hc : inB cut) (t : Int) : ∀ (N k : Nat) (s : Erstate_State) (a : Abs), 40 - k < N → k ≤ 40 → SR s a → AOk a → tsOk a.L → iter (F_law30_RstateFeeds_l1 l cut t) N ((k : Int), s) = some true
 | 0, _, _, _, hN, _, _, _, _ => by omega
 | N + 1, k, s, a, hN, hk, h, ho, hT => by
  show F_law30_RstateFeeds_l1 l cut t (iter (F_law30_RstateFeeds_l1 l cut t) N) ((k : Int), s) = _
  have hrec := feeds_l1 l hb cut hc t N
  generalize iter (F_law30_RstateFeeds_l1 l cut t) N = rc at hrec ⊢
  unfold F_law30_RstateFeeds_l1
  dsimp only
  by_cases c : k < l.length ∧ k < 40
  ·have hbn := hb.2 k c.1
   obtain ⟨s', e1, e2⟩ := prog_Apply h ho (l.getD k default)
   rw [if_pos (by simp only [Bool.and_eq_true, decide_eq_true_eq]; omega), chk_t (by omega), toNat_cast, note_eta (l.getD k default), e1, Option.bind_some, chk_t (by unfold inI; omega)]
   exact hrec (k + 1) s' _ (by omega) (by omega) e2 (app_ok ho _) (app_ts hT _ hbn.entry.ts.1 hbn.at_.1)
  ·have hs := stampF_le a.L
   have hlen := ho.len
   unfold Go.Proofs.Ytglfajjcgbfehaa.inB at hc
   obtain ⟨m1, T1, f1, f2, f3⟩ := prog_Feed h ho hT 0 cut (Nat.zero_le _) mvNew_ok rfl
   obtain ⟨m2, T2, g1, g2, g3⟩ := prog_Feed h ho hT (max 0 (min cut.toNat (stampF a.L))) 1073741824 (by omega) f2 f3
   have x : max (max 0 (min cut.toNat (stampF a.L))) (min (1073741824 : Int).toNat (stampF a.L)) = stampF a.L := by omega
   rw [x] at g1 g2 g3
   rw [if_neg (by simp only [Bool.and_eq_true, decide_eq_true_eq]; omega), mvNew, Option.bind_some, chk_t (by unfold inI; omega)]
   rw [show ((0 : Nat) : Int) = 0 from rfl] at f1
   rw [f1, Option.bind_some]
   dsimp only
   rw [g1, Option.bind_some]
   dsimp only
   rw [h.All ho, Option.bind_some]
   exact feeds_l2 h ho hT t g2 g3 FU 0 (by unfold FU; omega) (Nat.zero_le _)

theorem pure_RstateFeeds (l : List ENote) (cut t : Int) (hb : (bdSl bdENote) l) (hc : inB cut) (_ : inU t) : F_law30_RstateFeeds l cut t = some true := by
 obtain ⟨p, hp⟩ := parts30 l
 unfold F_law30_RstateFeeds
 rw [hp, Option.bind_some]
 by_cases c : decide (p > 20) = true
 ·rw [if_pos c, awakeF]; rfl
 ·obtain ⟨s, e1, e2⟩ := new_SR
  rw [if_neg c, e1, Option.bind_some]
  exact feeds_l1 l hb cut hc t FU 0 s abs0 (by unfold FU; omega) (by omega) e2 abs0_ok (fun e he => by simp [abs0] at he)

end Go.Proofs.Ytglfajjcgbfehaa
