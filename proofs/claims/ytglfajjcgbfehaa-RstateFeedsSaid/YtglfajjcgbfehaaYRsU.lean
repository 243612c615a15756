/- What later operations cover goes, entry by entry: plain. -/
import Derived.Test.YtglfajjcgbfehaaYNoteC
import Derived.Test.YtglfajjcgbfehaaYK
namespace Go.Proofs.Ytglfajjcgbfehaa

-- fewer operations are right too
theorem opsChk_sub {x y : List EOp} (h : x.Sublist y) : ∀ a b : Option ByteArray, (∀ k, notBehind a k = false → notBehind b k = false) → opsChk a y = 0 → opsChk b x = 0 := by
 induction h with
 | slnil => intros; rfl
 | @cons l1 l2 o hs ih =>
  intro a b hab h
  rw [opsChk_cons] at h
  split at h; · cases h
  split at h; · cases h
  by_cases c3 : (o.del && !decide (o.val.size = 0)) = true
  ·rw [if_pos c3] at h; cases h
  rw [if_neg c3] at h
  by_cases c4 : notBehind a o.key = true
  ·rw [if_pos c4] at h; cases h
  rw [if_neg c4] at h
  refine ih (some o.key) b (fun k hk => ?_) h
  refine hab k ?_
  cases a with
  | none => rfl
  | some z =>
   have e1 : sltB z o.key = true := by
    cases hz : sltB z o.key with
    | true => rfl
    | false => exact absurd (show notBehind (some z) o.key = true by unfold notBehind; simp [hz]) c4
   have e2 : sltB o.key k = true := by
    cases hz : sltB o.key k with
    | true => rfl
    | false => unfold notBehind at hk; simp [hz] at hk
   unfold notBehind; simp [slt_trans e1 e2]
 | @cons_cons l1 l2 o hs ih =>
  intro a b hab h
  rw [opsChk_cons] at h ⊢
  split at h; · cases h
  rename_i c1
  split at h; · cases h
  rename_i c2
  by_cases c3 : (o.del && !decide (o.val.size = 0)) = true
  ·rw [if_pos c3] at h; cases h
  rw [if_neg c3] at h
  by_cases c4 : notBehind a o.key = true
  ·rw [if_pos c4] at h; cases h
  rw [if_neg c4] at h
  rw [if_neg c1, if_neg c2, if_neg c3, if_neg (by rw [hab _ (by simpa using c4)]; decide)]
  exact ih _ _ (fun _ h => h) h

theorem batch_sub {b : EBatch} {ops : List EOp} (h : ops.Sublist b.ops) (hc : batchCheck b = 0) : batchCheck { b with ops := ops } = 0 := by
 have hl := h.length_le
 unfold batchCheck at hc ⊢
 split at hc; · cases hc
 rename_i c1
 split at hc; · cases hc
 rename_i c2
 split at hc; · cases hc
 rename_i c3
 rw [if_neg c1, if_neg c2, if_neg (by show ¬ ops.length > 4; omega)]
 exact opsChk_sub h none none (fun _ h => h) hc

/-- entry by entry from the k-th down -/
def thinD (h : Int) : Nat → List EEntry → List (ByteArray × Bool) → Int → List EEntry × Int
 | 0, L, _, g => (L, g)
 | k + 1, L, m, g => if (L.getD k default).ts ≤ h then thinD h k (L.set k (withOps (L.getD k default) (thinS (L.getD k default).batch.ops m g).1)) (thinS (L.getD k default).batch.ops m g).2.1 (thinS (L.getD k default).batch.ops m g).2.2 else thinD h k L m g

structure Like (L L' : List EEntry) : Prop where
 len : L'.length = L.length
 at_ : ∀ j, j < L.length → ∃ ops, ops.Sublist (L.getD j default).batch.ops ∧ L'.getD j default = withOps (L.getD j default) ops

theorem Like.refl (L : List EEntry) : Like L L := ⟨rfl, fun j _ => ⟨_, List.Sublist.refl _, rfl⟩⟩

theorem Like.set {L L' : List EEntry} (h : Like L L') (k : Nat) {ops : List EOp} (hs : ops.Sublist (L'.getD k default).batch.ops) : Like L (L'.set k (withOps (L'.getD k default) ops)) := by
 refine ⟨by rw [List.length_set]; exact h.len, fun j hj => ?_⟩
 obtain ⟨o, h1, h2⟩ := h.at_ j hj
 have hj' : j < L'.length := by rw [h.len]; exact hj
 by_cases c : k = j
 ·subst c
  refine ⟨ops, ?_, ?_⟩
  ·rw [h2] at hs; exact hs.trans h1
  ·rw [getD_lt (by rw [List.length_set]; exact hj'), List.getElem_set_self, h2]; rfl
 ·refine ⟨o, h1, ?_⟩
  rw [getD_lt (by rw [List.length_set]; exact hj'), List.getElem_set_ne c, ← getD_lt (d := default) hj']; exact h2

theorem thinD_like (h : Int) (L : List EEntry) : ∀ (k : Nat) (L' : List EEntry) (m : List (ByteArray × Bool)) (g : Int), Like L L' → Like L (thinD h k L' m g).1
 | 0, _, _, _, hl => hl
 | k + 1, L', m, g, hl => by
  unfold thinD
  split
  ·exact thinD_like h L k _ _ _ (hl.set k (thinS_sub _ _ _).1)
  ·exact thinD_like h L k _ _ _ hl

theorem Like.who {L L' : List EEntry} (h : Like L L') {j : Nat} (hj : j < L.length) : whoE (L'.getD j default) = whoE (L.getD j default) := by
 obtain ⟨o, _, h2⟩ := h.at_ j hj
 rw [h2]; rfl

theorem Like.ts {L L' : List EEntry} (h : Like L L') {j : Nat} (hj : j < L.length) : (L'.getD j default).ts = (L.getD j default).ts := by
 obtain ⟨o, _, h2⟩ := h.at_ j hj
 rw [h2]; rfl

theorem Like.chk {L L' : List EEntry} (h : Like L L') {j : Nat} (hj : j < L.length) (hc : batchCheck (L.getD j default).batch = 0) : batchCheck (L'.getD j default).batch = 0 := by
 obtain ⟨o, h1, h2⟩ := h.at_ j hj
 rw [h2]; exact batch_sub h1 hc

theorem tw_same {a b c d : EEntry} (h1 : whoE a = whoE c) (h2 : whoE b = whoE d) : tw a b = tw c d := by
 have := tw_who a b
 have h3 := tw_who c d
 rw [h1, h2, ← h3] at this
 cases h : tw a b <;> cases h' : tw c d <;> simp_all

theorem Like.right {L L' : List EEntry} (h : Like L L') (hR : Rt L) : Rt L' := by
 intro k hk
 rw [h.len] at hk
 have q := hR k hk
 refine ⟨h.chk hk q.chk, fun j hj => ?_, fun h0 ht => ?_⟩
 ·rw [tw_same (h.who (by omega)) (h.who hk)]; exact q.tw j hj
 ·rw [h.ts hk] at ht ⊢
  rw [h.ts (by omega)]; exact q.fol h0 ht

theorem stampF_same : ∀ (L L' : List EEntry), L'.length = L.length → (∀ j, j < L.length → ((L'.getD j default).ts = 0 ↔ (L.getD j default).ts = 0)) → stampF L' = stampF L
 | [], [], _, _ => rfl
 | [], _ :: _, h, _ => by cases h
 | _ :: _, [], h, _ => by cases h
 | a :: L, b :: L', h, hj => by
  have h0 := hj 0 (by simp)
  simp only [List.getD_cons_zero] at h0
  have ih := stampF_same L L' (by simpa using h) fun j hh => by
   have := hj (j + 1) (by simp only [List.length_cons]; omega)
   simpa only [List.getD_cons_succ] using this
  unfold stampF
  by_cases c : a.ts = 0
  ·rw [if_pos (h0.2 c), if_pos c]
  ·rw [if_neg (fun e => c (h0.1 e)), if_neg c, ih]

theorem Like.map {L L' : List EEntry} (h : Like L L') {m : List (Erlog_who × Int)} (hm : mapOk m L) : mapOk m L' := by
 intro w k
 rw [hm w k]
 constructor
 ·rintro ⟨j, h1, h2, h3⟩
  exact ⟨j, by rw [h.len]; exact h1, h2, by rw [h.who h1]; exact h3⟩
 ·rintro ⟨j, h1, h2, h3⟩
  rw [h.len] at h1
  exact ⟨j, h1, h2, by rw [← h.who h1]; exact h3⟩

theorem Like.Rl {L L' : List EEntry} (h : Like L L') {l : Erlog_Log} (hl : Rl l L) : Rl { l with l := L' } L' := by
 obtain ⟨h1, h2, m, h3, h4, h5⟩ := hl
 refine ⟨rfl, ?_, m, h3, h4, h.map h5⟩
 show l.stamped = _
 rw [h2, stampF_same L L' h.len fun j hj => by rw [h.ts hj]]

theorem Rt.nd {L : List EEntry} (h : Rt L) : whoNd L := by
 unfold whoNd
 refine List.pairwise_iff_getElem.2 fun i j hi hj hij e => ?_
 simp only [List.getElem_map] at e
 rw [List.length_map] at hi hj
 have := h.who hi hj (by
  rw [getD_lt hi, getD_lt hj]
  unfold whoOf at e; unfold whoE
  injection e with e1 e2
  rw [e1, e2])
 omega

theorem thin_keys {L : List EEntry} (h : Rt L) {k : Nat} (hk : k < L.length) : (∀ o ∈ (L.getD k default).batch.ops, o.key.size ≤ maxLen) ∧ (L.getD k default).batch.ops.length ≤ 4 := by
 have q := (h k hk).chk
 obtain ⟨_, _, _, _, h5, h6⟩ := batchCheck_ok q
 exact ⟨fun o ho => by have := (h6 o ho).1; unfold maxLen; omega, h5⟩

theorem thin_loop (h : Int) : ∀ (N k : Nat) (l : Erlog_Log) (m : List (ByteArray × Bool)) (g : Int), k < N → Rt l.l → k ≤ l.l.length → l.l.length ≤ 1000 → 0 ≤ g → g + 4 * k < 1000000 →
  iter (F_rlog_Log_Thin_l1 h) N ((k : Int) - 1, l, g, m) = some ((thinD h k l.l m g).2, { l with l := (thinD h k l.l m g).1 })
 | 0, _, _, _, _, hN, _, _, _, _, _ => by omega
 | N + 1, k, l, m, g, hN, hR, hk, hl, h0, hg => by
  show F_rlog_Log_Thin_l1 h (iter (F_rlog_Log_Thin_l1 h) N) ((k : Int) - 1, l, g, m) = _
  have hrec := thin_loop h N
  generalize iter (F_rlog_Log_Thin_l1 h) N = rc at hrec ⊢
  unfold F_rlog_Log_Thin_l1
  dsimp only
  cases k with
  | zero => rw [if_neg (by simp)]; rfl
  | succ k =>
   have hk1 : k < l.l.length := by omega
   rw [show ((k + 1 : Nat) : Int) - 1 = (k : Int) by omega, if_pos (decide_eq_true (by omega)), chk_t (by omega), toNat_cast, thinD]
   by_cases c : (l.l.getD k default).ts ≤ h
   ·obtain ⟨q1, q2⟩ := thin_keys hR hk1
    obtain ⟨s1, s2, s3⟩ := thinS_sub (l.l.getD k default).batch.ops m g
    rw [if_pos (decide_eq_true c), if_pos c, chk_t hR.nd, thin_del q1 (by omega) m g h0 (by omega), Option.bind_some]
    unfold F_rlog_Log_Thin_k2
    rw [chk_t (by unfold inI; omega)]
    have hlike : Like l.l (l.l.set k (withOps (l.l.getD k default) (thinS (l.l.getD k default).batch.ops m g).1)) := (Like.refl _).set k s1
    exact hrec k { l with l := l.l.set k (withOps (l.l.getD k default) (thinS (l.l.getD k default).batch.ops m g).1) } _ _ (by omega) (hlike.right hR) (by show k ≤ List.length _; rw [List.length_set]; omega) (by show List.length _ ≤ _; rw [List.length_set]; omega) (by omega) (by omega)
   ·rw [if_neg (by rw [decide_eq_true_eq]; exact c), if_neg c]
    unfold F_rlog_Log_Thin_k2
    rw [chk_t (by unfold inI; omega)]
    exact hrec k l m g (by omega) hR (by omega) hl h0 (by omega)

def thinL (L : List EEntry) (h n : Int) : List EEntry × Int := thinD h (min n (stampF L : Int)).toNat L [] 0

theorem thinL_like (L : List EEntry) (h n : Int) : Like L (thinL L h n).1 := thinD_like h L _ L [] 0 (Like.refl L)

theorem prog_Thin {l : Erlog_Log} {L : List EEntry} (hR : Rt L) (h : Rl l L) (hl : L.length ≤ 1000) (t n : Int) (hn : 0 ≤ n) : F_rlog_Log_Thin l t n = some ((thinL L t n).2, { l with l := (thinL L t n).1 }) := by
 unfold F_rlog_Log_Thin
 have hs := stampF_le L
 have hL := h.ll
 have hst := h.st
 rw [h.none, Option.bind_some, if_neg (by decide), hst, chk_t (by unfold inI; omega)]
 obtain ⟨k, hk⟩ := Int.eq_ofNat_of_zero_le (show 0 ≤ min n (stampF L : Int) by omega)
 subst hL
 unfold thinL
 rw [hk, toNat_cast]
 exact (thin_loop t FU k l [] 0 (by unfold FU; omega) hR (by omega) hl (Int.le_refl _) (by omega)).trans (by rw [hst])

-- a stamp
def stampC (L : List EEntry) (i ts : Int) : Int := if i < 0 ∨ i ≥ (L.length : Int) then 1 else if ts = 0 then 5 else if i ≠ (stampF L : Int) ∨ ts ≤ lastF L then 18 else 0

theorem item_Last (L : List EEntry) (hl : L.length ≤ 1000) : F_item_Last L = some (lastF L) := by
 unfold F_item_Last lastF
 have hs := stampF_le L
 rw [item_Stamped L (by unfold bdM; omega), Option.bind_some]
 by_cases c : stampF L = 0
 ·rw [if_neg (by rw [decide_eq_true_eq]; omega), if_pos c]
 ·rw [if_pos (decide_eq_true (by omega)), if_neg c, chk_t (by unfold inI; omega), chk_t (by omega), show ((stampF L : Int) - 1).toNat = stampF L - 1 by omega]

theorem stampF_cons (a : EEntry) (r : List EEntry) : stampF (a :: r) = if a.ts = 0 then 0 else stampF r + 1 := rfl

theorem stampF_set : ∀ (L : List EEntry) (e : EEntry), stampF L < L.length → e.ts ≠ 0 → (∀ j, stampF L < j → j < L.length → (L.getD j default).ts = 0) → stampF (L.set (stampF L) e) = stampF L + 1
 | [], _, h, _, _ => by simp at h
 | a :: r, e, h, he, hz => by
  rw [stampF_cons] at h hz ⊢
  by_cases c : a.ts = 0
  ·rw [if_pos c] at h hz ⊢
   rw [List.set_cons_zero, stampF_cons, if_neg he]
   cases r with
   | nil => rfl
   | cons b r =>
    have := hz 1 (by omega) (by simp)
    rw [List.getD_cons_succ, List.getD_cons_zero] at this
    rw [stampF_cons, if_pos this]
  ·rw [if_neg c] at h hz ⊢
   rw [List.set_cons_succ, stampF_cons, if_neg c, stampF_set r e (by simpa using h) he fun j h1 h2 => by
    have := hz (j + 1) (by omega) (by simp only [List.length_cons]; omega)
    rwa [List.getD_cons_succ] at this]

/-- what stands behind the stamped ones has no time -/
theorem Rt.zero {L : List EEntry} (h : Rt L) : ∀ j, stampF L ≤ j → j < L.length → (L.getD j default).ts = 0 := by
 have h0 : stampF L < L.length → (L.getD (stampF L) default).ts = 0 := by
  clear h
  induction L with
  | nil => intro h; simp at h
  | cons a r ih =>
   intro h
   unfold stampF at h ⊢
   by_cases c : a.ts = 0
   ·rw [if_pos c, List.getD_cons_zero]; exact c
   ·rw [if_neg c] at h ⊢
    rw [List.getD_cons_succ]; exact ih (by simpa using h)
 intro j
 induction j with
 | zero =>
  intro h1 h2
  have : stampF L = 0 := by omega
  rw [this] at h0; exact h0 h2
 | succ j ih =>
  intro h1 h2
  by_cases c : stampF L = j + 1
  ·rw [c] at h0; exact h0 h2
  ·have := ih (by omega) (by omega)
   by_cases z : (L.getD (j + 1) default).ts = 0
   ·exact z
   ·exact absurd this ((h (j + 1) h2).fol (by omega) z).1

theorem stamp_right {L : List EEntry} (hR : Rt L) {t : Int} (hn : stampF L < L.length) (ht : t ≠ 0) (hl : ¬ t ≤ lastF L) : Rt (L.set (stampF L) (stampT (L.getD (stampF L) default) t)) ∧ stampF (L.set (stampF L) (stampT (L.getD (stampF L) default) t)) = stampF L + 1 := by
 have hget : ∀ j, j < L.length → (L.set (stampF L) (stampT (L.getD (stampF L) default) t)).getD j default = if stampF L = j then stampT (L.getD j default) t else L.getD j default := fun j hj => by
  rw [getD_lt (by rw [List.length_set]; exact hj), List.getElem_set]
  split
  ·rename_i e; rw [e]
  ·rw [getD_lt hj]
 refine ⟨fun k hk => ?_, stampF_set L _ hn ht fun j h1 h2 => hR.zero j (by omega) h2⟩
 rw [List.length_set] at hk
 have q := hR k hk
 have hb : ∀ j, j < L.length → ((L.set (stampF L) (stampT (L.getD (stampF L) default) t)).getD j default).batch = (L.getD j default).batch := fun j hj => by
  rw [hget j hj]; split <;> rfl
 refine ⟨by rw [hb k hk]; exact q.chk, fun j hj => ?_, fun h0 hz => ?_⟩
 ·have := q.tw j hj
  unfold tw at this ⊢
  rw [hb k hk, hb j (by omega)]; exact this
 ·rw [hget k hk] at hz ⊢
  rw [hget (k - 1) (by omega)]
  by_cases c : stampF L = k
  ·rw [if_pos c, if_neg (by omega)]
   unfold lastF at hl
   rw [if_neg (by omega), c] at hl
   exact ⟨stampF_pos L (k - 1) (by omega), by show _ < t; omega⟩
  ·rw [if_neg c] at hz ⊢
   by_cases d : stampF L < k
   ·exact absurd (hR.zero k (by omega) hk) hz
   ·rw [if_neg (by omega)]; exact q.fol h0 hz

def stampR (L : List EEntry) (i ts : Int) : List EEntry := if stampC L i ts = 0 then L.set i.toNat (stampT (L.getD i.toNat default) ts) else L

theorem stampC_ok {L : List EEntry} {i ts : Int} (h : stampC L i ts = 0) : i = (stampF L : Int) ∧ stampF L < L.length ∧ ts ≠ 0 ∧ ¬ ts ≤ lastF L := by
 unfold stampC at h
 split at h; · cases h
 split at h; · cases h
 split at h; · cases h
 rename_i c1 c2 c3
 exact ⟨by omega, by omega, c2, by omega⟩

theorem stampR_right {L : List EEntry} (hR : Rt L) (i ts : Int) : Rt (stampR L i ts) ∧ (stampR L i ts).length = L.length := by
 unfold stampR
 by_cases c : stampC L i ts = 0
 ·obtain ⟨h1, h2, h3, h4⟩ := stampC_ok c
  rw [if_pos c, h1, toNat_cast, List.length_set]
  exact ⟨(stamp_right hR h2 h3 h4).1, rfl⟩
 ·rw [if_neg c]; exact ⟨hR, rfl⟩

theorem prog_Stamp {l : Erlog_Log} {L : List EEntry} (hR : Rt L) (h : Rl l L) (hl : L.length ≤ 1000) (i ts : Int) : ∃ l', F_rlog_Log_Stamp l i ts = some (stampC L i ts, l') ∧ Rl l' (stampR L i ts) := by
 unfold F_rlog_Log_Stamp stampR
 have hs := stampF_le L
 have hL := h.ll
 have hst := h.st
 rw [h.none, Option.bind_some, if_neg (by decide), hL, hst]
 unfold stampC
 by_cases c1 : i < 0 ∨ i ≥ (L.length : Int)
 ·rw [if_pos (by rw [Bool.or_eq_true, decide_eq_true_eq, decide_eq_true_eq]; exact c1), if_pos c1]
  exact ⟨l, rfl, h⟩
 rw [if_neg (by rw [Bool.or_eq_true, decide_eq_true_eq, decide_eq_true_eq]; exact c1), if_neg c1]
 by_cases c2 : ts = 0
 ·rw [if_pos (by rw [c2]; rfl), if_pos c2]
  exact ⟨l, rfl, h⟩
 rw [if_neg (by simpa using c2), if_neg c2, item_Last L hl]
 by_cases c3 : i = (stampF L : Int)
 ·have e1 : (i != (stampF L : Int)) = false := by rw [c3, bne_self_eq_false]
  rw [e1, show (!false) = true from rfl, gif_true, Option.bind_some, Bool.false_or]
  by_cases c4 : ts ≤ lastF L
  ·rw [if_pos (decide_eq_true c4), if_pos (.inr c4)]
   exact ⟨l, rfl, h⟩
  ·rw [if_neg (by rw [decide_eq_true_eq]; exact c4), if_neg (by rintro (a | a); exact a c3; exact c4 a), chk_t (by omega), chk_t (by unfold inI; omega), if_pos rfl]
   obtain ⟨q1, q2⟩ := stamp_right hR (t := ts) (by omega) c2 c4
   have e : L.set i.toNat (stampT (L.getD i.toNat default) ts) = L.set (stampF L) (stampT (L.getD (stampF L) default) ts) := by rw [c3, toNat_cast]
   refine ⟨_, rfl, rfl, ?_, ?_⟩
   ·show (stampF L : Int) + 1 = _
    rw [e, q2]; rfl
   ·obtain ⟨m, m1, m2, m3⟩ := h.m
    refine ⟨m, m1, m2, fun w k => ?_⟩
    have hw : ∀ j, j < L.length → whoE ((L.set i.toNat (stampT (L.getD i.toNat default) ts)).getD j default) = whoE (L.getD j default) := fun j hj => by
     rw [getD_lt (by rw [List.length_set]; exact hj), List.getElem_set]
     split
     ·rename_i e2; rw [e2]; rfl
     ·rw [getD_lt hj]
    rw [m3 w k]
    constructor
    ·rintro ⟨j, h1, h2, h3⟩
     exact ⟨j, by rw [List.length_set]; exact h1, h2, by rw [hw j h1]; exact h3⟩
    ·rintro ⟨j, h1, h2, h3⟩
     rw [List.length_set] at h1
     exact ⟨j, h1, h2, by rw [← hw j h1]; exact h3⟩
 ·have e1 : (i != (stampF L : Int)) = true := bne_iff_ne.2 c3
  rw [e1, show (!true) = false from rfl, gif_false, Option.bind_some, Bool.true_or, if_pos rfl, if_pos (.inl c3)]
  exact ⟨l, rfl, h⟩

theorem prog_All {l : Erlog_Log} {L : List EEntry} (hR : Rt L) (h : Rl l L) (hl : L.length ≤ 1000) : F_rlog_Log_All l = some L := by
 unfold F_rlog_Log_All
 rw [h.none, Option.bind_some, if_neg (by decide)]
 have hL := h.ll
 refine (iter_up3 (σ := List EEntry) L.length (fun k out => some (out ++ L.drop k)) (fun k out => out.length = k) (by unfold bdM; omega) rfl fun rc k out hk hp hrc => ?_).trans (by rw [List.drop_zero]; rfl)
 unfold F_rlog_Log_All_l1
 dsimp only
 rw [hL, toNat_cast]
 by_cases hk' : k < L.length
 ·have q := (thin_keys hR hk').2
  have ho : F_rlog_own ({ (L.getD k default) with batch := ({ client := ((L.getD k default).batch).client, req := ((L.getD k default).batch).req, ops := ((L.getD k default).batch).ops } : EBatch) } : EEntry) = some (L.getD k default) := by
   unfold F_rlog_own F_slices_Clone_api_Op_api_Op
   rw [chk_t (by simp only [List.length_nil]; omega)]; rfl
  rw [if_pos (decide_eq_true (by omega)), chk_t (by omega), ho, Option.bind_some, chk_t (by rw [hp]; simp only [List.length_cons, List.length_nil]; omega), chk_t (by unfold inI; omega), hrc _ hk' (by rw [List.length_append, hp]; rfl), drop_cons (d := default) hk', List.append_assoc]; rfl
 ·rw [if_neg (by rw [decide_eq_true_eq]; omega), List.drop_eq_nil_of_le (by omega), List.append_nil]

end Go.Proofs.Ytglfajjcgbfehaa
