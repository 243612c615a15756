/- Small texts in one. -/
import Derived.Test.YtglfajjcgbfehaaGreatYP
import Derived.Test.YtglfajjcgbfehaaGreatYNoteC
namespace Go.Proofs.YtglfajjcgbfehaaGreat

theorem bl_irr : ∀ x : List UInt8, Op.bytesLess x x = false
 | [] => rfl
 | a :: x => by simp [Op.bytesLess, bl_irr x]

theorem bl_trans : ∀ {x y z : List UInt8}, Op.bytesLess x y = true → Op.bytesLess y z = true → Op.bytesLess x z = true
 | [], [], _, h, _ => by simp [Op.bytesLess] at h
 | [], _ :: _, [], _, h => by simp [Op.bytesLess] at h
 | [], _ :: _, _ :: _, _, _ => by simp [Op.bytesLess]
 | _ :: _, [], _, h, _ => by simp [Op.bytesLess] at h
 | _ :: _, _ :: _, [], _, h => by simp [Op.bytesLess] at h
 | a :: x, b :: y, c :: z, h1, h2 => by
  simp only [Op.bytesLess, Bool.or_eq_true, decide_eq_true_eq, Bool.and_eq_true, beq_iff_eq] at h1 h2 ⊢
  rcases h1 with h1 | ⟨rfl, h1⟩
  ·rcases h2 with h2 | ⟨rfl, h2⟩
   ·exact .inl (UInt8.lt_trans h1 h2)
   ·exact .inl h1
  ·rcases h2 with h2 | ⟨rfl, h2⟩
   ·exact .inl h2
   ·exact .inr ⟨rfl, bl_trans h1 h2⟩

theorem toList_inj {x y : ByteArray} (h : x.toList = y.toList) : x = y := seqB_iff.1 (by unfold seqB; rw [h]; exact beq_self_eq_true _)

theorem slt_irr (x : ByteArray) : sltB x x = false := bl_irr _

theorem slt_trans {x y z : ByteArray} (h1 : sltB x y = true) (h2 : sltB y z = true) : sltB x z = true := bl_trans h1 h2

end Go.Proofs.YtglfajjcgbfehaaGreat

namespace Go.Proofs.YtglfajjcgbfehaaGreat

-- fewer operations are right too
theorem opsChk_sub {x y : List EOp} (h : x.Sublist y) : ∀ a b : Option ByteArray, (∀ k, notBehind a k = false → notBehind b k = false) → opsChk a y = 0 → opsChk b x = 0 := by
 induction h with
 | slnil => intros; rfl
 | @cons l1 l2 o hs ih =>
  intro a b hab h
  rw [opsChk_cons] at h
  split at h; · cases h
  split at h; · cases h
  by_cases c3 : (o.del && !decide (o.val.size = 0)) = true
  ·rw [if_pos c3] at h; cases h
  rw [if_neg c3] at h
  by_cases c4 : notBehind a o.key = true
  ·rw [if_pos c4] at h; cases h
  rw [if_neg c4] at h
  refine ih (some o.key) b (fun k hk => ?_) h
  refine hab k ?_
  cases a with
  | none => rfl
  | some z =>
   have e1 : sltB z o.key = true := by
    cases hz : sltB z o.key with
    | true => rfl
    | false => exact absurd (show notBehind (some z) o.key = true by unfold notBehind; simp [hz]) c4
   have e2 : sltB o.key k = true := by
    cases hz : sltB o.key k with
    | true => rfl
    | false => unfold notBehind at hk; simp [hz] at hk
   unfold notBehind; simp [slt_trans e1 e2]
 | @cons_cons l1 l2 o hs ih =>
  intro a b hab h
  rw [opsChk_cons] at h ⊢
  split at h; · cases h
  rename_i c1
  split at h; · cases h
  rename_i c2
  by_cases c3 : (o.del && !decide (o.val.size = 0)) = true
  ·rw [if_pos c3] at h; cases h
  rw [if_neg c3] at h
  by_cases c4 : notBehind a o.key = true
  ·rw [if_pos c4] at h; cases h
  rw [if_neg c4] at h
  rw [if_neg c1, if_neg c2, if_neg c3, if_neg (by rw [hab _ (by simpa using c4)]; decide)]
  exact ih _ _ (fun _ h => h) h

theorem batch_sub {b : EBatch} {ops : List EOp} (h : ops.Sublist b.ops) (hc : batchCheck b = 0) : batchCheck { b with ops := ops } = 0 := by
 have hl := h.length_le
 unfold batchCheck at hc ⊢
 split at hc; · cases hc
 rename_i c1
 split at hc; · cases hc
 rename_i c2
 split at hc; · cases hc
 rename_i c3
 rw [if_neg c1, if_neg c2, if_neg (by show ¬ ops.length > 4; omega)]
 exact opsChk_sub h none none (fun _ h => h) hc

/-- entry by entry from the k-th down -/
def thinD (h : Int) : Nat → List EEntry → List (ByteArray × Bool) → Int → List EEntry × Int
 | 0, L, _, g => (L, g)
 | k + 1, L, m, g => if (L.getD k default).ts ≤ h then thinD h k (L.set k (withOps (L.getD k default) (thinS (L.getD k default).batch.ops m g).1)) (thinS (L.getD k default).batch.ops m g).2.1 (thinS (L.getD k default).batch.ops m g).2.2 else thinD h k L m g

structure Like (L L' : List EEntry) : Prop where
 len : L'.length = L.length
 at_ : ∀ j, j < L.length → ∃ ops, ops.Sublist (L.getD j default).batch.ops ∧ L'.getD j default = withOps (L.getD j default) ops

theorem Like.refl (L : List EEntry) : Like L L := ⟨rfl, fun j _ => ⟨_, List.Sublist.refl _, rfl⟩⟩

theorem Like.set {L L' : List EEntry} (h : Like L L') (k : Nat) {ops : List EOp} (hs : ops.Sublist (L'.getD k default).batch.ops) : Like L (L'.set k (withOps (L'.getD k default) ops)) := by
 refine ⟨by rw [List.length_set]; exact h.len, fun j hj => ?_⟩
 obtain ⟨o, h1, h2⟩ := h.at_ j hj
 have hj' : j < L'.length := by rw [h.len]; exact hj
 by_cases c : k = j
 ·subst c
  refine ⟨ops, ?_, ?_⟩
  ·rw [h2] at hs; exact hs.trans h1
  ·rw [getD_lt (by rw [List.length_set]; exact hj'), List.getElem_set_self, h2]; rfl
 ·refine ⟨o, h1, ?_⟩
  rw [getD_lt (by rw [List.length_set]; exact hj'), List.getElem_set_ne c, ← getD_lt (d := default) hj']; exact h2

theorem thinD_like (h : Int) (L : List EEntry) : ∀ (k : Nat) (L' : List EEntry) (m : List (ByteArray × Bool)) (g : Int), Like L L' → Like L (thinD h k L' m g).1
 | 0, _, _, _, hl => hl
 | k + 1, L', m, g, hl => by
  unfold thinD
  split
  ·exact thinD_like h L k _ _ _ (hl.set k (thinS_sub _ _ _).1)
  ·exact thinD_like h L k _ _ _ hl

theorem Like.who {L L' : List EEntry} (h : Like L L') {j : Nat} (hj : j < L.length) : whoE (L'.getD j default) = whoE (L.getD j default) := by
 obtain ⟨o, _, h2⟩ := h.at_ j hj
 rw [h2]; rfl

theorem Like.ts {L L' : List EEntry} (h : Like L L') {j : Nat} (hj : j < L.length) : (L'.getD j default).ts = (L.getD j default).ts := by
 obtain ⟨o, _, h2⟩ := h.at_ j hj
 rw [h2]; rfl

theorem Like.chk {L L' : List EEntry} (h : Like L L') {j : Nat} (hj : j < L.length) (hc : batchCheck (L.getD j default).batch = 0) : batchCheck (L'.getD j default).batch = 0 := by
 obtain ⟨o, h1, h2⟩ := h.at_ j hj
 rw [h2]; exact batch_sub h1 hc

theorem tw_same {a b c d : EEntry} (h1 : whoE a = whoE c) (h2 : whoE b = whoE d) : tw a b = tw c d := by
 have := tw_who a b
 have h3 := tw_who c d
 rw [h1, h2, ← h3] at this
 cases h : tw a b <;> cases h' : tw c d <;> simp_all

theorem Like.right {L L' : List EEntry} (h : Like L L') (hR : Rt L) : Rt L' := by
 intro k hk
 rw [h.len] at hk
 have q := hR k hk
 refine ⟨h.chk hk q.chk, fun j hj => ?_, fun h0 ht => ?_⟩
 ·rw [tw_same (h.who (by omega)) (h.who hk)]; exact q.tw j hj
 ·rw [h.ts hk] at ht ⊢
  rw [h.ts (by omega)]; exact q.fol h0 ht

theorem stampF_same : ∀ (L L' : List EEntry), L'.length = L.length → (∀ j, j < L.length → ((L'.getD j default).ts = 0 ↔ (L.getD j default).ts = 0)) → stampF L' = stampF L
 | [], [], _, _ => rfl
 | [], _ :: _, h, _ => by cases h
 | _ :: _, [], h, _ => by cases h
 | a :: L, b :: L', h, hj => by
  have h0 := hj 0 (by simp)
  simp only [List.getD_cons_zero] at h0
  have ih := stampF_same L L' (by simpa using h) fun j hh => by
   have := hj (j + 1) (by simp only [List.length_cons]; omega)
   simpa only [List.getD_cons_succ] using this
  unfold stampF
  by_cases c : a.ts = 0
  ·rw [if_pos (h0.2 c), if_pos c]
  ·rw [if_neg (fun e => c (h0.1 e)), if_neg c, ih]

theorem Like.map {L L' : List EEntry} (h : Like L L') {m : List (Erlog_who × Int)} (hm : mapOk m L) : mapOk m L' := by
 intro w k
 rw [hm w k]
 constructor
 ·rintro ⟨j, h1, h2, h3⟩
  exact ⟨j, by rw [h.len]; exact h1, h2, by rw [h.who h1]; exact h3⟩
 ·rintro ⟨j, h1, h2, h3⟩
  rw [h.len] at h1
  exact ⟨j, h1, h2, by rw [← h.who h1]; exact h3⟩

theorem Like.Rl {L L' : List EEntry} (h : Like L L') {l : Erlog_Log} (hl : Rl l L) : Rl { l with l := L' } L' := by
 obtain ⟨h1, h2, m, h3, h4, h5⟩ := hl
 refine ⟨rfl, ?_, m, h3, h4, h.map h5⟩
 show l.stamped = _
 rw [h2, stampF_same L L' h.len fun j hj => by rw [h.ts hj]]

theorem Rt.nd {L : List EEntry} (h : Rt L) : whoNd L := by
 unfold whoNd
 refine List.pairwise_iff_getElem.2 fun i j hi hj hij e => ?_
 simp only [List.getElem_map] at e
 rw [List.length_map] at hi hj
 have := h.who hi hj (by
  rw [getD_lt hi, getD_lt hj]
  unfold whoOf at e; unfold whoE
  injection e with e1 e2
  rw [e1, e2])
 omega

theorem thin_keys {L : List EEntry} (h : Rt L) {k : Nat} (hk : k < L.length) : (∀ o ∈ (L.getD k default).batch.ops, o.key.size ≤ maxLen) ∧ (L.getD k default).batch.ops.length ≤ 4 := by
 have q := (h k hk).chk
 obtain ⟨_, _, _, _, h5, h6⟩ := batchCheck_ok q
 exact ⟨fun o ho => by have := (h6 o ho).1; unfold maxLen; omega, h5⟩

theorem thin_loop (h : Int) : ∀ (N k : Nat) (l : Erlog_Log) (m : List (ByteArray × Bool)) (g : Int), k < N → Rt l.l → k ≤ l.l.length → l.l.length ≤ 1000 → 0 ≤ g → g + 4 * k < 1000000 →
  iter (F_rlog_Log_Thin_l1 h) N ((k : Int) - 1, l, g, m) = some ((thinD h k l.l m g).2, { l with l := (thinD h k l.l m g).1 })
 | 0, _, _, _, _, hN, _, _, _, _, _ => by omega
 | N + 1, k, l, m, g, hN, hR, hk, hl, h0, hg => by
  show F_rlog_Log_Thin_l1 h (iter (F_rlog_Log_Thin_l1 h) N) ((k : Int) - 1, l, g, m) = _
  have hrec := thin_loop h N
  generalize iter (F_rlog_Log_Thin_l1 h) N = rc at hrec ⊢
  unfold F_rlog_Log_Thin_l1
  dsimp only
  cases k with
  | zero => rw [if_neg (by simp)]; rfl
  | succ k =>
   have hk1 : k < l.l.length := by omega
   rw [show ((k + 1 : Nat) : Int) - 1 = (k : Int) by omega, if_pos (decide_eq_true (by omega)), chk_t (by omega), toNat_cast, thinD]
   by_cases c : (l.l.getD k default).ts ≤ h
   ·obtain ⟨q1, q2⟩ := thin_keys hR hk1
    obtain ⟨s1, s2, s3⟩ := thinS_sub (l.l.getD k default).batch.ops m g
    rw [if_pos (decide_eq_true c), if_pos c, chk_t hR.nd, thin_del q1 (by omega) m g h0 (by omega), Option.bind_some]
    unfold F_rlog_Log_Thin_k2
    rw [chk_t (by unfold inI; omega)]
    have hlike : Like l.l (l.l.set k (withOps (l.l.getD k default) (thinS (l.l.getD k default).batch.ops m g).1)) := (Like.refl _).set k s1
    exact hrec k { l with l := l.l.set k (withOps (l.l.getD k default) (thinS (l.l.getD k default).batch.ops m g).1) } _ _ (by omega) (hlike.right hR) (by show k ≤ List.length _; rw [List.length_set]; omega) (by show List.length _ ≤ _; rw [List.length_set]; omega) (by omega) (by omega)
   ·rw [if_neg (by rw [decide_eq_true_eq]; exact c), if_neg c]
    unfold F_rlog_Log_Thin_k2
    rw [chk_t (by unfold inI; omega)]
    exact hrec k l m g (by omega) hR (by omega) hl h0 (by omega)

def thinL (L : List EEntry) (h n : Int) : List EEntry × Int := thinD h (min n (stampF L : Int)).toNat L [] 0

theorem thinL_like (L : List EEntry) (h n : Int) : Like L (thinL L h n).1 := thinD_like h L _ L [] 0 (Like.refl L)

theorem prog_Thin {l : Erlog_Log} {L : List EEntry} (hR : Rt L) (h : Rl l L) (hl : L.length ≤ 1000) (t n : Int) (hn : 0 ≤ n) : F_rlog_Log_Thin l t n = some ((thinL L t n).2, { l with l := (thinL L t n).1 }) := by
 unfold F_rlog_Log_Thin
 have hs := stampF_le L
 have hL := h.ll
 have hst := h.st
 rw [h.none, Option.bind_some, if_neg (by decide), hst, chk_t (by unfold inI; omega)]
 obtain ⟨k, hk⟩ := Int.eq_ofNat_of_zero_le (show 0 ≤ min n (stampF L : Int) by omega)
 subst hL
 unfold thinL
 rw [hk, toNat_cast]
 exact (thin_loop t FU k l [] 0 (by unfold FU; omega) hR (by omega) hl (Int.le_refl _) (by omega)).trans (by rw [hst])

-- a stamp
def stampC (L : List EEntry) (i ts : Int) : Int := if i < 0 ∨ i ≥ (L.length : Int) then 1 else if ts = 0 then 5 else if i ≠ (stampF L : Int) ∨ ts ≤ lastF L then 18 else 0

theorem item_Last (L : List EEntry) (hl : L.length ≤ 1000) : F_item_Last L = some (lastF L) := by
 unfold F_item_Last lastF
 have hs := stampF_le L
 rw [item_Stamped L (by unfold bdM; omega), Option.bind_some]
 by_cases c : stampF L = 0
 ·rw [if_neg (by rw [decide_eq_true_eq]; omega), if_pos c]
 ·rw [if_pos (decide_eq_true (by omega)), if_neg c, chk_t (by unfold inI; omega), chk_t (by omega), show ((stampF L : Int) - 1).toNat = stampF L - 1 by omega]

theorem stampF_cons (a : EEntry) (r : List EEntry) : stampF (a :: r) = if a.ts = 0 then 0 else stampF r + 1 := rfl

theorem stampF_set : ∀ (L : List EEntry) (e : EEntry), stampF L < L.length → e.ts ≠ 0 → (∀ j, stampF L < j → j < L.length → (L.getD j default).ts = 0) → stampF (L.set (stampF L) e) = stampF L + 1
 | [], _, h, _, _ => by simp at h
 | a :: r, e, h, he, hz => by
  rw [stampF_cons] at h hz ⊢
  by_cases c : a.ts = 0
  ·rw [if_pos c] at h hz ⊢
   rw [List.set_cons_zero, stampF_cons, if_neg he]
   cases r with
   | nil => rfl
   | cons b r =>
    have := hz 1 (by omega) (by simp)
    rw [List.getD_cons_succ, List.getD_cons_zero] at this
    rw [stampF_cons, if_pos this]
  ·rw [if_neg c] at h hz ⊢
   rw [List.set_cons_succ, stampF_cons, if_neg c, stampF_set r e (by simpa using h) he fun j h1 h2 => by
    have := hz (j + 1) (by omega) (by simp only [List.length_cons]; omega)
    rwa [List.getD_cons_succ] at this]

/-- what stands behind the stamped ones has no time -/
theorem Rt.zero {L : List EEntry} (h : Rt L) : ∀ j, stampF L ≤ j → j < L.length → (L.getD j default).ts = 0 := by
 have h0 : stampF L < L.length → (L.getD (stampF L) default).ts = 0 := by
  clear h
  induction L with
  | nil => intro h; simp at h
  | cons a r ih =>
   intro h
   unfold stampF at h ⊢
   by_cases c : a.ts = 0
   ·rw [if_pos c, List.getD_cons_zero]; exact c
   ·rw [if_neg c] at h ⊢
    rw [List.getD_cons_succ]; exact ih (by simpa using h)
 intro j
 induction j with
 | zero =>
  intro h1 h2
  have : stampF L = 0 := by omega
  rw [this] at h0; exact h0 h2
 | succ j ih =>
  intro h1 h2
  by_cases c : stampF L = j + 1
  ·rw [c] at h0; exact h0 h2
  ·have := ih (by omega) (by omega)
   by_cases z : (L.getD (j + 1) default).ts = 0
   ·exact z
   ·exact absurd this ((h (j + 1) h2).fol (by omega) z).1

theorem stamp_right {L : List EEntry} (hR : Rt L) {t : Int} (hn : stampF L < L.length) (ht : t ≠ 0) (hl : ¬ t ≤ lastF L) : Rt (L.set (stampF L) (stampT (L.getD (stampF L) default) t)) ∧ stampF (L.set (stampF L) (stampT (L.getD (stampF L) default) t)) = stampF L + 1 := by
 have hget : ∀ j, j < L.length → (L.set (stampF L) (stampT (L.getD (stampF L) default) t)).getD j default = if stampF L = j then stampT (L.getD j default) t else L.getD j default := fun j hj => by
  rw [getD_lt (by rw [List.length_set]; exact hj), List.getElem_set]
  split
  ·rename_i e; rw [e]
  ·rw [getD_lt hj]
 refine ⟨fun k hk => ?_, stampF_set L _ hn ht fun j h1 h2 => hR.zero j (by omega) h2⟩
 rw [List.length_set] at hk
 have q := hR k hk
 have hb : ∀ j, j < L.length → ((L.set (stampF L) (stampT (L.getD (stampF L) default) t)).getD j default).batch = (L.getD j default).batch := fun j hj => by
  rw [hget j hj]; split <;> rfl
 refine ⟨by rw [hb k hk]; exact q.chk, fun j hj => ?_, fun h0 hz => ?_⟩
 ·have := q.tw j hj
  unfold tw at this ⊢
  rw [hb k hk, hb j (by omega)]; exact this
 ·rw [hget k hk] at hz ⊢
  rw [hget (k - 1) (by omega)]
  by_cases c : stampF L = k
  ·rw [if_pos c, if_neg (by omega)]
   unfold lastF at hl
   rw [if_neg (by omega), c] at hl
   exact ⟨stampF_pos L (k - 1) (by omega), by show _ < t; omega⟩
  ·rw [if_neg c] at hz ⊢
   by_cases d : stampF L < k
   ·exact absurd (hR.zero k (by omega) hk) hz
   ·rw [if_neg (by omega)]; exact q.fol h0 hz

def stampR (L : List EEntry) (i ts : Int) : List EEntry := if stampC L i ts = 0 then L.set i.toNat (stampT (L.getD i.toNat default) ts) else L

theorem stampC_ok {L : List EEntry} {i ts : Int} (h : stampC L i ts = 0) : i = (stampF L : Int) ∧ stampF L < L.length ∧ ts ≠ 0 ∧ ¬ ts ≤ lastF L := by
 unfold stampC at h
 split at h; · cases h
 split at h; · cases h
 split at h; · cases h
 rename_i c1 c2 c3
 exact ⟨by omega, by omega, c2, by omega⟩

theorem stampR_right {L : List EEntry} (hR : Rt L) (i ts : Int) : Rt (stampR L i ts) ∧ (stampR L i ts).length = L.length := by
 unfold stampR
 by_cases c : stampC L i ts = 0
 ·obtain ⟨h1, h2, h3, h4⟩ := stampC_ok c
  rw [if_pos c, h1, toNat_cast, List.length_set]
  exact ⟨(stamp_right hR h2 h3 h4).1, rfl⟩
 ·rw [if_neg c]; exact ⟨hR, rfl⟩

theorem prog_Stamp {l : Erlog_Log} {L : List EEntry} (hR : Rt L) (h : Rl l L) (hl : L.length ≤ 1000) (i ts : Int) : ∃ l', F_rlog_Log_Stamp l i ts = some (stampC L i ts, l') ∧ Rl l' (stampR L i ts) := by
 unfold F_rlog_Log_Stamp stampR
 have hs := stampF_le L
 have hL := h.ll
 have hst := h.st
 rw [h.none, Option.bind_some, if_neg (by decide), hL, hst]
 unfold stampC
 by_cases c1 : i < 0 ∨ i ≥ (L.length : Int)
 ·rw [if_pos (by rw [Bool.or_eq_true, decide_eq_true_eq, decide_eq_true_eq]; exact c1), if_pos c1]
  exact ⟨l, rfl, h⟩
 rw [if_neg (by rw [Bool.or_eq_true, decide_eq_true_eq, decide_eq_true_eq]; exact c1), if_neg c1]
 by_cases c2 : ts = 0
 ·rw [if_pos (by rw [c2]; rfl), if_pos c2]
  exact ⟨l, rfl, h⟩
 rw [if_neg (by simpa using c2), if_neg c2, item_Last L hl]
 by_cases c3 : i = (stampF L : Int)
 ·have e1 : (i != (stampF L : Int)) = false := by rw [c3, bne_self_eq_false]
  rw [e1, show (!false) = true from rfl, gif_true, Option.bind_some, Bool.false_or]
  by_cases c4 : ts ≤ lastF L
  ·rw [if_pos (decide_eq_true c4), if_pos (.inr c4)]
   exact ⟨l, rfl, h⟩
  ·rw [if_neg (by rw [decide_eq_true_eq]; exact c4), if_neg (by rintro (a | a); exact a c3; exact c4 a), chk_t (by omega), chk_t (by unfold inI; omega), if_pos rfl]
   obtain ⟨q1, q2⟩ := stamp_right hR (t := ts) (by omega) c2 c4
   have e : L.set i.toNat (stampT (L.getD i.toNat default) ts) = L.set (stampF L) (stampT (L.getD (stampF L) default) ts) := by rw [c3, toNat_cast]
   refine ⟨_, rfl, rfl, ?_, ?_⟩
   ·show (stampF L : Int) + 1 = _
    rw [e, q2]; rfl
   ·obtain ⟨m, m1, m2, m3⟩ := h.m
    refine ⟨m, m1, m2, fun w k => ?_⟩
    have hw : ∀ j, j < L.length → whoE ((L.set i.toNat (stampT (L.getD i.toNat default) ts)).getD j default) = whoE (L.getD j default) := fun j hj => by
     rw [getD_lt (by rw [List.length_set]; exact hj), List.getElem_set]
     split
     ·rename_i e2; rw [e2]; rfl
     ·rw [getD_lt hj]
    rw [m3 w k]
    constructor
    ·rintro ⟨j, h1, h2, h3⟩
     exact ⟨j, by rw [List.length_set]; exact h1, h2, by rw [hw j h1]; exact h3⟩
    ·rintro ⟨j, h1, h2, h3⟩
     rw [List.length_set] at h1
     exact ⟨j, h1, h2, by rw [← hw j h1]; exact h3⟩
 ·have e1 : (i != (stampF L : Int)) = true := bne_iff_ne.2 c3
  rw [e1, show (!true) = false from rfl, gif_false, Option.bind_some, Bool.true_or, if_pos rfl, if_pos (.inl c3)]
  exact ⟨l, rfl, h⟩

theorem prog_All {l : Erlog_Log} {L : List EEntry} (hR : Rt L) (h : Rl l L) (hl : L.length ≤ 1000) : F_rlog_Log_All l = some L := by
 unfold F_rlog_Log_All
 rw [h.none, Option.bind_some, if_neg (by decide)]
 have hL := h.ll
 refine (iter_up3 (σ := List EEntry) L.length (fun k out => some (out ++ L.drop k)) (fun k out => out.length = k) (by unfold bdM; omega) rfl fun rc k out hk hp hrc => ?_).trans (by rw [List.drop_zero]; rfl)
 unfold F_rlog_Log_All_l1
 dsimp only
 rw [hL, toNat_cast]
 by_cases hk' : k < L.length
 ·have q := (thin_keys hR hk').2
  have ho : F_rlog_own ({ (L.getD k default) with batch := ({ client := ((L.getD k default).batch).client, req := ((L.getD k default).batch).req, ops := ((L.getD k default).batch).ops } : EBatch) } : EEntry) = some (L.getD k default) := by
   unfold F_rlog_own F_slices_Clone_api_Op_api_Op
   rw [chk_t (by simp only [List.length_nil]; omega)]; rfl
  rw [if_pos (decide_eq_true (by omega)), chk_t (by omega), ho, Option.bind_some, chk_t (by rw [hp]; simp only [List.length_cons, List.length_nil]; omega), chk_t (by unfold inI; omega), hrc _ hk' (by rw [List.length_append, hp]; rfl), drop_cons (d := default) hk', List.append_assoc]; rfl
 ·rw [if_neg (by rw [decide_eq_true_eq]; omega), List.drop_eq_nil_of_le (by omega), List.append_nil]

end Go.Proofs.YtglfajjcgbfehaaGreat

namespace Go.Proofs.YtglfajjcgbfehaaGreat

structure Abs where
 c : EConf
 h : Int
 L : List EEntry

structure AOk (a : Abs) : Prop where
 rt : Rt a.L
 len : a.L.length ≤ 100
 mem : a.c.members.length ≤ 4

structure SR (s : Erstate_State) (a : Abs) : Prop where
 conf : s.conf = a.c
 hor : s.horizon = a.h
 log : ∃ l, s.log = some l ∧ Rl l a.L

def appE (a : Abs) (n : ENote) : Int :=
 if noteCheck n ≠ 0 then noteCheck n
 else if n.k = 1 then (if n.conf.epoch ≤ a.c.epoch then 18 else 0)
 else if n.k = 2 then setC a.L n.n n.entry
 else if n.k = 3 then stampC a.L n.n n.at_
 else if n.k = 4 then (if n.at_ < a.h then 18 else 0) else 11

def appA (a : Abs) (n : ENote) : Abs :=
 if noteCheck n ≠ 0 then a
 else if n.k = 1 then (if n.conf.epoch ≤ a.c.epoch then a else { a with c := n.conf })
 else if n.k = 2 then { a with L := if setC a.L n.n n.entry = 0 then putE a.L n.n.toNat n.entry else a.L }
 else if n.k = 3 then { a with L := stampR a.L n.n n.at_ }
 else if n.k = 4 then (if n.at_ < a.h then a else { a with h := n.at_, L := (thinL a.L n.at_ n.n).1 }) else a

def abs0 : Abs := ⟨default, 0, []⟩

theorem abs0_ok : AOk abs0 := ⟨fun k h => by simp [abs0] at h, by decide, by decide⟩

theorem app_ok {a : Abs} (h : AOk a) (n : ENote) : AOk (appA a n) := by
 unfold appA
 by_cases c0 : noteCheck n ≠ 0
 ·rw [if_pos c0]; exact h
 rw [if_neg c0]
 have c0' : noteCheck n = 0 := by omega
 by_cases c1 : n.k = 1
 ·rw [if_pos c1]
  by_cases d : n.conf.epoch ≤ a.c.epoch
  ·rw [if_pos d]; exact h
  ·rw [if_neg d]; exact ⟨h.rt, h.len, (confCheck_ok (noteCheck_1 c1 c0').1).2.2.2.1⟩
 rw [if_neg c1]
 by_cases c2 : n.k = 2
 ·rw [if_pos c2]
  by_cases d : setC a.L n.n n.entry = 0
  ·rw [if_pos d]
   have hc := setC_ok.1 d
   have hn : n.n.toNat ≤ a.L.length := by have := hc.1; have := hc.2; omega
   have hp := (put_len (e := n.entry) hn).2
   have h100 : n.n < 100 := by
    unfold setC at d
    split at d; · cases d
    split at d; · omega
    split at d; · cases d
    omega
   refine ⟨put_right h.rt hc, ?_, h.mem⟩
   have := h.len
   show (putE a.L n.n.toNat n.entry).length ≤ 100
   omega
  ·rw [if_neg d]; exact h
 rw [if_neg c2]
 by_cases c3 : n.k = 3
 ·rw [if_pos c3]
  obtain ⟨q1, q2⟩ := stampR_right h.rt n.n n.at_
  exact ⟨q1, by show (stampR a.L n.n n.at_).length ≤ 100; rw [q2]; exact h.len, h.mem⟩
 rw [if_neg c3]
 by_cases c4 : n.k = 4
 ·rw [if_pos c4]
  by_cases d : n.at_ < a.h
  ·rw [if_pos d]; exact h
  ·rw [if_neg d]
   have := thinL_like a.L n.at_ n.n
   exact ⟨this.right h.rt, by show ((thinL a.L n.at_ n.n).1).length ≤ 100; rw [this.len]; exact h.len, h.mem⟩
 ·rw [if_neg c4]; exact h

theorem SR.none {s : Erstate_State} {a : Abs} (h : SR s a) : F_rstate_State_none s = some false := by
 obtain ⟨l, hl, _⟩ := h.log
 unfold F_rstate_State_none; rw [hl]; rfl

theorem own_eq (c : EConf) (h : c.members.length ≤ 4) : F_rstate_own c = some c := by
 unfold F_rstate_own F_slices_Clone_api_Member_api_Member
 rw [chk_t (by simp only [List.length_nil]; omega)]; rfl

theorem SR.Conf {s : Erstate_State} {a : Abs} (h : SR s a) (ho : AOk a) : F_rstate_State_Conf s = some a.c := by
 unfold F_rstate_State_Conf
 rw [h.none, Option.bind_some, if_neg (by decide), h.conf, own_eq _ ho.mem]; rfl

theorem SR.Horizon {s : Erstate_State} {a : Abs} (h : SR s a) : F_rstate_State_Horizon s = some a.h := by
 unfold F_rstate_State_Horizon
 rw [h.none, Option.bind_some, if_neg (by decide), h.hor]

theorem SR.All {s : Erstate_State} {a : Abs} (h : SR s a) (ho : AOk a) : F_rstate_State_All s = some (a.L, s) := by
 unfold F_rstate_State_All
 have hn := h.none
 obtain ⟨h1, h2, l, hl, hr⟩ := h
 have hlen := ho.len
 rw [hn, Option.bind_some, if_neg (by decide), hl, optE_some, prog_All ho.rt hr (by omega), Option.bind_some]
 congr 2
 cases s; simp only at hl; rw [hl]

theorem new_SR : ∃ s, F_rstate_New = some s ∧ SR s abs0 := by
 unfold F_rstate_New
 rw [new_Rl.1, Option.bind_some]
 exact ⟨_, rfl, rfl, rfl, _, rfl, new_Rl.2⟩

theorem prog_Apply {s : Erstate_State} {a : Abs} (h : SR s a) (ho : AOk a) (n : ENote) : ∃ s', F_rstate_State_Apply s n = some (appE a n, s') ∧ SR s' (appA a n) := by
 have hlen := ho.len
 unfold F_rstate_State_Apply
 rw [h.none, Option.bind_some, if_neg (by decide), note_Check, Option.bind_some]
 unfold appE appA
 by_cases c0 : noteCheck n ≠ 0
 ·rw [if_pos (by rw [bne_iff_ne]; exact c0), if_pos c0, if_pos c0]
  exact ⟨s, rfl, h⟩
 rw [if_neg (by rw [bne_iff_ne]; exact c0), if_neg c0, if_neg c0]
 have c0' : noteCheck n = 0 := by omega
 obtain ⟨h1, h2, l, hl, hr⟩ := h
 by_cases c1 : n.k = 1
 ·rw [if_pos (by rw [c1]; rfl), if_pos c1, if_pos c1, h1]
  by_cases d : n.conf.epoch ≤ a.c.epoch
  ·rw [if_pos (decide_eq_true d), if_pos d, if_pos d]
   exact ⟨s, rfl, h1, h2, l, hl, hr⟩
  ·rw [if_neg (by rw [decide_eq_true_eq]; exact d), if_neg d, if_neg d, own_eq _ (confCheck_ok (noteCheck_1 c1 c0').1).2.2.2.1, Option.bind_some]
   exact ⟨_, rfl, rfl, h2, l, hl, hr⟩
 rw [if_neg (by rw [beq_iff_eq]; exact c1), if_neg c1, if_neg c1]
 by_cases c2 : n.k = 2
 ·rw [if_pos (by rw [c2]; rfl), if_pos c2, if_pos c2, hl, optE_some]
  obtain ⟨l', e1, e2⟩ := prog_Set ho.rt hr (by omega) n.n n.entry
  rw [e1, Option.bind_some]
  exact ⟨_, rfl, h1, h2, l', rfl, e2⟩
 rw [if_neg (by rw [beq_iff_eq]; exact c2), if_neg c2, if_neg c2]
 by_cases c3 : n.k = 3
 ·rw [if_pos (by rw [c3]; rfl), if_pos c3, if_pos c3, hl, optE_some]
  obtain ⟨l', e1, e2⟩ := prog_Stamp ho.rt hr (by omega) n.n n.at_
  rw [e1, Option.bind_some]
  exact ⟨_, rfl, h1, h2, l', rfl, e2⟩
 rw [if_neg (by rw [beq_iff_eq]; exact c3), if_neg c3, if_neg c3]
 by_cases c4 : n.k = 4
 ·rw [if_pos (by rw [c4]; rfl), if_pos c4, if_pos c4, h2]
  by_cases d : n.at_ < a.h
  ·rw [if_pos (decide_eq_true d), if_pos d, if_pos d]
   exact ⟨s, rfl, h1, h2, l, hl, hr⟩
  ·rw [if_neg (by rw [decide_eq_true_eq]; exact d), if_neg d, if_neg d, hl, optE_some, prog_Thin ho.rt hr (by omega) n.at_ n.n (noteCheck_4 c4 c0').1, Option.bind_some]
   exact ⟨_, rfl, h1, rfl, _, rfl, (thinL_like a.L n.at_ n.n).Rl hr⟩
 ·rw [if_neg (by rw [beq_iff_eq]; exact c4), if_neg c4, if_neg c4]
  exact ⟨s, rfl, h1, h2, l, hl, hr⟩

theorem note_eta (n : ENote) : ({ n with conf := ({ epoch := (n.conf).epoch, members := (n.conf).members, floor := (n.conf).floor } : EConf), entry := ({ batch := ({ client := ((n.entry).batch).client, req := ((n.entry).batch).req, ops := ((n.entry).batch).ops } : EBatch), ts := (n.entry).ts } : EEntry), pin := ({ id := (n.pin).id, at_ := (n.pin).at_, left := (n.pin).left } : EPin), said := ({ client := (n.said).client, req := (n.said).req, e := (n.said).e, pin := (n.said).pin } : EAnswer) } : ENote) = n := rfl

theorem parts30 (l : List ENote) : ∃ p, F_law28_Parts l = some p := by
 unfold F_law28_Parts
 have hs : ∀ n : Nat, n ≤ 60 → ∀ (k : Nat) (p : Int), 60 - k ≤ n → k ≤ 60 → ∃ q, iter (F_law28_Parts_l1 l) (n + 1) (p, (k : Int)) = some q := by
  intro n
  induction n with
  | zero =>
   intro _ k p h1 h2
   refine ⟨p, ?_⟩
   show F_law28_Parts_l1 l _ (p, (k : Int)) = some p
   unfold F_law28_Parts_l1
   dsimp only
   rw [if_neg (by simp only [Bool.and_eq_true, decide_eq_true_eq]; omega)]
  | succ n ih =>
   intro hn k p h1 h2
   show ∃ q, F_law28_Parts_l1 l (iter (F_law28_Parts_l1 l) (n + 1)) (p, (k : Int)) = some q
   have h3 := ih (by omega) (k + 1)
   generalize iter (F_law28_Parts_l1 l) (n + 1) = rc at h3 ⊢
   unfold F_law28_Parts_l1
   dsimp only
   by_cases c : k < l.length ∧ k < 60
   ·rw [if_pos (by simp only [Bool.and_eq_true, decide_eq_true_eq]; omega), chk_t (by omega), chk_t (by omega), chk_t (by omega), chk_t (by unfold inI; omega)]
    exact h3 _ (by omega) (by omega)
   ·rw [if_neg (by simp only [Bool.and_eq_true, decide_eq_true_eq]; omega)]
    exact ⟨p, rfl⟩
 have hf : ∀ (m n : Nat) (s : Int × Int) (q : Int), iter (F_law28_Parts_l1 l) n s = some q → n ≤ m → iter (F_law28_Parts_l1 l) m s = some q := by
  intro m
  induction m with
  | zero =>
   intro n s q h hn
   have : n = 0 := by omega
   subst this; exact h
  | succ m ih =>
   intro n s q h hn
   cases n with
   | zero => cases h
   | succ n =>
    have h' : F_law28_Parts_l1 l (iter (F_law28_Parts_l1 l) n) s = some q := h
    show F_law28_Parts_l1 l (iter (F_law28_Parts_l1 l) m) s = some q
    obtain ⟨p, i⟩ := s
    unfold F_law28_Parts_l1 at h' ⊢
    dsimp only at h' ⊢
    by_cases c : (decide (i < (l.length : Int)) && decide (i < 60)) = true
    ·rw [if_pos c] at h' ⊢
     obtain ⟨g1, h'⟩ := chk_in h'
     obtain ⟨g2, h'⟩ := chk_in h'
     obtain ⟨g3, h'⟩ := chk_in h'
     obtain ⟨g4, h'⟩ := chk_in h'
     rw [chk_t g1, chk_t g2, chk_t g3, chk_t g4]
     exact ih n _ q h' (by omega)
    ·rw [if_neg c] at h' ⊢; exact h'
 obtain ⟨q, hq⟩ := hs 60 (Nat.le_refl _) 0 0 (by omega) (by omega)
 exact ⟨q, hf FU 61 _ q hq (by unfold FU; omega)⟩

end Go.Proofs.YtglfajjcgbfehaaGreat

namespace Go.Proofs.YtglfajjcgbfehaaGreat

-- the document's
theorem ref_Set_l2 (c0 : EConf) (h0 : Int) {L : List EEntry} {n : Nat} {e : EEntry} (hn : n < L.length) (hl : L.length ≤ 1000) (ht : tw (L.getD n default) e = true) : iter (F_ref17_Log_Set_l2 ⟨c0, h0, ⟨L⟩⟩ (n : Int) e) FU (L, (n : Int) + 1) = some (0, ⟨c0, h0, ⟨putE L n e⟩⟩) := by
 have hset : ∀ m : List EEntry, n < m.length → m.set n ({ e with batch := ({ client := ((m.getD n default).batch).client, req := ((m.getD n default).batch).req, ops := ((m.getD n default).batch).ops } : EBatch) } : EEntry) = m.set n (stampT (m.getD n default) e.ts) := fun m _ => rfl
 by_cases c : (L.getD n default).ts = e.ts
 ·have hp : putE L n e = L := by unfold putE; rw [if_pos ⟨hn, ht⟩, if_pos c]
  refine iter_rule (fun s : List EEntry × Int => 0) (fun _ => some (0, (⟨c0, h0, ⟨putE L n e⟩⟩ : Eref30_State))) (fun s => s.1 = L ∧ s.2 = (n : Int) + 1) ?_ FU _ ⟨rfl, rfl⟩ (by unfold FU; omega)
  rintro rc ⟨m, k⟩ ⟨h1, h2⟩ _
  simp only at h1 h2
  subst h1; subst h2
  unfold F_ref17_Log_Set_l2
  dsimp only
  rw [chk_t (fun _ => by omega), toNat_cast, if_neg (by rw [c, bne_self_eq_false, Bool.and_false]; decide), chk_t (by omega), hset m hn, hp, ← c]
  have e9 : m.set n (stampT (m.getD n default) (m.getD n default).ts) = m := by
   refine List.ext_getElem (by rw [List.length_set]) fun j h3 h4 => ?_
   rw [List.getElem_set]
   split
   ·rename_i e1; subst e1; rw [getD_lt hn]; rfl
   ·rfl
  rw [e9]
 ·have hp : putE L n e = L.take n ++ stampT (L.getD n default) e.ts :: (L.drop (n + 1)).map zeroT := by unfold putE; rw [if_pos ⟨hn, ht⟩, if_neg c]
  refine iter_rule (fun s : List EEntry × Int => L.length - s.2.toNat) (fun _ => some (0, (⟨c0, h0, ⟨putE L n e⟩⟩ : Eref30_State))) (fun s => (n : Int) + 1 ≤ s.2 ∧ s.2 ≤ (L.length : Int) ∧ s.1.length = L.length ∧ ∀ j, j < L.length → s.1.getD j default = if n < j ∧ (j : Int) < s.2 then zeroT (L.getD j default) else L.getD j default) ?_ FU _ ⟨Int.le_refl _, by omega, rfl, fun j hj => by rw [if_neg (by rintro ⟨h1, h2⟩; simp only at h2; omega)]⟩ (by unfold FU; simp only; omega)
  rintro rc ⟨m, k⟩ ⟨h1, h2, h3, h4⟩ hrc
  simp only at h1 h2 h3 h4 hrc
  obtain ⟨q, rfl⟩ := Int.eq_ofNat_of_zero_le (show 0 ≤ k by omega)
  have hmn : m.getD n default = L.getD n default := by rw [h4 n hn, if_neg (by omega)]
  unfold F_ref17_Log_Set_l2
  dsimp only
  rw [chk_t (fun _ => by omega), toNat_cast, toNat_cast, hmn, show ((L.getD n default).ts != e.ts) = true from bne_iff_ne.2 c, Bool.and_true, h3]
  by_cases d : q < L.length
  ·rw [if_pos (decide_eq_true (by omega)), chk_t (by omega), chk_t (by unfold inI; omega)]
   refine hrc (_, (q : Int) + 1) ⟨by simp only; omega, by simp only; omega, by simp only [List.length_set]; exact h3, fun j hj => ?_⟩ (by simp only [toNat_cast1, toNat_cast]; omega)
   simp only
   have hq := h4 q d
   rw [if_neg (by omega)] at hq
   rw [getD_lt (by rw [List.length_set]; omega), List.getElem_set]
   by_cases e1 : q = j
   ·subst e1
    rw [if_pos rfl, if_pos (by omega), hq]; rfl
   ·rw [if_neg e1, ← getD_lt (d := default) (by omega), h4 j hj]
    by_cases e2 : n < j ∧ (j : Int) < (q : Int)
    ·rw [if_pos e2, if_pos (by omega)]
    ·rw [if_neg e2, if_neg (by omega)]
  ·rw [if_neg (by rw [decide_eq_false (by omega)]; decide), chk_t (by omega)]
   have e5 : m.set n ({ e with batch := ({ client := ((L.getD n default).batch).client, req := ((L.getD n default).batch).req, ops := ((L.getD n default).batch).ops } : EBatch) } : EEntry) = putE L n e := by
    show m.set n (stampT (L.getD n default) e.ts) = _
    have hl2 : (L.take n).length = n := by rw [List.length_take]; omega
    rw [hp]
    refine List.ext_getElem (by rw [List.length_set, List.length_append, List.length_cons, List.length_map, List.length_drop]; omega) fun j h5 h6 => ?_
    rw [List.length_set] at h5
    rw [List.getElem_set]
    by_cases e1 : n = j
    ·subst e1
     rw [if_pos rfl, List.getElem_append_right (by omega)]; simp [hl2]
    ·rw [if_neg e1, ← getD_lt (d := default) h5, h4 j (by omega)]
     by_cases e2 : n < j
     ·rw [if_pos (by omega), List.getElem_append_right (by omega), getD_lt (by omega)]
      simp only [hl2]
      obtain ⟨p, rfl⟩ : ∃ p, j = n + 1 + p := ⟨j - n - 1, by omega⟩
      simp only [show n + 1 + p - n = p + 1 by omega, List.getElem_cons_succ, List.getElem_map, List.getElem_drop]
     ·rw [if_neg (by omega), List.getElem_append_left (by omega), List.getElem_take, getD_lt (by omega)]
   rw [e5]

theorem ref_Set (c0 : EConf) (h0 : Int) {L : List EEntry} (hl : L.length ≤ 1000) (h4 : ∀ e ∈ L, e.batch.ops.length ≤ 1000) (i : Int) (e : EEntry) : F_ref17_Log_Set ⟨c0, h0, ⟨L⟩⟩ i e = some (setC L i e, ⟨c0, h0, ⟨if setC L i e = 0 then putE L i.toNat e else L⟩⟩) := by
 unfold F_ref17_Log_Set
 by_cases c1 : i < 0 ∨ i > (L.length : Int)
 ·have : setC L i e = 1 := by unfold setC; rw [if_pos c1]
  rw [this, if_pos (by rw [Bool.or_eq_true, decide_eq_true_eq, decide_eq_true_eq]; exact c1)]; rfl
 rw [if_neg (by rw [Bool.or_eq_true, decide_eq_true_eq, decide_eq_true_eq]; exact c1), ref08_Check, Option.bind_some]
 by_cases c2 : batchCheck e.batch = 0
 ·rw [c2, if_neg (by decide)]
  by_cases c3 : i ≥ 100
  ·have : setC L i e = 6 := by unfold setC; rw [if_neg c1, if_neg (by rw [c2]; decide), if_pos c3]
   rw [this, if_pos (decide_eq_true c3)]; rfl
  rw [if_neg (by rw [decide_eq_false c3]; decide)]
  obtain ⟨n, rfl⟩ := Int.eq_ofNat_of_zero_le (show 0 ≤ i by omega)
  have hs : setC L (n : Int) e = if (L.take n).any (fun x => tw x e) = true then 18 else if follow (L.take n) e = true then 18 else 0 := by
   unfold setC; rw [if_neg c1, if_neg (by rw [c2]; decide), if_neg c3, toNat_cast]
  have hop := (batchCheck_ok c2).2.2.2.2.1
  refine iter_up n (fun k => if ((L.take n).drop k).any (fun x => tw x e) = true then some (18, ⟨c0, h0, ⟨L⟩⟩) else if follow (L.take n) e = true then some (18, ⟨c0, h0, ⟨L⟩⟩) else some (0, ⟨c0, h0, ⟨putE L n e⟩⟩)) (by unfold bdM; omega) (fun rc k hk hrc => ?_) |>.trans ?_
  ·simp only [F_ref17_Log_Set_l1, toNat_cast]
   by_cases d : k < n
   ·rw [if_pos (decide_eq_true (by omega)), chk_t (by omega), any_drop (l := L) d (by omega), ref08_Twins, Option.bind_some]
    by_cases t : tw (L.getD k default) e = true
    ·rw [if_pos (by exact t), if_pos (by rw [t]; rfl)]
    ·rw [if_neg (by exact t), chk_t (by unfold inI; omega), hrc d, show tw (L.getD k default) e = false from by simpa using t, Bool.false_or]
   ·obtain rfl : k = n := by omega
    rw [if_neg (by rw [decide_eq_false (by omega)]; decide), List.drop_eq_nil_of_le (by rw [List.length_take]; omega), List.any_nil, if_neg (show ¬ (false = true) by decide)]
    have hf := follow_at (l := L) (k := k) (by omega) e
    have hf' : (((e.ts != 0) && (decide ((k : Int) > 0))) && ((((L.getD ((k : Int) - 1).toNat default).ts) == 0) || (decide ((L.getD ((k : Int) - 1).toNat default).ts ≥ e.ts)))) = follow (L.take k) e := by
     rw [hf]; cases (e.ts != 0) <;> cases decide ((k : Int) > 0) <;> rfl
    have hpos : ∀ {b : Bool}, (((e.ts != 0) && (decide ((k : Int) > 0))) && b) = true → 0 < k := fun {b} h => by
     rw [Bool.and_eq_true, Bool.and_eq_true] at h
     have := of_decide_eq_true h.1.2; omega
    have hpos' : ((e.ts != 0) && (decide ((k : Int) > 0))) = true → 0 < k := fun h => by
     rw [Bool.and_eq_true] at h
     have := of_decide_eq_true h.2; omega
    rw [chk_t (fun h => by have := hpos' h; unfold inI; omega), chk_t (fun h => by have := hpos' h; omega), chk_t (fun h => by have := hpos h; unfold inI; omega), chk_t (fun h => by have := hpos h; omega), hf']
    by_cases f : follow (L.take k) e = true
    ·rw [if_pos f, if_pos f]
    ·rw [if_neg f, if_neg f, chk_t (fun h => by have := of_decide_eq_true h; omega)]
     by_cases g : k < L.length
     ·rw [decide_eq_true (show (k : Int) < (L.length : Int) by omega), gif_true, ref08_Twins, Option.bind_some, Bool.true_and]
      by_cases t : tw (L.getD k default) e = true
      ·rw [if_pos (by exact t), Copy_eq L hl h4, Option.bind_some, chk_t (by unfold inI; omega)]
       exact ref_Set_l2 c0 h0 g hl t
      ·rw [if_neg (by exact t), chk_t (by omega), Copy_eq _ (by rw [List.length_take]; omega) (fun x hx => h4 x (List.mem_of_mem_take hx)), Option.bind_some, Copy_eq _ (by simp) (fun x hx => by rw [List.mem_singleton] at hx; subst hx; omega), Option.bind_some, chk_t (by simp only [List.length_take, List.length_cons, List.length_nil]; omega)]
       unfold putE
       rw [if_neg (fun h => t h.2)]
     ·rw [decide_eq_false (show ¬ (k : Int) < (L.length : Int) by omega), gif_false, Option.bind_some, Bool.false_and, if_neg (by decide), chk_t (by omega), Copy_eq _ (by rw [List.length_take]; omega) (fun x hx => h4 x (List.mem_of_mem_take hx)), Option.bind_some, Copy_eq _ (by simp) (fun x hx => by rw [List.mem_singleton] at hx; subst hx; omega), Option.bind_some, chk_t (by simp only [List.length_take, List.length_cons, List.length_nil]; omega)]
      unfold putE
      rw [if_neg (fun h => g h.1)]
  ·rw [List.drop_zero, hs]
   by_cases a : (L.take n).any (fun x => tw x e) = true
   ·rw [if_pos a, if_pos a]; rfl
   ·rw [if_neg a, if_neg a]
    by_cases f : follow (L.take n) e = true
    ·rw [if_pos f, if_pos f]; rfl
    ·rw [if_neg f, if_neg f]; rfl
 ·have : setC L i e = batchCheck e.batch := by unfold setC; rw [if_neg c1, if_pos c2]
  rw [this, if_pos (by rw [bne_iff_ne]; exact c2), if_neg c2]

end Go.Proofs.YtglfajjcgbfehaaGreat

namespace Go.Proofs.YtglfajjcgbfehaaGreat

theorem ref08_Stamped (l : List EEntry) (hl : l.length ≤ bdM) : F_ref08_Stamped l = some (stampF l : Int) := stamp_loop l hl _ fun rc x => rfl

theorem ref08_Last (L : List EEntry) (hl : L.length ≤ 1000) : F_ref08_Last L = some (lastF L) := by
 unfold F_ref08_Last lastF
 have hs := stampF_le L
 rw [ref08_Stamped L (by unfold bdM; omega), Option.bind_some]
 by_cases c : stampF L = 0
 ·rw [if_pos (by rw [c]; rfl), if_pos c]
 ·rw [if_neg (by rw [beq_iff_eq]; omega), if_neg c, chk_t (by unfold inI; omega), chk_t (by omega), show ((stampF L : Int) - 1).toNat = stampF L - 1 by omega]

theorem ref_Stamp (c0 : EConf) (h0 : Int) {L : List EEntry} (hl : L.length ≤ 1000) (h4 : ∀ e ∈ L, e.batch.ops.length ≤ 1000) (i ts : Int) : F_ref17_Log_Stamp ⟨c0, h0, ⟨L⟩⟩ i ts = some (stampC L i ts, ⟨c0, h0, ⟨stampR L i ts⟩⟩) := by
 unfold F_ref17_Log_Stamp stampR
 have hs := stampF_le L
 unfold stampC
 dsimp only
 by_cases c1 : i < 0 ∨ i ≥ (L.length : Int)
 ·rw [if_pos (by rw [Bool.or_eq_true, decide_eq_true_eq, decide_eq_true_eq]; exact c1), if_pos c1]; rfl
 rw [if_neg (by rw [Bool.or_eq_true, decide_eq_true_eq, decide_eq_true_eq]; exact c1), if_neg c1]
 by_cases c2 : ts = 0
 ·rw [if_pos (by rw [c2]; rfl), if_pos c2]; rfl
 rw [if_neg (by rw [beq_iff_eq]; exact c2), if_neg c2, ref08_Stamped L (by unfold bdM; omega), Option.bind_some, ref08_Last L hl]
 by_cases c3 : i = (stampF L : Int)
 ·have e1 : (i != (stampF L : Int)) = false := by rw [c3, bne_self_eq_false]
  rw [e1, show (!false) = true from rfl, gif_true, Option.bind_some, Bool.false_or]
  by_cases c4 : ts ≤ lastF L
  ·rw [if_pos (decide_eq_true c4), if_pos (.inr c4)]; rfl
  ·rw [if_neg (by rw [decide_eq_true_eq]; exact c4), if_neg (by rintro (a | a); exact a c3; exact c4 a), Copy_eq L hl h4, Option.bind_some, chk_t (by omega), if_pos rfl]; rfl
 ·have e1 : (i != (stampF L : Int)) = true := bne_iff_ne.2 c3
  rw [e1, show (!true) = false from rfl, gif_false, Option.bind_some, Bool.true_or, if_pos rfl, if_pos (.inl c3)]; rfl

-- where a batch stands
theorem tw_at (e : EEntry) (c r : Int) : ((e.batch.client == c) && (e.batch.req == r)) = true ↔ whoE e = ⟨c, r⟩ := by
 unfold whoE
 rw [Bool.and_eq_true, beq_iff_eq, beq_iff_eq, Erlog_who.mk.injEq]

theorem find_both (c0 : EConf) (h0 : Int) {l : Erlog_Log} {L : List EEntry} (hR : Rt L) (h : Rl l L) (hl : L.length ≤ 1000) (c r : Int) (hc : inI c) (hr : inI r) : ∃ v, F_rlog_Log_Find l c r = some (v, l) ∧ F_ref17_Log_Find ⟨c0, h0, ⟨L⟩⟩ c r = some v := by
 obtain ⟨m, hm, hn, hk⟩ := h.m
 have heta : ({ l with at_ := some m } : Erlog_Log) = l := by cases l; simp only at hm; rw [hm]
 unfold F_rlog_Log_Find
 rw [h.none, Option.bind_some, if_neg (by decide), hm, optE_some, chk_t ⟨hc, hr⟩]
 cases hg : mget m ⟨c, r⟩ with
 | none =>
  refine ⟨-1, by rw [Option.isSome_none, if_neg (by decide), heta], ?_⟩
  unfold F_ref17_Log_Find
  refine (iter_up L.length (fun _ => some (-1)) (by unfold bdM; omega) fun rc k hk' hrc => ?_)
  unfold F_ref17_Log_Find_l1
  dsimp only
  rw [toNat_cast]
  by_cases d : k < L.length
  ·have hne : ¬ ((((L.getD k default).batch.client == c) && ((L.getD k default).batch.req == r)) = true) := fun e => by
    have := (hk ⟨c, r⟩ (k : Int)).2 ⟨k, d, rfl, (tw_at _ _ _).1 e⟩
    rw [hg] at this; cases this
   rw [if_pos (decide_eq_true (by omega)), chk_t (by omega), chk_t (fun _ => by omega), if_neg hne, chk_t (by unfold inI; omega), hrc d]
  ·rw [if_neg (by rw [decide_eq_true_eq]; omega)]
 | some v =>
  obtain ⟨j, j1, j2, j3⟩ := (hk _ _).1 hg
  subst j2
  refine ⟨(j : Int), by rw [Option.isSome_some, if_pos rfl, Option.getD_some, heta], ?_⟩
  unfold F_ref17_Log_Find
  refine (iter_up L.length (fun k => some (if k ≤ j then (j : Int) else -1)) (by unfold bdM; omega) fun rc k hk' hrc => ?_).trans (by rw [if_pos (Nat.zero_le _)])
  unfold F_ref17_Log_Find_l1
  dsimp only
  rw [toNat_cast]
  by_cases d : k < L.length
  ·rw [if_pos (decide_eq_true (by omega)), chk_t (by omega), chk_t (fun _ => by omega)]
   by_cases e : k = j
   ·subst e
    rw [if_pos ((tw_at _ _ _).2 j3), if_pos (Nat.le_refl _)]
   ·have hne : ¬ ((((L.getD k default).batch.client == c) && ((L.getD k default).batch.req == r)) = true) := fun q => e (hR.who d j1 (((tw_at _ _ _).1 q).trans j3.symm))
    rw [if_neg hne, chk_t (by unfold inI; omega), hrc d]
    by_cases f : k ≤ j
    ·rw [if_pos f, if_pos (by omega)]
    ·rw [if_neg f, if_neg (by omega)]
  ·rw [if_neg (by rw [decide_eq_true_eq]; omega), if_neg (by omega)]

-- the greatest number of a client
theorem topS_fold (c : Int) : ∀ (m : List (Erlog_who × Int)) (n : Int), n ≤ m.foldl (topS c) n ∧ (∀ p ∈ m, p.1.client = c → p.1.req ≤ m.foldl (topS c) n) ∧ (m.foldl (topS c) n = n ∨ ∃ p ∈ m, p.1.client = c ∧ p.1.req = m.foldl (topS c) n)
 | [], n => ⟨Int.le_refl _, fun p hp => by simp at hp, .inl rfl⟩
 | q :: r, n => by
  obtain ⟨h1, h2, h3⟩ := topS_fold c r (topS c n q)
  rw [List.foldl_cons]
  have hq : n ≤ topS c n q ∧ (q.1.client = c → q.1.req ≤ topS c n q) ∧ (topS c n q = n ∨ (q.1.client = c ∧ q.1.req = topS c n q)) := by
   unfold topS
   by_cases d : q.1.client = c
   ·rw [if_pos d]; exact ⟨by omega, fun _ => by omega, by omega⟩
   ·rw [if_neg d]; exact ⟨Int.le_refl _, fun e => absurd e d, .inl rfl⟩
  obtain ⟨q1, q2, q3⟩ := hq
  refine ⟨by omega, fun p hp hc => ?_, ?_⟩
  ·rcases List.mem_cons.1 hp with e | e
   ·rw [e] at hc ⊢; have := q2 hc; omega
   ·exact h2 p e hc
  ·rcases h3 with e | ⟨p, hp, e1, e2⟩
   ·rcases q3 with f | ⟨f1, f2⟩
    ·exact .inl (by rw [e, f])
    ·exact .inr ⟨q, List.mem_cons_self, f1, by rw [e]; exact f2⟩
   ·exact .inr ⟨p, List.mem_cons_of_mem _ hp, e1, e2⟩

theorem topF_same {m m' : List (Erlog_who × Int)} (h : ∀ w, (∃ k, (w, k) ∈ m) ↔ (∃ k, (w, k) ∈ m')) (c : Int) : topF m c = topF m' c := by
 have hle : ∀ {m m' : List (Erlog_who × Int)}, (∀ w, (∃ k, (w, k) ∈ m) → (∃ k, (w, k) ∈ m')) → topF m c ≤ topF m' c := fun {m m'} h => by
  unfold topF
  obtain ⟨h1, h2, h3⟩ := topS_fold c m' 0
  obtain ⟨g1, g2, g3⟩ := topS_fold c m 0
  rcases g3 with e | ⟨p, hp, e1, e2⟩
  ·rw [e]; exact h1
  ·obtain ⟨k, hk⟩ := h p.1 ⟨p.2, hp⟩
   have := h2 (p.1, k) hk e1
   rw [← e2]; exact this
 exact Int.le_antisymm (hle fun w => (h w).1) (hle fun w => (h w).2)

theorem mget_mem {α β : Type} [DecidableEq α] : ∀ {m : List (α × β)} {w : α} {k : β}, (m.map Prod.fst).Nodup → ((w, k) ∈ m ↔ mget m w = some k)
 | [], w, k, _ => by simp [mget]
 | p :: r, w, k, hn => by
  rw [List.map_cons, List.nodup_cons] at hn
  rw [mget]
  by_cases c : p.1 = w
  ·rw [if_pos c]
   constructor
   ·intro h
    rcases List.mem_cons.1 h with e | e
    ·rw [← e]
    ·exact absurd (List.mem_map.2 ⟨_, e, c.symm⟩) hn.1
   ·intro h
    injection h with h
    exact List.mem_cons.2 (.inl (by rw [← h, ← c]))
  ·rw [if_neg c, ← mget_mem (m := r) hn.2]
   constructor
   ·intro h
    rcases List.mem_cons.1 h with e | e
    ·rw [← e] at c; exact absurd rfl c
    ·exact e
   ·exact fun h => List.mem_cons_of_mem _ h

def topL (L : List EEntry) (c : Int) : Int := topF (L.map fun e => (whoE e, 0)) c

theorem top_map {m : List (Erlog_who × Int)} {L : List EEntry} (hn : (m.map Prod.fst).Nodup) (h : mapOk m L) (c : Int) : topF m c = topL L c := by
 refine topF_same (fun w => ?_) c
 constructor
 ·rintro ⟨k, hk⟩
  obtain ⟨j, j1, j2, j3⟩ := (h w k).1 ((mget_mem hn).1 hk)
  exact ⟨0, List.mem_map.2 ⟨L.getD j default, by rw [getD_lt j1]; exact List.getElem_mem _, by rw [j3]⟩⟩
 ·rintro ⟨k, hk⟩
  obtain ⟨e, he, h2⟩ := List.mem_map.1 hk
  injection h2 with h2 h3
  obtain ⟨j, hj, rfl⟩ := List.getElem_of_mem he
  exact ⟨(j : Int), (mget_mem hn).2 ((h w (j : Int)).2 ⟨j, hj, rfl, by rw [getD_lt hj]; exact h2⟩)⟩

theorem topL_in {L : List EEntry} (hR : Rt L) (c : Int) : 0 ≤ topL L c ∧ topL L c ≤ 1073741824 := by
 obtain ⟨h1, h2, h3⟩ := topS_fold c (L.map fun e => (whoE e, (0 : Int))) 0
 refine ⟨h1, ?_⟩
 rcases h3 with e | ⟨p, hp, e1, e2⟩
 ·show topF _ c ≤ _
  unfold topF; rw [e]; decide
 ·obtain ⟨x, hx, rfl⟩ := List.mem_map.1 hp
  have := (batchCheck_ok (hR.ops hx).1).2.2.2.1
  show topF _ c ≤ _
  unfold topF; rw [← e2]; exact this

theorem prog_Top {l : Erlog_Log} {L : List EEntry} (h : Rl l L) (c : Int) : F_rlog_Log_Top l c = some (topL L c, l) := by
 obtain ⟨m, hm, hn, hk⟩ := h.m
 have heta : ({ l with at_ := some m } : Erlog_Log) = l := by cases l; simp only at hm; rw [hm]
 unfold F_rlog_Log_Top
 rw [h.none, Option.bind_some, if_neg (by decide), hm, optE_some, top_map hn hk, heta]

theorem ref_Top (c0 : EConf) (h0 : Int) {L : List EEntry} (hl : L.length ≤ 1000) (c : Int) : F_ref17_Log_Top ⟨c0, h0, ⟨L⟩⟩ c = some (topL L c) := by
 unfold F_ref17_Log_Top
 refine (iter_up3 (σ := Int) L.length (fun k n => some (((L.drop k).map fun e => (whoE e, (0 : Int))).foldl (topS c) n)) (fun _ _ => True) (by unfold bdM; omega) trivial fun rc k n hk _ hrc => ?_).trans (by rw [List.drop_zero]; rfl)
 unfold F_ref17_Log_Top_l1
 dsimp only
 rw [toNat_cast]
 by_cases d : k < L.length
 ·rw [if_pos (decide_eq_true (by omega)), chk_t (by omega), drop_cons (d := default) d, List.map_cons, List.foldl_cons]
  unfold F_ref17_Log_Top_k2
  by_cases q : (L.getD k default).batch.client = c
  ·rw [if_pos (beq_iff_eq.2 q), chk_t (by omega), chk_t (by unfold inI; omega), hrc _ d trivial]
   have : topS c n (whoE (L.getD k default), 0) = max n (L.getD k default).batch.req := if_pos q
   rw [this]
  ·rw [if_neg (by rw [beq_iff_eq]; exact q), chk_t (by unfold inI; omega), hrc _ d trivial]
   have : topS c n (whoE (L.getD k default), 0) = n := if_neg q
   rw [this]
 ·rw [if_neg (by rw [decide_eq_true_eq]; omega), List.drop_eq_nil_of_le (by omega)]; rfl

end Go.Proofs.YtglfajjcgbfehaaGreat

namespace Go.Proofs.YtglfajjcgbfehaaGreat

theorem opsChk_lt : ∀ (l : List EOp) (a : Option ByteArray), opsChk a l = 0 → (∀ k, a = some k → ∀ o ∈ l, sltB k o.key = true) ∧ l.Pairwise (fun x y => sltB x.key y.key = true)
 | [], _, _ => ⟨fun _ _ o h => by simp at h, List.Pairwise.nil⟩
 | o :: r, a, h => by
  rw [opsChk_cons] at h
  split at h; · cases h
  split at h; · cases h
  split at h; · cases h
  split at h; · cases h
  rename_i _ _ _ c
  obtain ⟨h1, h2⟩ := opsChk_lt r (some o.key) h
  refine ⟨fun k hk x hx => ?_, List.pairwise_cons.2 ⟨fun x hx => h1 _ rfl x hx, h2⟩⟩
  subst hk
  have hk : sltB k o.key = true := by
   unfold notBehind at c; simpa using c
  rcases List.mem_cons.1 hx with e | e
  ·rw [e]; exact hk
  ·exact slt_trans hk (h1 _ rfl x e)

theorem keys_ne {b : EBatch} (h : batchCheck b = 0) : b.ops.Pairwise (fun x y => x.key ≠ y.key) := by
 have : opsChk none b.ops = 0 := by
  unfold batchCheck at h
  split at h; · cases h
  split at h; · cases h
  split at h; · cases h
  exact h
 refine (opsChk_lt _ _ this).2.imp fun {x y} hxy e => ?_
 rw [e, slt_irr] at hxy; cases hxy

theorem thinS_eq : ∀ (l : List EOp) (m : List (ByteArray × Bool)) (g : Int), l.Pairwise (fun x y => x.key ≠ y.key) → (thinS l m g).1 = l.filter (fun o => !(mget m o.key).getD false) ∧ ∀ key, (mget (thinS l m g).2.1 key).getD false = ((mget m key).getD false || l.any (fun o => seqB o.key key))
 | [], m, g, _ => ⟨rfl, fun key => by simp [thinS]⟩
 | o :: r, m, g, hp => by
  rw [List.pairwise_cons] at hp
  rw [thinS]
  by_cases c : (mget m o.key).getD false = true
  ·rw [if_pos c]
   obtain ⟨h1, h2⟩ := thinS_eq r m (g + 1) hp.2
   refine ⟨by rw [h1, List.filter_cons, c]; rfl, fun key => ?_⟩
   rw [h2, List.any_cons]
   by_cases e : seqB o.key key = true
   ·have := seqB_iff.1 e
    rw [← this, c]; simp
   ·rw [show seqB o.key key = false from by simpa using e, Bool.false_or]
  ·rw [if_neg c]
   have c' : (mget m o.key).getD false = false := by simpa using c
   obtain ⟨h1, h2⟩ := thinS_eq r (mset m o.key true) g hp.2
   refine ⟨?_, fun key => ?_⟩
   ·show o :: (thinS r (mset m o.key true) g).1 = _
    rw [h1, List.filter_cons, c', if_pos (show (!false) = true from rfl)]
    congr 1
    refine List.filter_congr fun x hx => ?_
    rw [mget_mset, if_neg (hp.1 x hx)]
   ·show (mget (thinS r (mset m o.key true) g).2.1 key).getD false = _
    rw [h2, List.any_cons, mget_mset]
    by_cases e : o.key = key
    ·rw [if_pos e, Option.getD_some, seqB_iff.2 e, Bool.true_or, Bool.or_true]
    ·rw [if_neg e, seqB_false.2 e, Bool.false_or]

def hasK (h : Int) (key : ByteArray) (e : EEntry) : Bool := (!(e.ts == 0)) && (decide (e.ts ≤ h) && e.batch.ops.any (fun o => seqB o.key key))

def behindB (L : List EEntry) (h : Int) (N i : Nat) (key : ByteArray) : Bool := ((L.take N).drop i).any (hasK h key)

def thinE (L : List EEntry) (h : Int) (N i : Nat) : EEntry := if (L.getD i default).ts = 0 ∨ (L.getD i default).ts > h then L.getD i default else withOps (L.getD i default) ((L.getD i default).batch.ops.filter (fun o => !behindB L h N (i + 1) o.key))

theorem behind_iff {L : List EEntry} {h : Int} {N i : Nat} {key : ByteArray} (hN : N ≤ L.length) : behindB L h N i key = true ↔ ∃ j, i ≤ j ∧ j < N ∧ hasK h key (L.getD j default) = true := by
 unfold behindB
 rw [List.any_eq_true]
 constructor
 ·rintro ⟨x, hx, h1⟩
  obtain ⟨q, hq, rfl⟩ := List.getElem_of_mem hx
  rw [List.length_drop, List.length_take] at hq
  refine ⟨i + q, by omega, by omega, ?_⟩
  rw [List.getElem_drop, List.getElem_take] at h1
  rw [getD_lt (by omega)]; exact h1
 ·rintro ⟨j, j1, j2, j3⟩
  obtain ⟨q, rfl⟩ : ∃ q, j = i + q := ⟨j - i, by omega⟩
  refine ⟨L.getD (i + q) default, ?_, j3⟩
  rw [getD_lt (by omega)]
  refine List.mem_iff_getElem.2 ⟨q, by rw [List.length_drop, List.length_take]; omega, ?_⟩
  rw [List.getElem_drop, List.getElem_take]

theorem behind_more {L : List EEntry} {h : Int} {N M i : Nat} (hM : N ≤ M) (hL : M ≤ L.length) (hz : ∀ j, N ≤ j → j < M → (L.getD j default).ts = 0) (key : ByteArray) : behindB L h M i key = behindB L h N i key := by
 rw [Bool.eq_iff_iff, behind_iff hL, behind_iff (by omega)]
 constructor
 ·rintro ⟨j, j1, j2, j3⟩
  by_cases c : j < N
  ·exact ⟨j, j1, c, j3⟩
  ·unfold hasK at j3
   rw [hz j (by omega) j2] at j3
   cases j3
 ·rintro ⟨j, j1, j2, j3⟩
  exact ⟨j, j1, by omega, j3⟩

/-- the program's: from the last one down -/
theorem thinD_spec {L : List EEntry} (hR : Rt L) (h : Int) {N : Nat} (hN : N ≤ stampF L) : ∀ (k : Nat) (L' : List EEntry) (m : List (ByteArray × Bool)) (g : Int), L'.length = L.length → k ≤ N → (∀ j, j < k → L'.getD j default = L.getD j default) → (∀ key, (mget m key).getD false = behindB L h N k key) →
  (thinD h k L' m g).1.length = L.length ∧ ∀ j, j < L.length → (thinD h k L' m g).1.getD j default = if j < k then thinE L h N j else L'.getD j default
 | 0, L', m, g, hl, _, _, _ => ⟨hl, fun j _ => by rw [if_neg (Nat.not_lt_zero j)]; rfl⟩
 | k + 1, L', m, g, hl, hk, ha, hm => by
  have hs := stampF_le L
  have hkL : k < L.length := by omega
  have hz : (L.getD k default).ts ≠ 0 := stampF_pos L k (by omega)
  have hcons : ∀ key, behindB L h N k key = (hasK h key (L.getD k default) || behindB L h N (k + 1) key) := fun key => any_drop (l := L) (by omega) (by omega) _
  rw [thinD, ha k (by omega)]
  by_cases c : (L.getD k default).ts ≤ h
  ·rw [if_pos c]
   obtain ⟨t1, t2⟩ := thinS_eq (L.getD k default).batch.ops m g (keys_ne (hR k hkL).chk)
   have hE : withOps (L.getD k default) (thinS (L.getD k default).batch.ops m g).1 = thinE L h N k := by
    unfold thinE
    rw [if_neg (by omega), t1]
    congr 1
    exact List.filter_congr fun o _ => by rw [hm]
   rw [hE]
   obtain ⟨r1, r2⟩ := thinD_spec hR h hN k (L'.set k (thinE L h N k)) (thinS (L.getD k default).batch.ops m g).2.1 (thinS (L.getD k default).batch.ops m g).2.2 (by rw [List.length_set]; exact hl) (by omega) (fun j hj => by
    rw [getD_lt (by rw [List.length_set]; omega), List.getElem_set_ne (by omega), ← getD_lt (d := default) (by omega)]; exact ha j (by omega)) (fun key => by
    rw [t2, hm, hcons, Bool.or_comm]
    congr 1
    unfold hasK
    rw [decide_eq_true c, show ((L.getD k default).ts == 0) = false from beq_eq_false_iff_ne.2 hz]; rfl)
   refine ⟨r1, fun j hj => ?_⟩
   rw [r2 j hj]
   by_cases d : j < k
   ·rw [if_pos d, if_pos (by omega)]
   ·rw [if_neg d]
    by_cases e : j = k
    ·subst e
     rw [if_pos (by omega), getD_lt (by rw [List.length_set]; omega), List.getElem_set_self]
    ·rw [if_neg (by omega), getD_lt (by rw [List.length_set]; omega), List.getElem_set_ne (by omega), ← getD_lt (d := default) (by omega)]
  ·rw [if_neg c]
   obtain ⟨r1, r2⟩ := thinD_spec hR h hN k L' m g hl (by omega) (fun j hj => ha j (by omega)) (fun key => by
    rw [hm, hcons]
    unfold hasK
    rw [decide_eq_false c, Bool.false_and, Bool.and_false, Bool.false_or])
   refine ⟨r1, fun j hj => ?_⟩
   rw [r2 j hj]
   by_cases d : j < k
   ·rw [if_pos d, if_pos (by omega)]
   ·rw [if_neg d]
    by_cases e : j = k
    ·subst e
     rw [if_pos (by omega), ha j (by omega)]
     unfold thinE
     rw [if_pos (.inr (by omega))]
    ·rw [if_neg (by omega)]

theorem thinL_spec {L : List EEntry} (hR : Rt L) (h n : Int) (hn : 0 ≤ n) {T : List EEntry} (hT : T.length = L.length) (hg : ∀ j, j < L.length → T.getD j default = if j < min L.length n.toNat then thinE L h (min L.length n.toNat) j else L.getD j default) : T = (thinL L h n).1 := by
 obtain ⟨k, rfl⟩ := Int.eq_ofNat_of_zero_le hn
 have hs := stampF_le L
 unfold thinL
 rw [show (min (k : Int) (stampF L : Int)).toNat = min k (stampF L) by omega]
 obtain ⟨r1, r2⟩ := thinD_spec hR h (N := min k (stampF L)) (by omega) (min k (stampF L)) L [] 0 rfl (Nat.le_refl _) (fun _ _ => rfl) (fun key => by
  unfold behindB
  rw [List.drop_eq_nil_of_le (by rw [List.length_take]; omega)]; rfl)
 refine List.ext_getElem (by rw [hT, r1]) fun j h1 h2 => ?_
 rw [hT] at h1
 rw [← getD_lt (d := default), ← getD_lt (d := default), hg j h1, r2 j h1, toNat_cast]
 by_cases c : j < min k (stampF L)
 ·rw [if_pos (by omega), if_pos c]
  unfold thinE
  have e : ∀ key, behindB L h (min L.length k) (j + 1) key = behindB L h (min k (stampF L)) (j + 1) key := fun key => behind_more (by omega) (by omega) (fun q q1 q2 => hR.zero q (by omega) (by omega)) key
  simp only [e]
 ·rw [if_neg c]
  by_cases d : j < min L.length k
  ·rw [if_pos d]
   unfold thinE
   rw [if_pos (.inl (hR.zero j (by omega) h1))]
  ·rw [if_neg d]

end Go.Proofs.YtglfajjcgbfehaaGreat

namespace Go.Proofs.YtglfajjcgbfehaaGreat

theorem ref_later_l3 (c0 : EConf) (h0 : Int) {L : List EEntry} {j : Nat} (hj : j < L.length) (h4 : (L.getD j default).batch.ops.length ≤ 1000) (k : ByteArray) (rc : Int → Option Bool) : iter (F_ref17_Log_later_l3 ⟨c0, h0, ⟨L⟩⟩ k (j : Int) rc) FU 0 = if (L.getD j default).batch.ops.any (fun o => seqB o.key k) = true then some true else F_ref17_Log_later_k2 (j : Int) rc := by
 refine (iter_up (L.getD j default).batch.ops.length (fun q => if ((L.getD j default).batch.ops.drop q).any (fun o => seqB o.key k) = true then some true else F_ref17_Log_later_k2 (j : Int) rc) (by unfold bdM; omega) fun rc2 q hq hrc => ?_).trans (by rw [List.drop_zero])
 unfold F_ref17_Log_later_l3
 dsimp only
 rw [chk_t (by omega), toNat_cast]
 by_cases d : q < (L.getD j default).batch.ops.length
 ·rw [if_pos (decide_eq_true (by omega)), chk_t (by omega), chk_t (by omega), toNat_cast, drop_cons (d := default) d, List.any_cons]
  by_cases e : seqB ((L.getD j default).batch.ops.getD q default).key k = true
  ·rw [if_pos e, if_pos (by rw [e]; rfl)]
  ·rw [if_neg e, chk_t (by unfold inI; omega), hrc d, show seqB ((L.getD j default).batch.ops.getD q default).key k = false from by simpa using e, Bool.false_or]
 ·rw [if_neg (by rw [decide_eq_true_eq]; omega), List.drop_eq_nil_of_le (by omega), List.any_nil, if_neg (by decide)]

theorem ref_later (c0 : EConf) (h0 : Int) {L : List EEntry} (hl : L.length ≤ 1000) (h4 : ∀ j, j < L.length → (L.getD j default).batch.ops.length ≤ 1000) (i : Nat) (hi : i < L.length) (k : ByteArray) (h n : Int) : F_ref17_Log_later ⟨c0, h0, ⟨L⟩⟩ (i : Int) k h n = some (behindB L h (min L.length n.toNat) (i + 1) k) := by
 unfold F_ref17_Log_later
 rw [chk_t (by unfold inI; omega)]
 refine (iter_rule (fun s : Int => L.length - s.toNat) (fun s => some (behindB L h (min L.length n.toNat) s.toNat k)) (fun s => 0 ≤ s ∧ s ≤ (L.length : Int)) ?_ FU _ ⟨by omega, by omega⟩ (by unfold FU; omega)).trans (by rw [toNat_cast1])
 rintro rc s ⟨h1, h2⟩ hrc
 obtain ⟨j, rfl⟩ := Int.eq_ofNat_of_zero_le h1
 have hnext : j < L.length → F_ref17_Log_later_k2 (j : Int) rc = some (behindB L h (min L.length n.toNat) (j + 1) k) := fun hj => by
  unfold F_ref17_Log_later_k2
  rw [chk_t (by unfold inI; omega), hrc _ ⟨by omega, by omega⟩ (by simp only [toNat_cast1, toNat_cast]; omega), toNat_cast1]
 unfold F_ref17_Log_later_l1
 dsimp only
 rw [toNat_cast]
 by_cases d : j < min L.length n.toNat
 ·have hj : j < L.length := by omega
  have hc : behindB L h (min L.length n.toNat) j k = (hasK h k (L.getD j default) || behindB L h (min L.length n.toNat) (j + 1) k) := any_drop (l := L) (by omega) (by omega) _
  rw [if_pos (by rw [Bool.and_eq_true, decide_eq_true_eq, decide_eq_true_eq]; omega), chk_t (by omega), chk_t (fun _ => by omega), ref_later_l3 c0 h0 hj (h4 j hj), hnext hj, hc]
  unfold hasK
  cases e1 : ((L.getD j default).ts == 0)
  ·by_cases e2 : (L.getD j default).ts > h
   ·rw [if_pos (by rw [decide_eq_true e2]; rfl), decide_eq_false (show ¬ (L.getD j default).ts ≤ h by omega)]; rfl
   ·rw [if_neg (by rw [decide_eq_false e2]; decide), decide_eq_true (show (L.getD j default).ts ≤ h by omega)]
    cases (L.getD j default).batch.ops.any (fun o => seqB o.key k) <;> rfl
  ·rw [if_pos (by rfl)]; rfl
 ·rw [if_neg (by rw [Bool.and_eq_true, decide_eq_true_eq, decide_eq_true_eq]; omega)]
  unfold behindB
  rw [List.drop_eq_nil_of_le (by rw [List.length_take]; omega)]; rfl

section
variable (c0 : EConf) (h0 : Int) {L : List EEntry} (hl : L.length ≤ 1000) (h4 : ∀ j, j < L.length → (L.getD j default).batch.ops.length ≤ 4) (h n : Int)
include hl h4
theorem ref_Thin_l3 {i : Nat} (hi : i < L.length) {m : List EEntry} (hm : m.length = L.length) (hmi : m.getD i default = L.getD i default) (rc : (Int × (List EEntry) × Int) → Option (Int × Eref30_State)) : ∀ (N q : Nat) (g : Int) (left : List EOp), (L.getD i default).batch.ops.length - q < N → q ≤ (L.getD i default).batch.ops.length → left.length ≤ q → 0 ≤ g → g ≤ 1000000 + q →
  ∃ g', g ≤ g' ∧ g' ≤ g + ((L.getD i default).batch.ops.length - q : Nat) ∧ iter (F_ref17_Log_Thin_l3 ⟨c0, h0, ⟨L⟩⟩ h n m (i : Int) rc) N (g, left, (q : Int)) = F_ref17_Log_Thin_k2 (i : Int) rc g' (m.set i (withOps (L.getD i default) (left ++ ((L.getD i default).batch.ops.drop q).filter (fun o => !behindB L h (min L.length n.toNat) (i + 1) o.key))))
 | 0, _, _, _, hN, _, _, _, _ => by omega
 | N + 1, q, g, left, hN, hq, hlen, g0, g1 => by
  show ∃ g', g ≤ g' ∧ _ ∧ F_ref17_Log_Thin_l3 ⟨c0, h0, ⟨L⟩⟩ h n m (i : Int) rc (iter (F_ref17_Log_Thin_l3 ⟨c0, h0, ⟨L⟩⟩ h n m (i : Int) rc) N) (g, left, (q : Int)) = _
  have hrec := ref_Thin_l3 hi hm hmi rc N (q + 1)
  generalize iter (F_ref17_Log_Thin_l3 ⟨c0, h0, ⟨L⟩⟩ h n m (i : Int) rc) N = rc2 at hrec ⊢
  have hops := h4 i hi
  unfold F_ref17_Log_Thin_l3
  dsimp only
  rw [hm, chk_t (by omega), toNat_cast, toNat_cast, hmi]
  by_cases d : q < (L.getD i default).batch.ops.length
  ·rw [if_pos (decide_eq_true (by omega)), chk_t (by omega), chk_t (by omega), ref_later c0 h0 hl (fun j hj => by have := h4 j hj; omega) i hi, Option.bind_some, drop_cons (d := default) d, List.filter_cons]
   by_cases e : behindB L h (min L.length n.toNat) (i + 1) ((L.getD i default).batch.ops.getD q default).key = true
   ·rw [if_pos e, chk_t (by unfold inI; omega), e, if_neg (show ¬ (!true) = true by decide)]
    unfold F_ref17_Log_Thin_k4
    rw [chk_t (by unfold inI; omega)]
    obtain ⟨g', b1, b2, b3⟩ := hrec (g + 1) left (by omega) (by omega) (by omega) (by omega) (by omega)
    exact ⟨g', by omega, by omega, b3⟩
   ·have e' : behindB L h (min L.length n.toNat) (i + 1) ((L.getD i default).batch.ops.getD q default).key = false := by simpa using e
    rw [if_neg e, chk_t (by omega), chk_t (by omega), chk_t (by simp only [List.length_cons, List.length_nil]; omega), e', if_pos (show (!false) = true from rfl)]
    unfold F_ref17_Log_Thin_k4
    rw [chk_t (by unfold inI; omega)]
    obtain ⟨g', b1, b2, b3⟩ := hrec g (left ++ [(L.getD i default).batch.ops.getD q default]) (by omega) (by omega) (by rw [List.length_append, List.length_cons, List.length_nil]; omega) g0 (by omega)
    refine ⟨g', b1, by omega, b3.trans ?_⟩
    rw [List.append_assoc]; rfl
  ·rw [if_neg (by rw [decide_eq_true_eq]; omega), chk_t (by omega), List.drop_eq_nil_of_le (by omega), List.filter_nil, List.append_nil]
   exact ⟨g, Int.le_refl _, by omega, rfl⟩

theorem ref_Thin_l1 : ∀ (N i : Nat) (g : Int) (m : List EEntry), L.length - i < N → i ≤ L.length → m.length = L.length → (∀ j, j < L.length → m.getD j default = if j < i ∧ j < min L.length n.toNat then thinE L h (min L.length n.toNat) j else L.getD j default) → 0 ≤ g → g ≤ 4 * i →
  ∃ g' T, iter (F_ref17_Log_Thin_l1 ⟨c0, h0, ⟨L⟩⟩ h n) N (g, m, (i : Int)) = some (g', ⟨c0, h0, ⟨T⟩⟩) ∧ T.length = L.length ∧ ∀ j, j < L.length → T.getD j default = if j < min L.length n.toNat then thinE L h (min L.length n.toNat) j else L.getD j default
 | 0, _, _, _, hN, _, _, _, _, _ => by omega
 | N + 1, i, g, m, hN, hi, hm, hg, g0, g1 => by
  show ∃ g' T, F_ref17_Log_Thin_l1 ⟨c0, h0, ⟨L⟩⟩ h n (iter (F_ref17_Log_Thin_l1 ⟨c0, h0, ⟨L⟩⟩ h n) N) (g, m, (i : Int)) = _ ∧ _
  have hrec := ref_Thin_l1 N (i + 1)
  generalize iter (F_ref17_Log_Thin_l1 ⟨c0, h0, ⟨L⟩⟩ h n) N = rc at hrec ⊢
  unfold F_ref17_Log_Thin_l1
  dsimp only
  rw [hm, toNat_cast]
  by_cases d : i < min L.length n.toNat
  ·have hiL : i < L.length := by omega
   have hops := h4 i hiL
   have hmi : m.getD i default = L.getD i default := by rw [hg i hiL, if_neg (by omega)]
   rw [if_pos (by rw [Bool.and_eq_true, decide_eq_true_eq, decide_eq_true_eq]; omega), chk_t (by omega), chk_t (fun _ => by omega), hmi]
   by_cases e : (L.getD i default).ts = 0 ∨ (L.getD i default).ts > h
   ·rw [if_pos (by rw [Bool.or_eq_true, beq_iff_eq, decide_eq_true_eq]; exact e)]
    unfold F_ref17_Log_Thin_k2
    rw [chk_t (by unfold inI; omega)]
    refine hrec g m (by omega) (by omega) hm (fun j hj => ?_) g0 (by omega)
    rw [hg j hj]
    by_cases f : j = i
    ·subst f
     rw [if_neg (by omega), if_pos (by omega)]
     unfold thinE; rw [if_pos e]
    ·by_cases f2 : j < i ∧ j < min L.length n.toNat
     ·rw [if_pos f2, if_pos (by omega)]
     ·rw [if_neg f2, if_neg (by omega)]
   ·rw [if_neg (by rw [Bool.or_eq_true, beq_iff_eq, decide_eq_true_eq]; exact e)]
    obtain ⟨g', b1, b2, b3⟩ := ref_Thin_l3 c0 h0 hl h4 h n hiL hm hmi rc FU 0 g [] (by unfold FU; omega) (by omega) (by simp) g0 (by omega)
    rw [show ((0 : Nat) : Int) = 0 from rfl] at b3
    rw [b3]
    unfold F_ref17_Log_Thin_k2
    rw [chk_t (by unfold inI; omega)]
    refine hrec g' _ (by omega) (by omega) (by rw [List.length_set]; exact hm) (fun j hj => ?_) (by omega) (by omega)
    by_cases f : j = i
    ·subst f
     rw [getD_lt (by rw [List.length_set]; omega), List.getElem_set_self, if_pos (by omega)]
     unfold thinE; rw [if_neg e, List.drop_zero]; rfl
    ·rw [getD_lt (by rw [List.length_set]; omega), List.getElem_set_ne (by omega), ← getD_lt (d := default) (by omega), hg j hj]
     by_cases f2 : j < i ∧ j < min L.length n.toNat
     ·rw [if_pos f2, if_pos (by omega)]
     ·rw [if_neg f2, if_neg (by omega)]
  ·rw [if_neg (by rw [Bool.and_eq_true, decide_eq_true_eq, decide_eq_true_eq]; omega)]
   refine ⟨g, m, rfl, hm, fun j hj => ?_⟩
   rw [hg j hj]
   by_cases f : j < min L.length n.toNat
   ·rw [if_pos (by omega), if_pos f]
   ·rw [if_neg (by omega), if_neg f]

end
theorem ref_Thin (c0 : EConf) (h0 : Int) {L : List EEntry} (hR : Rt L) (hl : L.length ≤ 1000) (h n : Int) (hn : 0 ≤ n) : ∃ g, F_ref17_Log_Thin ⟨c0, h0, ⟨L⟩⟩ h n = some (g, ⟨c0, h0, ⟨(thinL L h n).1⟩⟩) := by
 have h4 : ∀ j, j < L.length → (L.getD j default).batch.ops.length ≤ 4 := fun j hj => (thin_keys hR hj).2
 unfold F_ref17_Log_Thin
 rw [Copy_eq L hl (fun e he => by have := (hR.ops he).2; omega), Option.bind_some]
 obtain ⟨g', T, e1, e2, e3⟩ := ref_Thin_l1 c0 h0 hl h4 h n FU 0 0 L (by unfold FU; omega) (by omega) rfl (fun j hj => by rw [if_neg (by omega)]) (Int.le_refl _) (by omega)
 rw [show ((0 : Nat) : Int) = 0 from rfl] at e1
 refine ⟨g', e1.trans ?_⟩
 rw [thinL_spec hR h n hn e2 e3]

end Go.Proofs.YtglfajjcgbfehaaGreat

namespace Go.Proofs.YtglfajjcgbfehaaGreat

def refS (a : Abs) : Eref30_State := ⟨a.c, a.h, ⟨a.L⟩⟩

theorem ref_Apply {a : Abs} (ho : AOk a) (n : ENote) : F_ref30_State_Apply (refS a) n = some (appE a n, refS (appA a n)) := by
 have hlen := ho.len
 have h4 : ∀ e ∈ a.L, e.batch.ops.length ≤ 1000 := fun e he => by have := (ho.rt.ops he).2; omega
 unfold F_ref30_State_Apply
 rw [ref10_Check, Option.bind_some]
 unfold appE appA
 by_cases c0 : noteCheck n ≠ 0
 ·rw [if_pos (by rw [bne_iff_ne]; exact c0), if_pos c0, if_pos c0]
 rw [if_neg (by rw [bne_iff_ne]; exact c0), if_neg c0, if_neg c0]
 have c0' : noteCheck n = 0 := by omega
 by_cases c1 : n.k = 1
 ·rw [if_pos (by rw [c1]; rfl), if_pos c1, if_pos c1, show (refS a).conf = a.c from rfl]
  by_cases d : n.conf.epoch ≤ a.c.epoch
  ·rw [if_pos (decide_eq_true d), if_pos d, if_pos d]
  ·have hm := (confCheck_ok (noteCheck_1 c1 c0').1).2.2.2.1
   rw [if_neg (by rw [decide_eq_true_eq]; exact d), if_neg d, if_neg d, chk_t (by simp only [List.length_nil]; omega)]; rfl
 rw [if_neg (by rw [beq_iff_eq]; exact c1), if_neg c1, if_neg c1]
 by_cases c2 : n.k = 2
 ·rw [if_pos (by rw [c2]; rfl), if_pos c2, if_pos c2]
  unfold refS
  rw [ref_Set a.c a.h (by omega) h4]; rfl
 rw [if_neg (by rw [beq_iff_eq]; exact c2), if_neg c2, if_neg c2]
 by_cases c3 : n.k = 3
 ·rw [if_pos (by rw [c3]; rfl), if_pos c3, if_pos c3]
  unfold refS
  rw [ref_Stamp a.c a.h (by omega) h4]; rfl
 rw [if_neg (by rw [beq_iff_eq]; exact c3), if_neg c3, if_neg c3]
 by_cases c4 : n.k = 4
 ·rw [if_pos (by rw [c4]; rfl), if_pos c4, if_pos c4, show (refS a).horizon = a.h from rfl]
  by_cases d : n.at_ < a.h
  ·rw [if_pos (decide_eq_true d), if_pos d, if_pos d]
  ·rw [if_neg (by rw [decide_eq_true_eq]; exact d), if_neg d, if_neg d]
   obtain ⟨g, hg⟩ := ref_Thin a.c n.at_ ho.rt (by omega) n.at_ n.n (noteCheck_4 c4 c0').1
   unfold refS
   dsimp only
   rw [hg]; rfl
 ·rw [if_neg (by rw [beq_iff_eq]; exact c4), if_neg c4, if_neg c4]

-- what is told
section
variable {s : Erstate_State} {a : Abs} (h : SR s a)
include h
theorem SR.eta {l : Erlog_Log} (hl : s.log = some l) : ({ s with log := some l } : Erstate_State) = s := by cases s; simp only at hl; rw [hl]

omit h in
theorem SR.Len (h : SR s a) : F_rstate_State_Len s = some ((a.L.length : Int), s) := by
 obtain ⟨l, hl, hr⟩ := h.log
 unfold F_rstate_State_Len F_rlog_Log_Len
 rw [h.none, Option.bind_some, if_neg (by decide), hl, optE_some, hr.none, Option.bind_some, if_neg (by decide), Option.bind_some, h.eta hl, hr.ll]

theorem SR.Stamped : F_rstate_State_Stamped s = some ((stampF a.L : Int), s) := by
 obtain ⟨l, hl, hr⟩ := h.log
 unfold F_rstate_State_Stamped F_rlog_Log_Stamped
 rw [h.none, Option.bind_some, if_neg (by decide), hl, optE_some, hr.none, Option.bind_some, if_neg (by decide), Option.bind_some, h.eta hl, hr.st]

theorem SR.Top (c : Int) : F_rstate_State_Top s c = some (topL a.L c, s) := by
 obtain ⟨l, hl, hr⟩ := h.log
 unfold F_rstate_State_Top
 rw [h.none, Option.bind_some, if_neg (by decide), hl, optE_some, prog_Top hr, Option.bind_some, h.eta hl]

theorem SR.Find (ho : AOk a) (c r : Int) (hc : inI c) (hr : inI r) : ∃ v, F_rstate_State_Find s c r = some (v, s) ∧ F_ref17_Log_Find (refS a) c r = some v := by
 obtain ⟨l, hl, hrl⟩ := h.log
 have hlen := ho.len
 obtain ⟨v, e1, e2⟩ := find_both a.c a.h ho.rt hrl (by omega) c r hc hr
 refine ⟨v, ?_, e2⟩
 unfold F_rstate_State_Find
 rw [h.none, Option.bind_some, if_neg (by decide), hl, optE_some, e1, Option.bind_some, h.eta hl]

end
theorem ref07_refl (c : EConf) (h : c.members.length ≤ 1000) : F_ref07_Same c c = some true := by
 unfold F_ref07_Same
 rw [if_neg (by simp)]
 refine iter_up c.members.length (fun _ => some true) (by unfold bdM; omega) fun rc k hk hrc => ?_
 unfold F_ref07_Same_l1
 dsimp only
 by_cases d : k < c.members.length
 ·rw [if_pos (by simp only [Bool.and_eq_true, decide_eq_true_eq]; omega), chk_t (by omega), chk_t (by omega), eqEMember_iff.2 rfl, if_neg (by decide), chk_t (by unfold inI; omega), hrc d]
 ·rw [if_neg (by simp only [Bool.and_eq_true, decide_eq_true_eq]; omega)]

theorem ref06_reflO (c : List EOp) (h : c.length ≤ 1000) : F_ref06_SameOps c c = some true := by
 unfold F_ref06_SameOps
 rw [if_neg (by simp)]
 refine iter_up c.length (fun _ => some true) (by unfold bdM; omega) fun rc k hk hrc => ?_
 unfold F_ref06_SameOps_l1
 dsimp only
 by_cases d : k < c.length
 ·rw [if_pos (by simp only [Bool.and_eq_true, decide_eq_true_eq]; omega), chk_t (by omega), chk_t (by omega), eqEOp_iff.2 rfl, if_neg (by decide), chk_t (by unfold inI; omega), hrc d]
 ·rw [if_neg (by simp only [Bool.and_eq_true, decide_eq_true_eq]; omega)]

theorem ref10_reflI (c : List Int) (h : c.length ≤ 1000) : F_ref10_SameInts c c = some true := by
 unfold F_ref10_SameInts
 rw [if_neg (by simp)]
 refine iter_up c.length (fun _ => some true) (by unfold bdM; omega) fun rc k hk hrc => ?_
 unfold F_ref10_SameInts_l1
 dsimp only
 by_cases d : k < c.length
 ·rw [if_pos (by simp only [Bool.and_eq_true, decide_eq_true_eq]; omega), chk_t (by omega), chk_t (by omega), bne_self_eq_false, if_neg (by decide), chk_t (by unfold inI; omega), hrc d]
 ·rw [if_neg (by simp only [Bool.and_eq_true, decide_eq_true_eq]; omega)]

theorem ref08_refl (e : EEntry) (h : e.batch.ops.length ≤ 1000) : F_ref08_Same e e = some true := by
 unfold F_ref08_Same F_ref06_Same
 rw [beq_self_eq_true, beq_self_eq_true, beq_self_eq_true, show (true && true) = true from rfl, gif_true, gif_true, ref06_reflO _ h]; rfl

theorem ref08_reflA (L : List EEntry) (hl : L.length ≤ 1000) (h : ∀ e ∈ L, e.batch.ops.length ≤ 1000) : F_ref08_SameAll L L = some true := by
 unfold F_ref08_SameAll
 rw [if_neg (by simp)]
 refine iter_up L.length (fun _ => some true) (by unfold bdM; omega) fun rc k hk hrc => ?_
 unfold F_ref08_SameAll_l1
 dsimp only
 by_cases d : k < L.length
 ·rw [if_pos (by simp only [Bool.and_eq_true, decide_eq_true_eq]; omega), chk_t (by omega), chk_t (by omega), toNat_cast]
  have := ref08_refl (L.getD k default) (h _ (by rw [getD_lt d]; exact List.getElem_mem _))
  refine (congrArg (fun o => Option.bind o _) this).trans ?_
  rw [Option.bind_some, if_neg (by decide), chk_t (by unfold inI; omega), hrc d]
 ·rw [if_neg (by simp only [Bool.and_eq_true, decide_eq_true_eq]; omega)]

theorem ref10_refl (n : ENote) (h1 : n.conf.members.length ≤ 1000) (h2 : n.legit.length ≤ 1000) (h3 : n.entry.batch.ops.length ≤ 1000) : F_ref10_Same n n = some true := by
 unfold F_ref10_Same
 rw [beq_self_eq_true, beq_self_eq_true, beq_self_eq_true, show (true && true) = true from rfl, show (true && true) = true from rfl, gif_true, ref07_refl _ h1, Option.bind_some, show (true && true) = true from rfl, gif_true, ref10_reflI _ h2, Option.bind_some, show (true && true) = true from rfl, gif_true, ref08_refl _ h3, Option.bind_some, eqEPin_iff.2 rfl, eqEAnswer_iff.2 rfl]; rfl

theorem same_ok {s : Erstate_State} {a : Abs} (h : SR s a) (ho : AOk a) : F_law30_Same s (refS a) = some (1, s) := by
 have hlen := ho.len
 have hmem := ho.mem
 have h4 : ∀ e ∈ a.L, e.batch.ops.length ≤ 1000 := fun e he => by have := (ho.rt.ops he).2; omega
 unfold F_law30_Same
 rw [h.Conf ho, Option.bind_some, show (refS a).conf = a.c from rfl, ref07_refl _ (by omega), Option.bind_some, show (!(!true)) = true from rfl, gif_true, h.Horizon, Option.bind_some, show (refS a).horizon = a.h from rfl, bne_self_eq_false, show (!((!true) || false)) = true from rfl, gif_true, h.All ho, Option.bind_some, show (refS a).log.l = a.L from rfl, gif_true, ref08_reflA _ (by omega) h4, Option.bind_some, show (!(((!true) || false) || (!true))) = true from rfl, gif_true, show (cond true ((a.L, s) : (List EEntry) × Erstate_State).2 s) = s from rfl, h.Len, Option.bind_some]
 dsimp only
 rw [bne_self_eq_false, show (!((((!true) || false) || (!true)) || false)) = true from rfl, gif_true, gif_true, show cond true s s = s from rfl, h.Stamped, Option.bind_some, ref08_Stamped _ (by unfold bdM; omega), Option.bind_some]
 dsimp only
 rw [bne_self_eq_false, if_neg (by decide), show cond true s s = s from rfl]
 refine (iter_up2 (σ := Erstate_State) 3 (fun _ _ => some (1, s)) (fun _ t => t = s) (by unfold bdM; omega) rfl fun rc k t hk ht hrc => ?_)
 subst ht
 unfold F_law30_Same_l1
 dsimp only
 by_cases d : k < 3
 ·obtain ⟨t0, t1⟩ := topL_in ho.rt (k : Int)
  obtain ⟨v, e1, e2⟩ := h.Find ho (k : Int) (topL a.L (k : Int)) (by unfold inI; omega) (by unfold inI; omega)
  rw [if_pos (decide_eq_true (by omega)), h.Top, Option.bind_some, show refS a = ⟨a.c, a.h, ⟨a.L⟩⟩ from rfl, ref_Top a.c a.h (by omega), Option.bind_some]
  rw [show (⟨a.c, a.h, ⟨a.L⟩⟩ : Eref30_State) = refS a from rfl]
  dsimp only
  rw [bne_self_eq_false, show (!false) = true from rfl, gif_true, e1, Option.bind_some, gif_true, e2, Option.bind_some]
  dsimp only
  rw [bne_self_eq_false, if_neg (by decide), chk_t (by unfold inI; omega)]
  exact hrc _ d rfl
 ·rw [if_neg (by rw [decide_eq_true_eq]; omega)]

-- notes
def putNote (k : Int) (e : EEntry) : ENote := { (default : ENote) with k := 2, n := k, entry := e }

def confNote (c : EConf) : ENote := { (default : ENote) with k := 1, conf := c }

def horNote (h : Int) : ENote := { (default : ENote) with k := 4, at_ := h }

def putsF : Nat → List EEntry → List ENote
 | _, [] => []
 | k, e :: r => putNote k e :: putsF (k + 1) r

def notesF (a : Abs) : List ENote := (if a.c.epoch > 0 then [confNote a.c] else []) ++ putsF 0 a.L ++ [horNote a.h]

theorem putsF_len : ∀ (k : Nat) (L : List EEntry), (putsF k L).length = L.length
 | _, [] => rfl
 | k, e :: r => by rw [putsF, List.length_cons, putsF_len, List.length_cons]

theorem notesF_len (a : Abs) : (notesF a).length ≤ a.L.length + 2 := by
 unfold notesF
 rw [List.length_append, List.length_append, putsF_len]
 split <;> simp only [List.length_cons, List.length_nil] <;> omega

theorem putsF_small : ∀ (k : Nat) (L : List EEntry), (∀ e ∈ L, e.batch.ops.length ≤ 1000) → ∀ n ∈ putsF k L, n.conf.members.length ≤ 1000 ∧ n.legit.length ≤ 1000 ∧ n.entry.batch.ops.length ≤ 1000
 | _, [], _, n, hn => by simp [putsF] at hn
 | k, e :: r, h, n, hn => by
  rw [putsF] at hn
  rcases List.mem_cons.1 hn with q | q
  ·subst q
   exact ⟨Nat.zero_le _, Nat.zero_le _, h e List.mem_cons_self⟩
  ·exact putsF_small (k + 1) r (fun x hx => h x (List.mem_cons_of_mem _ hx)) n q

theorem notesF_small {a : Abs} (ho : AOk a) : ∀ n ∈ notesF a, n.conf.members.length ≤ 1000 ∧ n.legit.length ≤ 1000 ∧ n.entry.batch.ops.length ≤ 1000 := by
 intro n hn
 have hm := ho.mem
 unfold notesF at hn
 rcases List.mem_append.1 hn with q | q
 ·rcases List.mem_append.1 q with q | q
  ·split at q
   ·rw [List.mem_singleton] at q; subst q
    exact ⟨by show a.c.members.length ≤ _; omega, Nat.zero_le _, Nat.zero_le _⟩
   ·simp at q
  ·exact putsF_small 0 a.L (fun e he => by have := (ho.rt.ops he).2; omega) n q
 ·rw [List.mem_singleton] at q; subst q
  exact ⟨Nat.zero_le _, Nat.zero_le _, Nat.zero_le _⟩

theorem notes_l2 {L : List EEntry} (hl : L.length ≤ 1000) (s : Erstate_State) (out : List ENote) (ho : out.length ≤ 10) : iter (F_rstate_State_notes_1_l2 F_rstate_State_Notes_y1 (L, s)) FU (0, (true, out)) = some (s, (true, out ++ putsF 0 L ++ [horNote s.horizon])) := by
 refine (iter_up2 (σ := Bool × List ENote) L.length (fun k y => some (s, (true, y.2 ++ putsF k (L.drop k) ++ [horNote s.horizon]))) (fun k y => y.1 = true ∧ y.2.length = out.length + k) (by unfold bdM; omega) ⟨rfl, rfl⟩ fun rc k y hk hy hrc => ?_)
 obtain ⟨b, o⟩ := y
 obtain ⟨y1, y2⟩ := hy
 simp only at y1 y2
 subst y1
 unfold F_rstate_State_notes_1_l2
 dsimp only
 rw [toNat_cast]
 by_cases d : k < L.length
 ·rw [if_pos (decide_eq_true (by omega)), chk_t (by omega), chk_t rfl]
  unfold F_rstate_State_Notes_y1
  dsimp only
  rw [chk_t (by rw [y2]; simp only [List.length_cons, List.length_nil]; omega), Option.bind_some]
  dsimp only
  rw [if_neg (by decide), chk_t (by unfold inI; omega)]
  refine (hrc _ d ⟨rfl, by simp only [List.length_append, List.length_cons, List.length_nil]; omega⟩).trans ?_
  rw [drop_cons (d := default) d, putsF]
  show some (s, (true, (o ++ [putNote (k : Int) (L.getD k default)]) ++ putsF (k + 1) (L.drop (k + 1)) ++ [horNote s.horizon])) = _
  rw [List.append_assoc o]; rfl
 ·rw [if_neg (by rw [decide_eq_true_eq]; omega), chk_t rfl]
  unfold F_rstate_State_Notes_y1
  dsimp only
  rw [chk_t (by rw [y2]; simp only [List.length_cons, List.length_nil]; omega), Option.bind_some, List.drop_eq_nil_of_le (by omega), putsF, List.append_nil]; rfl

theorem SR.Notes {s : Erstate_State} {a : Abs} (h : SR s a) (ho : AOk a) : F_rstate_State_Notes s = some (notesF a, s) := by
 have hlen := ho.len
 unfold F_rstate_State_Notes
 rw [h.none, Option.bind_some, if_neg (by decide), show F_rstate_State_notes s = some () from rfl, Option.bind_some]
 have key : F_rstate_State_notes_1 F_rstate_State_Notes_y1 (true, ([] : List ENote)) s = some (s, (true, notesF a)) := by
  unfold F_rstate_State_notes_1 notesF
  rw [h.conf]
  by_cases c : a.c.epoch > 0
  ·rw [if_pos (decide_eq_true c), if_pos c, own_eq _ ho.mem, Option.bind_some, chk_t rfl]
   have : F_rstate_State_Notes_y1 (confNote a.c) [] = some (true, [confNote a.c]) := by
    unfold F_rstate_State_Notes_y1
    rw [chk_t (by simp only [List.length_cons, List.length_nil]; omega)]; rfl
   refine (congrArg (fun o => Option.bind o _) this).trans ?_
   rw [Option.bind_some, if_neg (fun h => by cases h), h.All ho, Option.bind_some]
   refine (notes_l2 (L := a.L) (by omega) s [confNote a.c] (by simp)).trans ?_
   rw [h.hor]
  ·rw [if_neg (by rw [decide_eq_true_eq]; exact c), if_neg c, h.All ho, Option.bind_some]
   refine (notes_l2 (L := a.L) (by omega) s [] (by simp)).trans ?_
   rw [h.hor]
 rw [key, Option.bind_some]
 rfl

theorem ref_Notes_l2 (a : Abs) (hl : a.L.length ≤ 1000) (out : List ENote) (ho : out.length ≤ 10) : F_ref30_State_Notes_k1 (refS a) out a.c.members a.L = some (out ++ putsF 0 a.L ++ [horNote a.h], refS a) := by
 unfold F_ref30_State_Notes_k1
 refine (iter_up3 (σ := List ENote) a.L.length (fun k o => some (o ++ putsF k (a.L.drop k) ++ [horNote a.h], refS a)) (fun k o => o.length = out.length + k) (by unfold bdM; omega) rfl fun rc k o hk y2 hrc => ?_)
 unfold F_ref30_State_Notes_l2
 dsimp only
 rw [toNat_cast]
 by_cases d : k < a.L.length
 ·rw [if_pos (decide_eq_true (by omega)), chk_t (by omega), chk_t (by rw [y2]; simp only [List.length_cons, List.length_nil]; omega), chk_t (by unfold inI; omega)]
  refine (hrc _ d (by simp only [List.length_append, List.length_cons, List.length_nil]; omega)).trans ?_
  rw [drop_cons (d := default) d, putsF]
  show some ((o ++ [putNote (k : Int) (a.L.getD k default)]) ++ putsF (k + 1) (a.L.drop (k + 1)) ++ [horNote a.h], refS a) = _
  rw [List.append_assoc o]; rfl
 ·rw [if_neg (by rw [decide_eq_true_eq]; omega), chk_t (by rw [y2]; simp only [List.length_cons, List.length_nil]; omega), List.drop_eq_nil_of_le (by omega), putsF, List.append_nil]; rfl

theorem ref_Notes {a : Abs} (ho : AOk a) : F_ref30_State_Notes (refS a) = some (notesF a, refS a) := by
 have hlen := ho.len
 unfold F_ref30_State_Notes notesF
 show (if decide (a.c.epoch > 0) = true then _ else _) = _
 by_cases c : a.c.epoch > 0
 ·rw [if_pos (decide_eq_true c), if_pos c, chk_t (by simp only [List.length_cons, List.length_nil]; omega)]
  exact ref_Notes_l2 a (by omega) [confNote a.c] (by simp)
 ·rw [if_neg (by rw [decide_eq_true_eq]; exact c), if_neg c]
  exact ref_Notes_l2 a (by omega) [] (by simp)

end Go.Proofs.YtglfajjcgbfehaaGreat

