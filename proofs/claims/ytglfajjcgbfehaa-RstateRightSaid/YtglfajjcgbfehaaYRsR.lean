/- A replica's log: the program's comes to the same. -/
import Derived.Test.YtglfajjcgbfehaaYAdQ
namespace Go.Proofs.Ytglfajjcgbfehaa

theorem mget_mdel {α β : Type} [DecidableEq α] : ∀ {l : List (α × β)} {k : α} (j : α), (l.map Prod.fst).Nodup → mget (mdel l k) j = if k = j then none else mget l j
 | [], k, j, _ => by unfold mdel mget; split <;> rfl
 | p :: r, k, j, hn => by
  rw [List.map_cons, List.nodup_cons] at hn
  unfold mdel
  by_cases c : p.1 = k
  ·rw [if_pos c]
   by_cases e : k = j
   ·rw [if_pos e]
    exact mget_none fun q hq h => hn.1 (List.mem_map.2 ⟨q, hq, by rw [h, c, e]⟩)
   ·rw [if_neg e]
    show _ = mget (p :: r) j
    rw [mget, if_neg (by rw [c]; exact e)]
  ·rw [if_neg c, mget, mget_mdel j hn.2]
   by_cases e : k = j
   ·rw [if_pos e, if_pos e, if_neg (by rw [← e]; exact c)]
   ·rw [if_neg e, if_neg e, mget]

theorem mdel_nodup {α β : Type} [DecidableEq α] {l : List (α × β)} (k : α) (h : (l.map Prod.fst).Nodup) : ((mdel l k).map Prod.fst).Nodup := h.sublist ((mdel_sub k l).map Prod.fst)

def whoE (e : EEntry) : Erlog_who := ⟨e.batch.client, e.batch.req⟩

theorem tw_who (a b : EEntry) : tw a b = true ↔ whoE a = whoE b := by
 unfold tw whoE
 rw [Bool.and_eq_true, beq_iff_eq, beq_iff_eq, Erlog_who.mk.injEq]

def mapOk (m : List (Erlog_who × Int)) (L : List EEntry) : Prop := ∀ (w : Erlog_who) (k : Int), mget m w = some k ↔ ∃ j : Nat, j < L.length ∧ k = (j : Int) ∧ whoE (L.getD j default) = w

structure Rl (l : Erlog_Log) (L : List EEntry) : Prop where
 ll : l.l = L
 st : l.stamped = (stampF L : Int)
 m : ∃ m, l.at_ = some m ∧ (m.map Prod.fst).Nodup ∧ mapOk m L

theorem Rl.none {l : Erlog_Log} {L : List EEntry} (h : Rl l L) : F_rlog_Log_none l = some false := by
 obtain ⟨m, hm, _⟩ := h.m
 unfold F_rlog_Log_none; rw [hm]; rfl

theorem new_Rl : F_rlog_New = some ⟨[], some [], 0⟩ ∧ Rl ⟨[], some [], 0⟩ [] := ⟨rfl, rfl, rfl, [], rfl, List.nodup_nil, fun w k => ⟨fun h => (by cases h), fun ⟨j, h, _⟩ => (by cases h)⟩⟩

theorem Rt.who {L : List EEntry} (h : Rt L) {i j : Nat} (hi : i < L.length) (hj : j < L.length) (e : whoE (L.getD i default) = whoE (L.getD j default)) : i = j := by
 rcases Nat.lt_trichotomy i j with c | c | c
 ·have := (h j hj).tw i c
  rw [(tw_who _ _).2 e] at this; cases this
 ·exact c
 ·have := (h i hi).tw j c
  rw [(tw_who _ _).2 e.symm] at this; cases this

theorem Rt.inI {L : List EEntry} {e : EEntry} (h : batchCheck e.batch = 0) : inI e.batch.client ∧ inI e.batch.req := by
 obtain ⟨h1, h2, h3, h4, _⟩ := batchCheck_ok h
 unfold Go.Proofs.Ytglfajjcgbfehaa.inI; exact ⟨by omega, by omega⟩

theorem map_at {m : List (Erlog_who × Int)} {L : List EEntry} (h : mapOk m L) {i : Nat} (hi : i ≤ L.length) (e : EEntry) : (((mget m (whoE e)).isSome) && (decide (((mget m (whoE e)).getD 0) < (i : Int)))) = (L.take i).any (fun x => tw x e) := by
 cases hm : mget m (whoE e) with
 | none =>
  symm
  rw [Option.isSome_none, Bool.false_and, any_false hi]
  intro j hj
  cases t : tw (L.getD j default) e with
  | false => rfl
  | true =>
   have := (h (whoE e) (j : Int)).2 ⟨j, by omega, rfl, (tw_who _ _).1 t⟩
   rw [hm] at this; cases this
 | some k =>
  obtain ⟨j, h1, h2, h3⟩ := (h (whoE e) k).1 hm
  rw [Option.isSome_some, Bool.true_and, Option.getD_some]
  by_cases c : k < (i : Int)
  ·rw [decide_eq_true c]
   symm
   rw [List.any_eq_true]
   exact ⟨L.getD j default, by rw [getD_lt h1]; exact List.mem_take_iff_getElem.2 ⟨j, by omega, rfl⟩, (tw_who _ _).2 h3⟩
  ·rw [decide_eq_false c]
   symm
   rw [any_false hi]
   intro q hq
   cases t : tw (L.getD q default) e with
   | false => rfl
   | true =>
    have := (h (whoE e) (q : Int)).2 ⟨q, by omega, rfl, (tw_who _ _).1 t⟩
    rw [hm] at this; injection this with this; omega

section
variable {l : Erlog_Log} {L : List EEntry} (hR : Rt L) (h : Rl l L) (hl : L.length ≤ 1000)
include hR h hl
omit hR hl in
theorem may_ok (i : Int) (e : EEntry) : F_rlog_Log_may l i e = some (setC L i e, l) := by
 obtain ⟨hL, _, m, hm, hn, hk⟩ := h
 have heta : ({ l := L, at_ := some m, stamped := l.stamped } : Erlog_Log) = l := by rw [← hL, ← hm]
 unfold F_rlog_Log_may
 rw [hL, hm]
 by_cases c1 : i < 0 ∨ i > (L.length : Int)
 ·have : setC L i e = 1 := by unfold setC; rw [if_pos c1]
  rw [this, if_pos (by rw [Bool.or_eq_true, decide_eq_true_eq, decide_eq_true_eq]; exact c1)]
 rw [if_neg (by rw [Bool.or_eq_true, decide_eq_true_eq, decide_eq_true_eq]; exact c1), item_Check, Option.bind_some]
 by_cases c2 : batchCheck e.batch = 0
 ·rw [c2, if_neg (by decide)]
  by_cases c3 : i ≥ 100
  ·have : setC L i e = 6 := by unfold setC; rw [if_neg c1, if_neg (by rw [c2]; decide), if_pos c3]
   rw [this, if_pos (decide_eq_true c3)]
  rw [if_neg (by rw [decide_eq_false c3]; decide)]
  obtain ⟨n, rfl⟩ := Int.eq_ofNat_of_zero_le (show 0 ≤ i by omega)
  have hs : setC L (n : Int) e = if (L.take n).any (fun x => tw x e) = true then 18 else if follow (L.take n) e = true then 18 else 0 := by
   unfold setC; rw [if_neg c1, if_neg (by rw [c2]; decide), if_neg c3, toNat_cast]
  obtain ⟨i1, i2⟩ := Rt.inI (L := L) c2
  simp only [optE]
  unfold F_rlog_of
  rw [Option.bind_some, chk_t ⟨i1, i2⟩, show (((mget m ({ client := e.batch.client, req := e.batch.req } : Erlog_who)).isSome) && (decide (((mget m ({ client := e.batch.client, req := e.batch.req } : Erlog_who)).getD 0) < (n : Int)))) = (L.take n).any (fun x => tw x e) from map_at hk (by omega) e, hs]
  by_cases a : (L.take n).any (fun x => tw x e) = true
  ·rw [if_pos a, if_pos a, heta]
  rw [if_neg a, if_neg a]
  have hf' : (((e.ts != 0) && (decide ((n : Int) > 0))) && ((((L.getD ((n : Int) - 1).toNat default).ts) == 0) || (decide ((L.getD ((n : Int) - 1).toNat default).ts ≥ e.ts)))) = follow (L.take n) e := by
   rw [follow_at (by omega) e]; cases (e.ts != 0) <;> cases decide ((n : Int) > 0) <;> rfl
  have hpos : ∀ {b : Bool}, (((e.ts != 0) && (decide ((n : Int) > 0))) && b) = true → 0 < n := fun {b} h => by
   rw [Bool.and_eq_true, Bool.and_eq_true] at h
   have := of_decide_eq_true h.1.2; omega
  have hpos' : ((e.ts != 0) && (decide ((n : Int) > 0))) = true → 0 < n := fun h => by
   rw [Bool.and_eq_true] at h
   have := of_decide_eq_true h.2; omega
  rw [chk_t (fun h => by have := hpos' h; unfold Go.Proofs.Ytglfajjcgbfehaa.inI; omega), chk_t (fun h => by have := hpos' h; omega), chk_t (fun h => by have := hpos h; unfold Go.Proofs.Ytglfajjcgbfehaa.inI; omega), chk_t (fun h => by have := hpos h; omega), hf']
  by_cases f : follow (L.take n) e = true
  ·rw [if_pos f, if_pos f, heta]
  ·rw [if_neg f, if_neg f, heta]
 ·have : setC L i e = batchCheck e.batch := by unfold setC; rw [if_neg c1, if_pos c2]
  rw [this, if_pos (by rw [bne_iff_ne]; exact c2)]

theorem cut_ok {n : Nat} (hn : n ≤ L.length) : ∃ m', F_rlog_Log_cut l (n : Int) = some { l with l := L.take n, at_ := some m' } ∧ (m'.map Prod.fst).Nodup ∧ mapOk m' (L.take n) := by
 obtain ⟨hL, _, m, hm, hnd, hk⟩ := h
 unfold F_rlog_Log_cut
 rw [hL, chk_t (by omega), hm]
 have hd : ∀ x, (L.drop n).getD x default = L.getD (n + x) default := fun x => by simp [List.getD_eq_getElem?_getD]
 have loop : ∀ (N x : Nat) (mx : List (Erlog_who × Int)), x ≤ L.length - n → L.length - n - x < N → (mx.map Prod.fst).Nodup → (∀ (w : Erlog_who) (k : Int), mget mx w = some k ↔ ∃ j : Nat, j < L.length ∧ k = (j : Int) ∧ whoE (L.getD j default) = w ∧ ¬ (n ≤ j ∧ j < n + x)) →
   ∃ m', iter (F_rlog_Log_cut_l1 l (n : Int)) N ((x : Int), some mx) = some { l with l := L.take n, at_ := some m' } ∧ (m'.map Prod.fst).Nodup ∧ mapOk m' (L.take n) := by
  intro N
  induction N with
  | zero => intro x _ _ h; omega
  | succ N ih =>
   intro x mx hx hN hnx hkx
   show ∃ m', F_rlog_Log_cut_l1 l (n : Int) (iter (F_rlog_Log_cut_l1 l (n : Int)) N) ((x : Int), some mx) = _ ∧ _
   generalize e0 : iter (F_rlog_Log_cut_l1 l (n : Int)) N = rc
   unfold F_rlog_Log_cut_l1
   dsimp only
   rw [hL, toNat_cast, List.length_drop, toNat_cast, hd]
   by_cases c : x < L.length - n
   ·have hj : n + x < L.length := by omega
    obtain ⟨i1, i2⟩ := Rt.inI (L := L) (hR (n + x) hj).chk
    rw [if_pos (decide_eq_true (by omega)), chk_t (by omega)]
    simp only [optE]
    unfold F_rlog_of
    rw [Option.bind_some, chk_t ⟨i1, i2⟩, chk_t (by unfold Go.Proofs.Ytglfajjcgbfehaa.inI; omega), ← e0]
    refine ih (x + 1) _ (by omega) (by omega) (mdel_nodup _ hnx) fun w k => ?_
    show mget (mdel mx (whoE (L.getD (n + x) default))) w = some k ↔ _
    rw [mget_mdel w hnx]
    by_cases ew : whoE (L.getD (n + x) default) = w
    ·rw [if_pos ew]
     constructor
     ·intro h; cases h
     ·rintro ⟨j, j1, j2, j3, j4⟩
      have := hR.who hj j1 (ew.trans j3.symm)
      omega
    ·rw [if_neg ew, hkx]
     constructor
     ·rintro ⟨j, j1, j2, j3, j4⟩
      refine ⟨j, j1, j2, j3, fun hh => ?_⟩
      by_cases q : j = n + x
      ·subst q; exact ew j3
      ·omega
     ·rintro ⟨j, j1, j2, j3, j4⟩
      exact ⟨j, j1, j2, j3, by omega⟩
   ·rw [if_neg (by rw [decide_eq_false (by omega)]; decide), chk_t (by omega)]
    refine ⟨mx, rfl, hnx, fun w k => ?_⟩
    rw [hkx]
    have hlt : (L.take n).length = n := by rw [List.length_take]; omega
    have hg : ∀ j, j < n → (L.take n).getD j default = L.getD j default := fun j hj => by rw [getD_lt (by omega), getD_lt (by omega), List.getElem_take]
    constructor
    ·rintro ⟨j, j1, j2, j3, j4⟩
     exact ⟨j, by omega, j2, by rw [hg j (by omega)]; exact j3⟩
    ·rintro ⟨j, j1, j2, j3⟩
     rw [hlt] at j1
     rw [hg j j1] at j3
     exact ⟨j, by omega, j2, j3, by omega⟩
 refine loop FU 0 m (Nat.zero_le _) (by unfold FU; omega) hnd fun w k => ?_
 rw [hk w k]
 constructor
 ·rintro ⟨j, j1, j2, j3⟩; exact ⟨j, j1, j2, j3, by omega⟩
 ·rintro ⟨j, j1, j2, j3, _⟩; exact ⟨j, j1, j2, j3⟩

end
theorem who_put {L : List EEntry} {n : Nat} {e : EEntry} (hn : n < L.length) (ht : tw (L.getD n default) e = true) : (putE L n e).length = L.length ∧ ∀ j, j < L.length → whoE ((putE L n e).getD j default) = whoE (L.getD j default) := by
 unfold putE
 rw [if_pos ⟨hn, ht⟩]
 split
 ·exact ⟨rfl, fun _ _ => rfl⟩
 ·have hl : (L.take n).length = n := by rw [List.length_take]; omega
  have hlen : (L.take n ++ stampT (L.getD n default) e.ts :: (L.drop (n + 1)).map zeroT).length = L.length := by rw [List.length_append, List.length_cons, List.length_map, List.length_drop]; omega
  refine ⟨hlen, fun j hj => ?_⟩
  by_cases c1 : j < n
  ·rw [getD_lt (by omega), List.getElem_append_left (by omega), List.getElem_take, getD_lt hj]
  ·by_cases c2 : j = n
   ·subst c2
    rw [getD_lt (by omega), List.getElem_append_right (by omega)]; simp [hl]; rfl
   ·obtain ⟨q, rfl⟩ : ∃ q, j = n + 1 + q := ⟨j - n - 1, by omega⟩
    rw [getD_lt (by omega), List.getElem_append_right (by omega), getD_lt hj]
    simp only [hl, show n + 1 + q - n = q + 1 by omega, List.getElem_cons_succ, List.getElem_map, List.getElem_drop]
    rfl

theorem optE_some {α β : Type} (x : α) (a : Option β) (f : α → Option β) : optE (some x) a f = f x := rfl

def setT (e : EEntry) (n : Int) (c : Erlog_Log) : Option (Int × Erlog_Log) := (F_rlog_own e).bind fun o => (chk (((c.l.length + [o].length : Nat) : Int) * 48 ≤ 140737488355328) (optE c.at_ (none) (fun m_2 => (F_rlog_of e).bind fun o_2 => (chk (inI o_2.client ∧ inI o_2.req) (F_rlog_Log_Set_k1 ({ c with l := c.l ++ [o], at_ := some (mset m_2 o_2 n) } : Erlog_Log))))))

theorem prog_other {l : Erlog_Log} {L : List EEntry} (hR : Rt L) (h : Rl l L) (hl : L.length ≤ 1000) {n : Nat} {e : EEntry} (hn : n ≤ L.length) (hc : canSet L (n : Int) e) (ht : ¬ (n < L.length ∧ tw (L.getD n default) e = true)) :
  ∃ l', (F_rlog_Log_cut l (n : Int)).bind (setT e (n : Int)) = some (0, l') ∧ Rl l' (putE L n e) := by
 have hop := (batchCheck_ok hc.chk).2.2.2.2.1
 obtain ⟨m', e1, e2, e3⟩ := cut_ok hR h hl hn
 have hlt : (L.take n).length = n := by rw [List.length_take]; omega
 obtain ⟨i1, i2⟩ := Rt.inI (L := L) hc.chk
 have ep : putE L n e = L.take n ++ [e] := by unfold putE; rw [if_neg ht]
 rw [e1, Option.bind_some]
 unfold setT
 unfold F_rlog_own F_slices_Clone_api_Op_api_Op
 rw [chk_t (by simp only [List.length_nil]; omega)]
 rw [Option.bind_some, Option.bind_some]
 dsimp only
 rw [optE_some]
 rw [chk_t (by rw [hlt]; simp only [List.length_cons, List.length_nil]; omega)]
 unfold F_rlog_of F_rlog_Log_Set_k1
 rw [Option.bind_some, chk_t ⟨i1, i2⟩, item_Stamped _ (by rw [List.length_append, hlt]; simp only [List.length_cons, List.length_nil]; unfold bdM; omega), Option.bind_some]
 refine ⟨_, rfl, ep.symm, by rw [ep], _, rfl, mset_nodup _ _ e2, fun w k => ?_⟩
 rw [mget_mset, ep]
 have hg : ∀ j, j < n → (L.take n ++ [e]).getD j default = (L.take n).getD j default := fun j hj => by rw [getD_lt (by rw [List.length_append]; omega), getD_lt (by omega), List.getElem_append_left (by omega)]
 have hg2 : (L.take n ++ [e]).getD n default = e := by rw [getD_lt (by rw [List.length_append, List.length_cons]; omega), List.getElem_append_right (by omega)]; simp [hlt]
 have hll : (L.take n ++ [e]).length = n + 1 := by rw [List.length_append, hlt]; rfl
 rw [hll]
 by_cases ew : (⟨e.batch.client, e.batch.req⟩ : Erlog_who) = w
 ·rw [if_pos ew]
  constructor
  ·intro hh; injection hh with hh
   exact ⟨n, by omega, hh.symm, by rw [hg2]; exact ew⟩
  ·rintro ⟨j, j1, j2, j3⟩
   by_cases q : j = n
   ·rw [j2, q]
   ·rw [hg j (by omega), getD_lt (by omega), List.getElem_take, ← getD_lt (d := default) (by omega)] at j3
    have := hc.tw j (by omega)
    rw [(tw_who _ _).2 (j3.trans ew.symm)] at this; cases this
 ·rw [if_neg ew, e3 w k, hlt]
  constructor
  ·rintro ⟨j, j1, j2, j3⟩
   exact ⟨j, by omega, j2, by rw [hg j j1]; exact j3⟩
  ·rintro ⟨j, j1, j2, j3⟩
   by_cases q : j = n
   ·subst q; rw [hg2] at j3; exact absurd j3 ew
   ·rw [hg j (by omega)] at j3; exact ⟨j, by omega, j2, j3⟩

theorem prog_same {l : Erlog_Log} {L : List EEntry} (h : Rl l L) (hl : L.length ≤ 1000) {n : Nat} {e : EEntry} (g : n < L.length) (t : tw (L.getD n default) e = true) (s : ¬ (L.getD n default).ts = e.ts) :
  iter (F_rlog_Log_Set_l2 (n : Int) e (0, l)) FU (0, L.set n (stampT (L.getD n default) e.ts)) = some (0, (⟨putE L n e, l.at_, (stampF (putE L n e) : Int)⟩ : Erlog_Log)) := by
 obtain ⟨w1, w2⟩ := who_put g t
 have ep : putE L n e = L.take n ++ stampT (L.getD n default) e.ts :: (L.drop (n + 1)).map zeroT := by unfold putE; rw [if_pos ⟨g, t⟩, if_neg s]
 have hl2 : (L.take n).length = n := by rw [List.length_take]; omega
 refine iter_rule (fun s : Int × List EEntry => L.length - s.1.toNat) (fun _ => some (0, (⟨putE L n e, l.at_, (stampF (putE L n e) : Int)⟩ : Erlog_Log))) (fun s => 0 ≤ s.1 ∧ s.1 + n + 1 ≤ (L.length : Int) ∧ s.2.length = L.length ∧ ∀ j, j < L.length → s.2.getD j default = if j = n then stampT (L.getD n default) e.ts else if n < j ∧ (j : Int) < n + 1 + s.1 then zeroT (L.getD j default) else L.getD j default) ?_ FU _ ⟨by simp, by simp only; omega, by simp only [List.length_set], fun j hj => ?_⟩ (by unfold FU; simp only; omega)
 ·rintro rc ⟨x, mm⟩ ⟨h1, h2, h3, h4⟩ hrc
  simp only at h1 h2 h3 h4 hrc
  obtain ⟨q, rfl⟩ := Int.eq_ofNat_of_zero_le h1
  unfold F_rlog_Log_Set_l2
  dsimp only
  rw [h.ll, List.length_drop, List.length_set, show ((n : Int) + 1).toNat = n + 1 by omega]
  by_cases d : q < L.length - (n + 1)
  ·have ei : ((n : Int) + 1 + (q : Int)).toNat = n + 1 + q := by omega
   rw [if_pos (decide_eq_true (by omega)), chk_t (by unfold inI; omega), chk_t (by unfold inI; omega), chk_t (by omega), chk_t (by unfold inI; omega), ei]
   refine hrc ((q : Int) + 1, _) ⟨by simp only; omega, by simp only; omega, by simp only [List.length_set]; exact h3, fun j hj => ?_⟩ (by simp only [toNat_cast1, toNat_cast]; omega)
   simp only
   rw [getD_lt (by rw [List.length_set]; omega), List.getElem_set]
   by_cases e1 : n + 1 + q = j
   ·subst e1
    have hq := h4 (n + 1 + q) (by omega)
    rw [if_neg (by omega), if_neg (by omega)] at hq
    rw [if_pos rfl, if_neg (by omega), if_pos (by omega), hq]; rfl
   ·rw [if_neg e1, ← getD_lt (d := default) (by omega), h4 j hj]
    by_cases e3 : j = n
    ·rw [if_pos e3, if_pos e3]
    ·rw [if_neg e3, if_neg e3]
     by_cases e2 : n < j ∧ (j : Int) < (n : Int) + 1 + (q : Int)
     ·rw [if_pos e2, if_pos (by omega)]
     ·rw [if_neg e2, if_neg (by omega)]
  ·rw [if_neg (by rw [decide_eq_false (by omega)]; decide)]
   have e5 : mm = putE L n e := by
    rw [ep]
    refine List.ext_getElem (by rw [List.length_append, List.length_cons, List.length_map, List.length_drop]; omega) fun j h5 h6 => ?_
    rw [← getD_lt (d := default) h5, h4 j (by omega)]
    by_cases e1 : j = n
    ·subst e1
     rw [if_pos rfl, List.getElem_append_right (by omega)]; simp [hl2]
    ·rw [if_neg e1]
     by_cases e2 : n < j
     ·rw [if_pos (by omega), List.getElem_append_right (by omega), getD_lt (by omega)]
      simp only [hl2]
      obtain ⟨p, rfl⟩ : ∃ p, j = n + 1 + p := ⟨j - n - 1, by omega⟩
      simp only [show n + 1 + p - n = p + 1 by omega, List.getElem_cons_succ, List.getElem_map, List.getElem_drop]
     ·rw [if_neg (by omega), List.getElem_append_left (by omega), List.getElem_take, getD_lt (by omega)]
   unfold F_rlog_Log_Set_k1
   rw [e5, item_Stamped _ (by rw [w1]; unfold bdM; omega), Option.bind_some]
 ·simp only
  rw [getD_lt (by rw [List.length_set]; omega), List.getElem_set]
  by_cases e1 : n = j
  ·rw [if_pos e1, if_pos e1.symm]
  ·rw [if_neg e1, if_neg (fun hh => e1 hh.symm), if_neg (by omega), getD_lt hj]

theorem prog_Set {l : Erlog_Log} {L : List EEntry} (hR : Rt L) (h : Rl l L) (hl : L.length ≤ 1000) (i : Int) (e : EEntry) : ∃ l', F_rlog_Log_Set l i e = some (setC L i e, l') ∧ Rl l' (if setC L i e = 0 then putE L i.toNat e else L) := by
 unfold F_rlog_Log_Set
 rw [h.none, Option.bind_some, if_neg (by decide), may_ok h, Option.bind_some]
 by_cases c : setC L i e = 0
 ·have hc := setC_ok.1 c
  obtain ⟨n, rfl⟩ := Int.eq_ofNat_of_zero_le hc.ge
  have hn : n ≤ L.length := by have := hc.le; omega
  have hop := (batchCheck_ok hc.chk).2.2.2.2.1
  dsimp only
  rw [c, if_neg (by decide), if_pos rfl, h.ll, chk_t (fun hh => by have := of_decide_eq_true hh; omega), toNat_cast]
  obtain ⟨m, hm, hnd, hk⟩ := h.m
  by_cases g : n < L.length
  ·rw [decide_eq_true (show (n : Int) < (L.length : Int) by omega), gif_true, item_Twins, Option.bind_some, Bool.true_and]
   by_cases t : tw (L.getD n default) e = true
   ·obtain ⟨w1, w2⟩ := who_put g t
    have hmap : mapOk m (putE L n e) := fun w k => by
     rw [hk w k, w1]
     constructor
     ·rintro ⟨j, j1, j2, j3⟩; exact ⟨j, j1, j2, by rw [w2 j j1]; exact j3⟩
     ·rintro ⟨j, j1, j2, j3⟩; rw [w2 j j1] at j3; exact ⟨j, j1, j2, j3⟩
    rw [if_pos (by exact t), chk_t (by omega)]
    by_cases s : (L.getD n default).ts = e.ts
    ·have ep : putE L n e = L := by unfold putE; rw [if_pos ⟨g, t⟩, if_pos s]
     rw [if_neg (by rw [s, bne_self_eq_false]; decide)]
     unfold F_rlog_Log_Set_k1
     rw [item_Stamped _ (by rw [h.ll]; unfold bdM; omega), Option.bind_some]
     exact ⟨_, rfl, h.ll.trans ep.symm, by rw [h.ll, ep], m, hm, hnd, hmap⟩
    ·have ep : putE L n e = L.take n ++ stampT (L.getD n default) e.ts :: (L.drop (n + 1)).map zeroT := by unfold putE; rw [if_pos ⟨g, t⟩, if_neg s]
     rw [if_pos (bne_iff_ne.2 s), chk_t (by omega), chk_t (by unfold inI; omega), chk_t (by rw [List.length_set]; omega)]
     have e00 : ({ e with batch := ({ client := ((L.getD n default).batch).client, req := ((L.getD n default).batch).req, ops := ((L.getD n default).batch).ops } : EBatch) } : EEntry) = stampT (L.getD n default) e.ts := rfl
     rw [e00]
     exact ⟨_, prog_same h hl g t s, rfl, rfl, m, hm, hnd, hmap⟩
   ·rw [if_neg (by exact t)]
    exact prog_other hR h hl hn hc fun hh => t hh.2
  ·rw [decide_eq_false (show ¬ (n : Int) < (L.length : Int) by omega), gif_false, Option.bind_some, Bool.false_and, if_neg (by decide)]
   exact prog_other hR h hl hn hc fun hh => g hh.1
 ·dsimp only
  rw [if_pos (by rw [bne_iff_ne]; exact c), if_neg c]
  exact ⟨l, rfl, h⟩

end Go.Proofs.Ytglfajjcgbfehaa
