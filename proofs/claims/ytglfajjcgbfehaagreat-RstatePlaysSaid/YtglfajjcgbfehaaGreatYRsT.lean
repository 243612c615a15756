/- Small texts in one. -/
import Derived.Test.YtglfajjcgbfehaaGreatYRi
import Derived.Test.YtglfajjcgbfehaaGreatYOpsC
import Derived.Test.YtglfajjcgbfehaaGreatYO
import Derived.Test.YtglfajjcgbfehaaGreatYP
namespace Go.Proofs.YtglfajjcgbfehaaGreat
-- what is wrong
end Go.Proofs.YtglfajjcgbfehaaGreat

namespace Go.Proofs.YtglfajjcgbfehaaGreat
structure bdEOp (x : EOp) : Prop where
 key : bdStr x.key
 val : bdStr x.val
 del : bdT x.del

structure bdEBatch (x : EBatch) : Prop where
 client : inI x.client
 req : inI x.req
 ops : (bdSl bdEOp) x.ops

structure bdEEntry (x : EEntry) : Prop where
 batch : bdEBatch x.batch
 ts : inU x.ts

theorem item_Check (e : EEntry) : F_item_Check e = some (batchCheck e.batch) := by unfold F_item_Check; rw [ops_Check]; rfl

theorem ref08_Check (e : EEntry) : F_ref08_Check e = some (batchCheck e.batch) := by unfold F_ref08_Check; rw [ref06_Check]; rfl

def tw (a b : EEntry) : Bool := (a.batch.client == b.batch.client) && (a.batch.req == b.batch.req)

theorem ref08_Twins (a b : EEntry) : F_ref08_Twins a b = some (tw a b) := rfl

theorem item_Twins (a b : EEntry) : F_item_Twins a b = some (tw a b) := rfl

def follow (pre : List EEntry) (e : EEntry) : Bool := (!(pre.length == 0)) && ((e.ts != 0) && (((pre.getD (pre.length - 1) default).ts == 0) || decide ((pre.getD (pre.length - 1) default).ts ≥ e.ts)))

theorem follow_at {l : List EEntry} {k : Nat} (hk : k ≤ l.length) (e : EEntry) : follow (l.take k) e = (decide ((k : Int) > 0) && ((e.ts != 0) && (((l.getD ((k : Int) - 1).toNat default).ts == 0) || decide ((l.getD ((k : Int) - 1).toNat default).ts ≥ e.ts)))) := by
 unfold follow
 rw [List.length_take, Nat.min_eq_left hk]
 by_cases h : k = 0
 ·subst h; rfl
 ·have e1 : ((k : Int) - 1).toNat = k - 1 := by omega
  have e2 : (l.take k).getD (k - 1) default = l.getD (k - 1) default := by
   rw [List.getD_eq_getElem?_getD, List.getD_eq_getElem?_getD, List.getElem?_take_of_lt (by omega)]
  have e3 : (k == 0) = false := by rw [beq_eq_false_iff_ne]; exact h
  rw [e1, e2, e3, decide_eq_true (by omega : (k : Int) > 0)]; rfl

theorem any_drop {l : List EEntry} {k n : Nat} (hk : k < n) (hn : n ≤ l.length) (f : EEntry → Bool) : ((l.take n).drop k).any f = (f (l.getD k default) || ((l.take n).drop (k + 1)).any f) := by
 rw [drop_cons (d := default) (by rw [List.length_take]; omega), List.any_cons]
 have : (l.take n).getD k default = l.getD k default := by rw [List.getD_eq_getElem?_getD, List.getD_eq_getElem?_getD, List.getElem?_take_of_lt hk]
 rw [this]

theorem mget_mset {α β : Type} [DecidableEq α] : ∀ (l : List (α × β)) (k j : α) (v : β), mget (mset l k v) j = if k = j then some v else mget l j
 | [], k, j, v => rfl
 | p :: r, k, j, v => by
  unfold mset
  by_cases h : p.1 = k
  ·rw [if_pos h]; unfold mget
   by_cases h2 : k = j
   ·rw [if_pos h2, if_pos h2]
   ·rw [if_neg h2, if_neg h2, if_neg (by rw [h]; exact h2)]
  ·rw [if_neg h]
   show (if p.1 = j then some p.2 else mget (mset r k v) j) = if k = j then some v else (if p.1 = j then some p.2 else mget r j)
   rw [mget_mset r k j v]
   by_cases h2 : p.1 = j
   ·rw [if_pos h2, if_pos h2, if_neg (by rw [← h2]; exact fun e => h e.symm)]
   ·rw [if_neg h2, if_neg h2]

def stampF : List EEntry → Nat
 | [] => 0
 | e :: r => if e.ts = 0 then 0 else stampF r + 1

theorem stampF_le : ∀ l : List EEntry, stampF l ≤ l.length
 | [] => Nat.le_refl _
 | e :: r => by
  have := stampF_le r
  unfold stampF; split <;> simp <;> omega

theorem stamp_loop (l : List EEntry) (hl : l.length ≤ bdM) (body : (Int → Option Int) → Int → Option Int) (h : ∀ rc (x : Int), body rc x = if (decide (x < (l.length : Int))) = true then (chk ((0 : Int) ≤ x ∧ x < (l.length : Int)) (if (((l.getD (x).toNat default).ts) == 0) = true then (some x) else (chk (inI (x + 1)) (rc (x + 1))))) else (some (l.length : Int))) : iter body FU 0 = some (stampF l : Int) := by
 refine (iter_up l.length (fun k => some ((k + stampF (l.drop k) : Nat) : Int)) hl fun rc k hk hrc => ?_).trans (by rw [Nat.zero_add, List.drop_zero])
 rw [h]
 by_cases hk' : k < l.length
 ·rw [if_pos (decide_eq_true (by omega)), chk_t (by omega), toNat_cast, drop_cons (d := default) hk']
  unfold stampF
  by_cases h0 : (l.getD k default).ts = 0
  ·rw [h0, if_pos (by rfl), if_pos rfl]; rfl
  ·rw [if_neg (by rw [beq_iff_eq]; exact h0), if_neg h0, chk_t (by unfold inI; unfold bdM at hl; omega), hrc hk']
   congr 2; omega
 ·rw [if_neg (by rw [decide_eq_false (by omega)]; decide), List.drop_eq_nil_of_le (by omega)]
  congr 2; unfold stampF; omega

theorem item_Stamped (l : List EEntry) (hl : l.length ≤ bdM) : F_item_Stamped l = some (stampF l : Int) := stamp_loop l hl _ fun rc x => rfl

def lastF (l : List EEntry) : Int := if stampF l = 0 then 0 else (l.getD (stampF l - 1) default).ts

theorem stampF_pos : ∀ (l : List EEntry) (k : Nat), k < stampF l → (l.getD k default).ts ≠ 0
 | [], k, h => by unfold stampF at h; omega
 | e :: r, 0, h => by
  unfold stampF at h
  split at h
  ·omega
  ·rename_i h1; exact h1
 | e :: r, k + 1, h => by
  unfold stampF at h
  split at h
  ·omega
  ·rw [List.getD_cons_succ]; exact stampF_pos r k (by omega)

end Go.Proofs.YtglfajjcgbfehaaGreat

namespace Go.Proofs.YtglfajjcgbfehaaGreat

-- lists that are right, place by place
structure rightK (L : List EEntry) (k : Nat) : Prop where
 chk : batchCheck (L.getD k default).batch = 0
 tw : ∀ j, j < k → tw (L.getD j default) (L.getD k default) = false
 fol : 0 < k → (L.getD k default).ts ≠ 0 → (L.getD (k - 1) default).ts ≠ 0 ∧ (L.getD (k - 1) default).ts < (L.getD k default).ts

def Rt (L : List EEntry) : Prop := ∀ k, k < L.length → rightK L k

theorem any_false {L : List EEntry} {k : Nat} (hk : k ≤ L.length) (f : EEntry → Bool) : (L.take k).any f = false ↔ ∀ j, j < k → f (L.getD j default) = false := by
 rw [List.any_eq_false]
 constructor
 ·intro h j hj
  have := h (L.getD j default) (by
   rw [getD_lt (by omega)]
   exact List.mem_take_iff_getElem.2 ⟨j, by omega, rfl⟩)
  simpa using this
 ·intro h x hx
  obtain ⟨j, hj, rfl⟩ := List.mem_take_iff_getElem.1 hx
  have := h j (by omega)
  rw [getD_lt (by omega)] at this
  rw [this]; decide

theorem follow_false {L : List EEntry} {k : Nat} (hk : k ≤ L.length) (e : EEntry) : follow (L.take k) e = false ↔ (0 < k → e.ts ≠ 0 → (L.getD (k - 1) default).ts ≠ 0 ∧ (L.getD (k - 1) default).ts < e.ts) := by
 rw [follow_at hk e, show ((k : Int) - 1).toNat = k - 1 by omega]
 simp only [Bool.and_eq_false_iff, decide_eq_false_iff_not, bne_eq_false_iff_eq, Bool.or_eq_false_iff, beq_eq_false_iff_ne]
 constructor
 ·rintro h h0 h1
  rcases h with h | h | ⟨h2, h3⟩
  ·omega
  ·exact absurd h h1
  ·exact ⟨h2, by omega⟩
 ·intro h
  by_cases h0 : 0 < k
  ·by_cases h1 : e.ts = 0
   ·exact .inr (.inl h1)
   ·obtain ⟨h2, h3⟩ := h h0 h1
    exact .inr (.inr ⟨h2, by omega⟩)
  ·exact .inl (by omega)

theorem Rt.ops {L : List EEntry} (h : Rt L) {e : EEntry} (he : e ∈ L) : batchCheck e.batch = 0 ∧ e.batch.ops.length ≤ 4 := by
 obtain ⟨j, hj, rfl⟩ := List.getElem_of_mem he
 have := (h j hj).chk
 rw [getD_lt hj] at this
 exact ⟨this, (batchCheck_ok this).2.2.2.2.1⟩

theorem Copy_eq (L : List EEntry) (hn : L.length ≤ 1000) (h4 : ∀ e ∈ L, e.batch.ops.length ≤ 1000) : F_ref17_Copy L = some L := by
 unfold F_ref17_Copy
 refine iter_rule (fun s : List EEntry × Int => L.length - s.2.toNat) (fun _ => some L) (fun s => 0 ≤ s.2 ∧ s.2 ≤ (L.length : Int) ∧ s.1 = L.take s.2.toNat) ?_ FU _ ⟨by simp, by simp, by simp⟩ (by unfold FU; simp only; omega)
 rintro rc ⟨o, i⟩ ⟨h1, h2, h3⟩ hrc
 simp only at h1 h2 h3 hrc
 obtain ⟨j, rfl⟩ := Int.eq_ofNat_of_zero_le h1
 rw [toNat_cast] at h3
 simp only [F_ref17_Copy_l1, toNat_cast] at *
 by_cases c : j < L.length
 ·have ho := h4 (L.getD j default) (by rw [getD_lt c]; exact List.getElem_mem c)
  have hol : o.length = j := by rw [h3, List.length_take]; omega
  rw [if_pos (decide_eq_true (by omega)), chk_t (by omega), chk_t (by omega), chk_t (by simp only [List.length_nil]; omega), chk_t (by simp only [List.length_cons, List.length_nil]; omega), chk_t (by unfold inI; omega)]
  refine hrc (_, (j : Int) + 1) ⟨by simp only; omega, by simp only; omega, ?_⟩ (by simp only [toNat_cast1]; omega)
  simp only [toNat_cast1]
  rw [take_snoc (d := default) c, h3]; rfl
 ·rw [if_neg (by rw [decide_eq_false (by omega)]; decide), h3, List.take_of_length_le (by omega)]

-- an entry at a place
def zeroT (e : EEntry) : EEntry := { e with ts := 0 }

def stampT (e : EEntry) (t : Int) : EEntry := { e with ts := t }

def putE (L : List EEntry) (n : Nat) (e : EEntry) : List EEntry :=
 if n < L.length ∧ tw (L.getD n default) e = true then (if (L.getD n default).ts = e.ts then L else L.take n ++ stampT (L.getD n default) e.ts :: (L.drop (n + 1)).map zeroT)
 else L.take n ++ [e]

structure canSet (L : List EEntry) (i : Int) (e : EEntry) : Prop where
 ge : 0 ≤ i
 le : i ≤ (L.length : Int)
 chk : batchCheck e.batch = 0
 lt : i < 100
 tw : ∀ j : Nat, (j : Int) < i → tw (L.getD j default) e = false
 fol : 0 < i → e.ts ≠ 0 → (L.getD (i - 1).toNat default).ts ≠ 0 ∧ (L.getD (i - 1).toNat default).ts < e.ts

def setC (L : List EEntry) (i : Int) (e : EEntry) : Int :=
 if i < 0 ∨ i > (L.length : Int) then 1 else if batchCheck e.batch ≠ 0 then batchCheck e.batch else if i ≥ 100 then 6
 else if (L.take i.toNat).any (fun x => tw x e) = true then 18 else if follow (L.take i.toNat) e = true then 18 else 0

theorem setC_ok {L : List EEntry} {i : Int} {e : EEntry} : setC L i e = 0 ↔ canSet L i e := by
 unfold setC
 constructor
 ·intro h
  split at h; · cases h
  rename_i c1
  split at h; · rename_i c2; exact absurd h c2
  rename_i c2
  split at h; · cases h
  rename_i c3
  split at h; · cases h
  rename_i c4
  split at h; · cases h
  rename_i c5
  have c4' := (any_false (L := L) (k := i.toNat) (by omega) (fun x => tw x e)).1 (by simpa using c4)
  have c5' := (follow_false (L := L) (k := i.toNat) (by omega) e).1 (by simpa using c5)
  refine ⟨by omega, by omega, by simpa using c2, by omega, fun j hj => c4' j (by omega), fun h0 h1 => ?_⟩
  have := c5' (by omega) h1
  rw [show (i - 1).toNat = i.toNat - 1 by omega]; exact this
 ·intro h
  obtain ⟨h1, h2, h3, h4, h5, h6⟩ := h
  rw [if_neg (by omega), if_neg (by rw [h3]; decide), if_neg (by omega), if_neg, if_neg]
  ·rw [(follow_false (L := L) (k := i.toNat) (by omega) e).2 fun h0 h1' => ?_]; · decide
   have := h6 (by omega) h1'
   rw [show (i - 1).toNat = i.toNat - 1 by omega] at this; exact this
  ·rw [(any_false (L := L) (k := i.toNat) (by omega) (fun x => tw x e)).2 fun j hj => h5 j (by omega)]; decide

-- elements of what is put
theorem put_get {L : List EEntry} {n : Nat} {e : EEntry} (hn : n ≤ L.length) (j : Nat) (hj : j < n) : (putE L n e).getD j default = L.getD j default := by
 unfold putE
 have hl : (L.take n).length = n := by rw [List.length_take]; omega
 split
 ·split
  ·rfl
  ·rw [getD_lt (by rw [List.length_append]; omega), List.getElem_append_left (by omega), List.getElem_take]; exact (getD_lt (by omega)).symm
 ·rw [getD_lt (by rw [List.length_append]; omega), List.getElem_append_left (by omega), List.getElem_take]; exact (getD_lt (by omega)).symm

theorem put_len {L : List EEntry} {n : Nat} {e : EEntry} (hn : n ≤ L.length) : n < (putE L n e).length ∧ (putE L n e).length ≤ max L.length (n + 1) := by
 unfold putE
 have hl : (L.take n).length = n := by rw [List.length_take]; omega
 split
 ·rename_i c
  split
  ·omega
  ·rw [List.length_append, List.length_cons, List.length_map, List.length_drop]; omega
 ·rw [List.length_append, List.length_cons, List.length_nil]; omega

theorem put_right {L : List EEntry} {i : Int} {e : EEntry} (hR : Rt L) (h : canSet L i e) : Rt (putE L i.toNat e) := by
 obtain ⟨h1, h2, h3, h4, h5, h6⟩ := h
 have hn : i.toNat ≤ L.length := by omega
 have hi : (i - 1).toNat = i.toNat - 1 := by omega
 rw [hi] at h6
 have hp := put_len (e := e) hn
 -- places ahead
 have ahead : ∀ k, k < i.toNat → rightK (putE L i.toNat e) k := fun k hk => by
  have q := hR k (by omega)
  refine ⟨?_, fun j hj => ?_, fun h0 => ?_⟩
  ·rw [put_get hn k hk]; exact q.chk
  ·rw [put_get hn k hk, put_get hn j (by omega)]; exact q.tw j hj
  ·rw [put_get hn k hk, put_get hn (k - 1) (by omega)]; exact q.fol h0
 intro k hk
 by_cases c : k < i.toNat
 ·exact ahead k c
 by_cases ct : i.toNat < L.length ∧ tw (L.getD i.toNat default) e = true
 ·by_cases cs : (L.getD i.toNat default).ts = e.ts
  ·have : putE L i.toNat e = L := by unfold putE; rw [if_pos ct, if_pos cs]
   rw [this] at hk ⊢; exact hR k hk
  ·have hl : (L.take i.toNat).length = i.toNat := by rw [List.length_take]; omega
   have ep : putE L i.toNat e = L.take i.toNat ++ stampT (L.getD i.toNat default) e.ts :: (L.drop (i.toNat + 1)).map zeroT := by unfold putE; rw [if_pos ct, if_neg cs]
   have e0 : (putE L i.toNat e).getD i.toNat default = stampT (L.getD i.toNat default) e.ts := by
    rw [ep, getD_lt (by rw [List.length_append, List.length_cons]; omega), List.getElem_append_right (by omega)]; simp [hl]
   have e1 : ∀ j, i.toNat < j → j < L.length → (putE L i.toNat e).getD j default = zeroT (L.getD j default) := fun j hj hj2 => by
    rw [ep, getD_lt (by rw [List.length_append, List.length_cons, List.length_map, List.length_drop]; omega), getD_lt hj2, List.getElem_append_right (by omega)]
    simp only [hl]
    obtain ⟨q, rfl⟩ : ∃ q, j = i.toNat + 1 + q := ⟨j - i.toNat - 1, by omega⟩
    simp only [show i.toNat + 1 + q - i.toNat = q + 1 by omega, List.getElem_cons_succ, List.getElem_map, List.getElem_drop]
   have hkl : k < L.length := by rw [ep, List.length_append, List.length_cons, List.length_map, List.length_drop] at hk; omega
   have hb : ∀ j, j < L.length → ((putE L i.toNat e).getD j default).batch = (L.getD j default).batch := fun j hj => by
    by_cases c1 : j < i.toNat
    ·rw [put_get hn j c1]
    ·by_cases c2 : j = i.toNat
     ·rw [c2, e0]; rfl
     ·rw [e1 j (by omega) hj]; rfl
   have q := hR k hkl
   refine ⟨by rw [hb k hkl]; exact q.chk, fun j hj => ?_, fun h0 ht => ?_⟩
   ·have := q.tw j hj
    unfold tw at this ⊢
    rw [hb k hkl, hb j (by omega)]; exact this
   ·by_cases c2 : k = i.toNat
    ·subst c2
     rw [e0] at ht ⊢
     rw [put_get hn _ (by omega)]
     exact h6 (by omega) ht
    ·rw [e1 k (by omega) hkl] at ht
     exact absurd rfl ht
 ·have hl : (L.take i.toNat).length = i.toNat := by rw [List.length_take]; omega
  have ep : putE L i.toNat e = L.take i.toNat ++ [e] := by unfold putE; rw [if_neg ct]
  have hkk : k = i.toNat := by rw [ep, List.length_append, List.length_cons, List.length_nil] at hk; omega
  subst hkk
  have e0 : (putE L i.toNat e).getD i.toNat default = e := by
   rw [ep, getD_lt (by rw [List.length_append, List.length_cons]; omega), List.getElem_append_right (by omega)]; simp [hl]
  refine ⟨by rw [e0]; exact h3, fun j hj => ?_, fun h0 ht => ?_⟩
  ·rw [e0, put_get hn j hj]; exact h5 j (by omega)
  ·rw [e0] at ht ⊢
   rw [put_get hn _ (by omega)]
   exact h6 (by omega) ht

end Go.Proofs.YtglfajjcgbfehaaGreat

namespace Go.Proofs.YtglfajjcgbfehaaGreat

theorem mget_mdel {α β : Type} [DecidableEq α] : ∀ {l : List (α × β)} {k : α} (j : α), (l.map Prod.fst).Nodup → mget (mdel l k) j = if k = j then none else mget l j
 | [], k, j, _ => by unfold mdel mget; split <;> rfl
 | p :: r, k, j, hn => by
  rw [List.map_cons, List.nodup_cons] at hn
  unfold mdel
  by_cases c : p.1 = k
  ·rw [if_pos c]
   by_cases e : k = j
   ·rw [if_pos e]
    exact mget_none fun q hq h => hn.1 (List.mem_map.2 ⟨q, hq, by rw [h, c, e]⟩)
   ·rw [if_neg e]
    show _ = mget (p :: r) j
    rw [mget, if_neg (by rw [c]; exact e)]
  ·rw [if_neg c, mget, mget_mdel j hn.2]
   by_cases e : k = j
   ·rw [if_pos e, if_pos e, if_neg (by rw [← e]; exact c)]
   ·rw [if_neg e, if_neg e, mget]

theorem mdel_nodup {α β : Type} [DecidableEq α] {l : List (α × β)} (k : α) (h : (l.map Prod.fst).Nodup) : ((mdel l k).map Prod.fst).Nodup := h.sublist ((mdel_sub k l).map Prod.fst)

def whoE (e : EEntry) : Erlog_who := ⟨e.batch.client, e.batch.req⟩

theorem tw_who (a b : EEntry) : tw a b = true ↔ whoE a = whoE b := by
 unfold tw whoE
 rw [Bool.and_eq_true, beq_iff_eq, beq_iff_eq, Erlog_who.mk.injEq]

def mapOk (m : List (Erlog_who × Int)) (L : List EEntry) : Prop := ∀ (w : Erlog_who) (k : Int), mget m w = some k ↔ ∃ j : Nat, j < L.length ∧ k = (j : Int) ∧ whoE (L.getD j default) = w

structure Rl (l : Erlog_Log) (L : List EEntry) : Prop where
 ll : l.l = L
 st : l.stamped = (stampF L : Int)
 m : ∃ m, l.at_ = some m ∧ (m.map Prod.fst).Nodup ∧ mapOk m L

theorem Rl.none {l : Erlog_Log} {L : List EEntry} (h : Rl l L) : F_rlog_Log_none l = some false := by
 obtain ⟨m, hm, _⟩ := h.m
 unfold F_rlog_Log_none; rw [hm]; rfl

theorem new_Rl : F_rlog_New = some ⟨[], some [], 0⟩ ∧ Rl ⟨[], some [], 0⟩ [] := ⟨rfl, rfl, rfl, [], rfl, List.nodup_nil, fun w k => ⟨fun h => (by cases h), fun ⟨j, h, _⟩ => (by cases h)⟩⟩

theorem Rt.who {L : List EEntry} (h : Rt L) {i j : Nat} (hi : i < L.length) (hj : j < L.length) (e : whoE (L.getD i default) = whoE (L.getD j default)) : i = j := by
 rcases Nat.lt_trichotomy i j with c | c | c
 ·have := (h j hj).tw i c
  rw [(tw_who _ _).2 e] at this; cases this
 ·exact c
 ·have := (h i hi).tw j c
  rw [(tw_who _ _).2 e.symm] at this; cases this

theorem Rt.inI {L : List EEntry} {e : EEntry} (h : batchCheck e.batch = 0) : inI e.batch.client ∧ inI e.batch.req := by
 obtain ⟨h1, h2, h3, h4, _⟩ := batchCheck_ok h
 unfold Go.Proofs.YtglfajjcgbfehaaGreat.inI; exact ⟨by omega, by omega⟩

theorem map_at {m : List (Erlog_who × Int)} {L : List EEntry} (h : mapOk m L) {i : Nat} (hi : i ≤ L.length) (e : EEntry) : (((mget m (whoE e)).isSome) && (decide (((mget m (whoE e)).getD 0) < (i : Int)))) = (L.take i).any (fun x => tw x e) := by
 cases hm : mget m (whoE e) with
 | none =>
  symm
  rw [Option.isSome_none, Bool.false_and, any_false hi]
  intro j hj
  cases t : tw (L.getD j default) e with
  | false => rfl
  | true =>
   have := (h (whoE e) (j : Int)).2 ⟨j, by omega, rfl, (tw_who _ _).1 t⟩
   rw [hm] at this; cases this
 | some k =>
  obtain ⟨j, h1, h2, h3⟩ := (h (whoE e) k).1 hm
  rw [Option.isSome_some, Bool.true_and, Option.getD_some]
  by_cases c : k < (i : Int)
  ·rw [decide_eq_true c]
   symm
   rw [List.any_eq_true]
   exact ⟨L.getD j default, by rw [getD_lt h1]; exact List.mem_take_iff_getElem.2 ⟨j, by omega, rfl⟩, (tw_who _ _).2 h3⟩
  ·rw [decide_eq_false c]
   symm
   rw [any_false hi]
   intro q hq
   cases t : tw (L.getD q default) e with
   | false => rfl
   | true =>
    have := (h (whoE e) (q : Int)).2 ⟨q, by omega, rfl, (tw_who _ _).1 t⟩
    rw [hm] at this; injection this with this; omega

section
variable {l : Erlog_Log} {L : List EEntry} (hR : Rt L) (h : Rl l L) (hl : L.length ≤ 1000)
include hR h hl
omit hR hl in
theorem may_ok (i : Int) (e : EEntry) : F_rlog_Log_may l i e = some (setC L i e, l) := by
 obtain ⟨hL, _, m, hm, hn, hk⟩ := h
 have heta : ({ l := L, at_ := some m, stamped := l.stamped } : Erlog_Log) = l := by rw [← hL, ← hm]
 unfold F_rlog_Log_may
 rw [hL, hm]
 by_cases c1 : i < 0 ∨ i > (L.length : Int)
 ·have : setC L i e = 1 := by unfold setC; rw [if_pos c1]
  rw [this, if_pos (by rw [Bool.or_eq_true, decide_eq_true_eq, decide_eq_true_eq]; exact c1)]
 rw [if_neg (by rw [Bool.or_eq_true, decide_eq_true_eq, decide_eq_true_eq]; exact c1), item_Check, Option.bind_some]
 by_cases c2 : batchCheck e.batch = 0
 ·rw [c2, if_neg (by decide)]
  by_cases c3 : i ≥ 100
  ·have : setC L i e = 6 := by unfold setC; rw [if_neg c1, if_neg (by rw [c2]; decide), if_pos c3]
   rw [this, if_pos (decide_eq_true c3)]
  rw [if_neg (by rw [decide_eq_false c3]; decide)]
  obtain ⟨n, rfl⟩ := Int.eq_ofNat_of_zero_le (show 0 ≤ i by omega)
  have hs : setC L (n : Int) e = if (L.take n).any (fun x => tw x e) = true then 18 else if follow (L.take n) e = true then 18 else 0 := by
   unfold setC; rw [if_neg c1, if_neg (by rw [c2]; decide), if_neg c3, toNat_cast]
  obtain ⟨i1, i2⟩ := Rt.inI (L := L) c2
  simp only [optE]
  unfold F_rlog_of
  rw [Option.bind_some, chk_t ⟨i1, i2⟩, show (((mget m ({ client := e.batch.client, req := e.batch.req } : Erlog_who)).isSome) && (decide (((mget m ({ client := e.batch.client, req := e.batch.req } : Erlog_who)).getD 0) < (n : Int)))) = (L.take n).any (fun x => tw x e) from map_at hk (by omega) e, hs]
  by_cases a : (L.take n).any (fun x => tw x e) = true
  ·rw [if_pos a, if_pos a, heta]
  rw [if_neg a, if_neg a]
  have hf' : (((e.ts != 0) && (decide ((n : Int) > 0))) && ((((L.getD ((n : Int) - 1).toNat default).ts) == 0) || (decide ((L.getD ((n : Int) - 1).toNat default).ts ≥ e.ts)))) = follow (L.take n) e := by
   rw [follow_at (by omega) e]; cases (e.ts != 0) <;> cases decide ((n : Int) > 0) <;> rfl
  have hpos : ∀ {b : Bool}, (((e.ts != 0) && (decide ((n : Int) > 0))) && b) = true → 0 < n := fun {b} h => by
   rw [Bool.and_eq_true, Bool.and_eq_true] at h
   have := of_decide_eq_true h.1.2; omega
  have hpos' : ((e.ts != 0) && (decide ((n : Int) > 0))) = true → 0 < n := fun h => by
   rw [Bool.and_eq_true] at h
   have := of_decide_eq_true h.2; omega
  rw [chk_t (fun h => by have := hpos' h; unfold Go.Proofs.YtglfajjcgbfehaaGreat.inI; omega), chk_t (fun h => by have := hpos' h; omega), chk_t (fun h => by have := hpos h; unfold Go.Proofs.YtglfajjcgbfehaaGreat.inI; omega), chk_t (fun h => by have := hpos h; omega), hf']
  by_cases f : follow (L.take n) e = true
  ·rw [if_pos f, if_pos f, heta]
  ·rw [if_neg f, if_neg f, heta]
 ·have : setC L i e = batchCheck e.batch := by unfold setC; rw [if_neg c1, if_pos c2]
  rw [this, if_pos (by rw [bne_iff_ne]; exact c2)]

theorem cut_ok {n : Nat} (hn : n ≤ L.length) : ∃ m', F_rlog_Log_cut l (n : Int) = some { l with l := L.take n, at_ := some m' } ∧ (m'.map Prod.fst).Nodup ∧ mapOk m' (L.take n) := by
 obtain ⟨hL, _, m, hm, hnd, hk⟩ := h
 unfold F_rlog_Log_cut
 rw [hL, chk_t (by omega), hm]
 have hd : ∀ x, (L.drop n).getD x default = L.getD (n + x) default := fun x => by simp [List.getD_eq_getElem?_getD]
 have loop : ∀ (N x : Nat) (mx : List (Erlog_who × Int)), x ≤ L.length - n → L.length - n - x < N → (mx.map Prod.fst).Nodup → (∀ (w : Erlog_who) (k : Int), mget mx w = some k ↔ ∃ j : Nat, j < L.length ∧ k = (j : Int) ∧ whoE (L.getD j default) = w ∧ ¬ (n ≤ j ∧ j < n + x)) →
   ∃ m', iter (F_rlog_Log_cut_l1 l (n : Int)) N ((x : Int), some mx) = some { l with l := L.take n, at_ := some m' } ∧ (m'.map Prod.fst).Nodup ∧ mapOk m' (L.take n) := by
  intro N
  induction N with
  | zero => intro x _ _ h; omega
  | succ N ih =>
   intro x mx hx hN hnx hkx
   show ∃ m', F_rlog_Log_cut_l1 l (n : Int) (iter (F_rlog_Log_cut_l1 l (n : Int)) N) ((x : Int), some mx) = _ ∧ _
   generalize e0 : iter (F_rlog_Log_cut_l1 l (n : Int)) N = rc
   unfold F_rlog_Log_cut_l1
   dsimp only
   rw [hL, toNat_cast, List.length_drop, toNat_cast, hd]
   by_cases c : x < L.length - n
   ·have hj : n + x < L.length := by omega
    obtain ⟨i1, i2⟩ := Rt.inI (L := L) (hR (n + x) hj).chk
    rw [if_pos (decide_eq_true (by omega)), chk_t (by omega)]
    simp only [optE]
    unfold F_rlog_of
    rw [Option.bind_some, chk_t ⟨i1, i2⟩, chk_t (by unfold Go.Proofs.YtglfajjcgbfehaaGreat.inI; omega), ← e0]
    refine ih (x + 1) _ (by omega) (by omega) (mdel_nodup _ hnx) fun w k => ?_
    show mget (mdel mx (whoE (L.getD (n + x) default))) w = some k ↔ _
    rw [mget_mdel w hnx]
    by_cases ew : whoE (L.getD (n + x) default) = w
    ·rw [if_pos ew]
     constructor
     ·intro h; cases h
     ·rintro ⟨j, j1, j2, j3, j4⟩
      have := hR.who hj j1 (ew.trans j3.symm)
      omega
    ·rw [if_neg ew, hkx]
     constructor
     ·rintro ⟨j, j1, j2, j3, j4⟩
      refine ⟨j, j1, j2, j3, fun hh => ?_⟩
      by_cases q : j = n + x
      ·subst q; exact ew j3
      ·omega
     ·rintro ⟨j, j1, j2, j3, j4⟩
      exact ⟨j, j1, j2, j3, by omega⟩
   ·rw [if_neg (by rw [decide_eq_false (by omega)]; decide), chk_t (by omega)]
    refine ⟨mx, rfl, hnx, fun w k => ?_⟩
    rw [hkx]
    have hlt : (L.take n).length = n := by rw [List.length_take]; omega
    have hg : ∀ j, j < n → (L.take n).getD j default = L.getD j default := fun j hj => by rw [getD_lt (by omega), getD_lt (by omega), List.getElem_take]
    constructor
    ·rintro ⟨j, j1, j2, j3, j4⟩
     exact ⟨j, by omega, j2, by rw [hg j (by omega)]; exact j3⟩
    ·rintro ⟨j, j1, j2, j3⟩
     rw [hlt] at j1
     rw [hg j j1] at j3
     exact ⟨j, by omega, j2, j3, by omega⟩
 refine loop FU 0 m (Nat.zero_le _) (by unfold FU; omega) hnd fun w k => ?_
 rw [hk w k]
 constructor
 ·rintro ⟨j, j1, j2, j3⟩; exact ⟨j, j1, j2, j3, by omega⟩
 ·rintro ⟨j, j1, j2, j3, _⟩; exact ⟨j, j1, j2, j3⟩

end
theorem who_put {L : List EEntry} {n : Nat} {e : EEntry} (hn : n < L.length) (ht : tw (L.getD n default) e = true) : (putE L n e).length = L.length ∧ ∀ j, j < L.length → whoE ((putE L n e).getD j default) = whoE (L.getD j default) := by
 unfold putE
 rw [if_pos ⟨hn, ht⟩]
 split
 ·exact ⟨rfl, fun _ _ => rfl⟩
 ·have hl : (L.take n).length = n := by rw [List.length_take]; omega
  have hlen : (L.take n ++ stampT (L.getD n default) e.ts :: (L.drop (n + 1)).map zeroT).length = L.length := by rw [List.length_append, List.length_cons, List.length_map, List.length_drop]; omega
  refine ⟨hlen, fun j hj => ?_⟩
  by_cases c1 : j < n
  ·rw [getD_lt (by omega), List.getElem_append_left (by omega), List.getElem_take, getD_lt hj]
  ·by_cases c2 : j = n
   ·subst c2
    rw [getD_lt (by omega), List.getElem_append_right (by omega)]; simp [hl]; rfl
   ·obtain ⟨q, rfl⟩ : ∃ q, j = n + 1 + q := ⟨j - n - 1, by omega⟩
    rw [getD_lt (by omega), List.getElem_append_right (by omega), getD_lt hj]
    simp only [hl, show n + 1 + q - n = q + 1 by omega, List.getElem_cons_succ, List.getElem_map, List.getElem_drop]
    rfl

theorem optE_some {α β : Type} (x : α) (a : Option β) (f : α → Option β) : optE (some x) a f = f x := rfl

def setT (e : EEntry) (n : Int) (c : Erlog_Log) : Option (Int × Erlog_Log) := (F_rlog_own e).bind fun o => (chk (((c.l.length + [o].length : Nat) : Int) * 48 ≤ 140737488355328) (optE c.at_ (none) (fun m_2 => (F_rlog_of e).bind fun o_2 => (chk (inI o_2.client ∧ inI o_2.req) (F_rlog_Log_Set_k1 ({ c with l := c.l ++ [o], at_ := some (mset m_2 o_2 n) } : Erlog_Log))))))

theorem prog_other {l : Erlog_Log} {L : List EEntry} (hR : Rt L) (h : Rl l L) (hl : L.length ≤ 1000) {n : Nat} {e : EEntry} (hn : n ≤ L.length) (hc : canSet L (n : Int) e) (ht : ¬ (n < L.length ∧ tw (L.getD n default) e = true)) :
  ∃ l', (F_rlog_Log_cut l (n : Int)).bind (setT e (n : Int)) = some (0, l') ∧ Rl l' (putE L n e) := by
 have hop := (batchCheck_ok hc.chk).2.2.2.2.1
 obtain ⟨m', e1, e2, e3⟩ := cut_ok hR h hl hn
 have hlt : (L.take n).length = n := by rw [List.length_take]; omega
 obtain ⟨i1, i2⟩ := Rt.inI (L := L) hc.chk
 have ep : putE L n e = L.take n ++ [e] := by unfold putE; rw [if_neg ht]
 rw [e1, Option.bind_some]
 unfold setT
 unfold F_rlog_own F_slices_Clone_api_Op_api_Op
 rw [chk_t (by simp only [List.length_nil]; omega)]
 rw [Option.bind_some, Option.bind_some]
 dsimp only
 rw [optE_some]
 rw [chk_t (by rw [hlt]; simp only [List.length_cons, List.length_nil]; omega)]
 unfold F_rlog_of F_rlog_Log_Set_k1
 rw [Option.bind_some, chk_t ⟨i1, i2⟩, item_Stamped _ (by rw [List.length_append, hlt]; simp only [List.length_cons, List.length_nil]; unfold bdM; omega), Option.bind_some]
 refine ⟨_, rfl, ep.symm, by rw [ep], _, rfl, mset_nodup _ _ e2, fun w k => ?_⟩
 rw [mget_mset, ep]
 have hg : ∀ j, j < n → (L.take n ++ [e]).getD j default = (L.take n).getD j default := fun j hj => by rw [getD_lt (by rw [List.length_append]; omega), getD_lt (by omega), List.getElem_append_left (by omega)]
 have hg2 : (L.take n ++ [e]).getD n default = e := by rw [getD_lt (by rw [List.length_append, List.length_cons]; omega), List.getElem_append_right (by omega)]; simp [hlt]
 have hll : (L.take n ++ [e]).length = n + 1 := by rw [List.length_append, hlt]; rfl
 rw [hll]
 by_cases ew : (⟨e.batch.client, e.batch.req⟩ : Erlog_who) = w
 ·rw [if_pos ew]
  constructor
  ·intro hh; injection hh with hh
   exact ⟨n, by omega, hh.symm, by rw [hg2]; exact ew⟩
  ·rintro ⟨j, j1, j2, j3⟩
   by_cases q : j = n
   ·rw [j2, q]
   ·rw [hg j (by omega), getD_lt (by omega), List.getElem_take, ← getD_lt (d := default) (by omega)] at j3
    have := hc.tw j (by omega)
    rw [(tw_who _ _).2 (j3.trans ew.symm)] at this; cases this
 ·rw [if_neg ew, e3 w k, hlt]
  constructor
  ·rintro ⟨j, j1, j2, j3⟩
   exact ⟨j, by omega, j2, by rw [hg j j1]; exact j3⟩
  ·rintro ⟨j, j1, j2, j3⟩
   by_cases q : j = n
   ·subst q; rw [hg2] at j3; exact absurd j3 ew
   ·rw [hg j (by omega)] at j3; exact ⟨j, by omega, j2, j3⟩

theorem prog_same {l : Erlog_Log} {L : List EEntry} (h : Rl l L) (hl : L.length ≤ 1000) {n : Nat} {e : EEntry} (g : n < L.length) (t : tw (L.getD n default) e = true) (s : ¬ (L.getD n default).ts = e.ts) :
  iter (F_rlog_Log_Set_l2 (n : Int) e (0, l)) FU (0, L.set n (stampT (L.getD n default) e.ts)) = some (0, (⟨putE L n e, l.at_, (stampF (putE L n e) : Int)⟩ : Erlog_Log)) := by
 obtain ⟨w1, w2⟩ := who_put g t
 have ep : putE L n e = L.take n ++ stampT (L.getD n default) e.ts :: (L.drop (n + 1)).map zeroT := by unfold putE; rw [if_pos ⟨g, t⟩, if_neg s]
 have hl2 : (L.take n).length = n := by rw [List.length_take]; omega
 refine iter_rule (fun s : Int × List EEntry => L.length - s.1.toNat) (fun _ => some (0, (⟨putE L n e, l.at_, (stampF (putE L n e) : Int)⟩ : Erlog_Log))) (fun s => 0 ≤ s.1 ∧ s.1 + n + 1 ≤ (L.length : Int) ∧ s.2.length = L.length ∧ ∀ j, j < L.length → s.2.getD j default = if j = n then stampT (L.getD n default) e.ts else if n < j ∧ (j : Int) < n + 1 + s.1 then zeroT (L.getD j default) else L.getD j default) ?_ FU _ ⟨by simp, by simp only; omega, by simp only [List.length_set], fun j hj => ?_⟩ (by unfold FU; simp only; omega)
 ·rintro rc ⟨x, mm⟩ ⟨h1, h2, h3, h4⟩ hrc
  simp only at h1 h2 h3 h4 hrc
  obtain ⟨q, rfl⟩ := Int.eq_ofNat_of_zero_le h1
  unfold F_rlog_Log_Set_l2
  dsimp only
  rw [h.ll, List.length_drop, List.length_set, show ((n : Int) + 1).toNat = n + 1 by omega]
  by_cases d : q < L.length - (n + 1)
  ·have ei : ((n : Int) + 1 + (q : Int)).toNat = n + 1 + q := by omega
   rw [if_pos (decide_eq_true (by omega)), chk_t (by unfold inI; omega), chk_t (by unfold inI; omega), chk_t (by omega), chk_t (by unfold inI; omega), ei]
   refine hrc ((q : Int) + 1, _) ⟨by simp only; omega, by simp only; omega, by simp only [List.length_set]; exact h3, fun j hj => ?_⟩ (by simp only [toNat_cast1, toNat_cast]; omega)
   simp only
   rw [getD_lt (by rw [List.length_set]; omega), List.getElem_set]
   by_cases e1 : n + 1 + q = j
   ·subst e1
    have hq := h4 (n + 1 + q) (by omega)
    rw [if_neg (by omega), if_neg (by omega)] at hq
    rw [if_pos rfl, if_neg (by omega), if_pos (by omega), hq]; rfl
   ·rw [if_neg e1, ← getD_lt (d := default) (by omega), h4 j hj]
    by_cases e3 : j = n
    ·rw [if_pos e3, if_pos e3]
    ·rw [if_neg e3, if_neg e3]
     by_cases e2 : n < j ∧ (j : Int) < (n : Int) + 1 + (q : Int)
     ·rw [if_pos e2, if_pos (by omega)]
     ·rw [if_neg e2, if_neg (by omega)]
  ·rw [if_neg (by rw [decide_eq_false (by omega)]; decide)]
   have e5 : mm = putE L n e := by
    rw [ep]
    refine List.ext_getElem (by rw [List.length_append, List.length_cons, List.length_map, List.length_drop]; omega) fun j h5 h6 => ?_
    rw [← getD_lt (d := default) h5, h4 j (by omega)]
    by_cases e1 : j = n
    ·subst e1
     rw [if_pos rfl, List.getElem_append_right (by omega)]; simp [hl2]
    ·rw [if_neg e1]
     by_cases e2 : n < j
     ·rw [if_pos (by omega), List.getElem_append_right (by omega), getD_lt (by omega)]
      simp only [hl2]
      obtain ⟨p, rfl⟩ : ∃ p, j = n + 1 + p := ⟨j - n - 1, by omega⟩
      simp only [show n + 1 + p - n = p + 1 by omega, List.getElem_cons_succ, List.getElem_map, List.getElem_drop]
     ·rw [if_neg (by omega), List.getElem_append_left (by omega), List.getElem_take, getD_lt (by omega)]
   unfold F_rlog_Log_Set_k1
   rw [e5, item_Stamped _ (by rw [w1]; unfold bdM; omega), Option.bind_some]
 ·simp only
  rw [getD_lt (by rw [List.length_set]; omega), List.getElem_set]
  by_cases e1 : n = j
  ·rw [if_pos e1, if_pos e1.symm]
  ·rw [if_neg e1, if_neg (fun hh => e1 hh.symm), if_neg (by omega), getD_lt hj]

theorem prog_Set {l : Erlog_Log} {L : List EEntry} (hR : Rt L) (h : Rl l L) (hl : L.length ≤ 1000) (i : Int) (e : EEntry) : ∃ l', F_rlog_Log_Set l i e = some (setC L i e, l') ∧ Rl l' (if setC L i e = 0 then putE L i.toNat e else L) := by
 unfold F_rlog_Log_Set
 rw [h.none, Option.bind_some, if_neg (by decide), may_ok h, Option.bind_some]
 by_cases c : setC L i e = 0
 ·have hc := setC_ok.1 c
  obtain ⟨n, rfl⟩ := Int.eq_ofNat_of_zero_le hc.ge
  have hn : n ≤ L.length := by have := hc.le; omega
  have hop := (batchCheck_ok hc.chk).2.2.2.2.1
  dsimp only
  rw [c, if_neg (by decide), if_pos rfl, h.ll, chk_t (fun hh => by have := of_decide_eq_true hh; omega), toNat_cast]
  obtain ⟨m, hm, hnd, hk⟩ := h.m
  by_cases g : n < L.length
  ·rw [decide_eq_true (show (n : Int) < (L.length : Int) by omega), gif_true, item_Twins, Option.bind_some, Bool.true_and]
   by_cases t : tw (L.getD n default) e = true
   ·obtain ⟨w1, w2⟩ := who_put g t
    have hmap : mapOk m (putE L n e) := fun w k => by
     rw [hk w k, w1]
     constructor
     ·rintro ⟨j, j1, j2, j3⟩; exact ⟨j, j1, j2, by rw [w2 j j1]; exact j3⟩
     ·rintro ⟨j, j1, j2, j3⟩; rw [w2 j j1] at j3; exact ⟨j, j1, j2, j3⟩
    rw [if_pos (by exact t), chk_t (by omega)]
    by_cases s : (L.getD n default).ts = e.ts
    ·have ep : putE L n e = L := by unfold putE; rw [if_pos ⟨g, t⟩, if_pos s]
     rw [if_neg (by rw [s, bne_self_eq_false]; decide)]
     unfold F_rlog_Log_Set_k1
     rw [item_Stamped _ (by rw [h.ll]; unfold bdM; omega), Option.bind_some]
     exact ⟨_, rfl, h.ll.trans ep.symm, by rw [h.ll, ep], m, hm, hnd, hmap⟩
    ·have ep : putE L n e = L.take n ++ stampT (L.getD n default) e.ts :: (L.drop (n + 1)).map zeroT := by unfold putE; rw [if_pos ⟨g, t⟩, if_neg s]
     rw [if_pos (bne_iff_ne.2 s), chk_t (by omega), chk_t (by unfold inI; omega), chk_t (by rw [List.length_set]; omega)]
     have e00 : ({ e with batch := ({ client := ((L.getD n default).batch).client, req := ((L.getD n default).batch).req, ops := ((L.getD n default).batch).ops } : EBatch) } : EEntry) = stampT (L.getD n default) e.ts := rfl
     rw [e00]
     exact ⟨_, prog_same h hl g t s, rfl, rfl, m, hm, hnd, hmap⟩
   ·rw [if_neg (by exact t)]
    exact prog_other hR h hl hn hc fun hh => t hh.2
  ·rw [decide_eq_false (show ¬ (n : Int) < (L.length : Int) by omega), gif_false, Option.bind_some, Bool.false_and, if_neg (by decide)]
   exact prog_other hR h hl hn hc fun hh => g hh.1
 ·dsimp only
  rw [if_pos (by rw [bne_iff_ne]; exact c), if_neg c]
  exact ⟨l, rfl, h⟩

end Go.Proofs.YtglfajjcgbfehaaGreat

namespace Go.Proofs.YtglfajjcgbfehaaGreat

/-- an entry's operations, less what is covered -/
def thinS : List EOp → List (ByteArray × Bool) → Int → List EOp × List (ByteArray × Bool) × Int
 | [], m, g => ([], m, g)
 | o :: r, m, g => if (mget m o.key).getD false = true then thinS r m (g + 1) else (o :: (thinS r (mset m o.key true) g).1, (thinS r (mset m o.key true) g).2)

theorem thinS_sub : ∀ (l : List EOp) (m : List (ByteArray × Bool)) (g : Int), (thinS l m g).1.Sublist l ∧ g ≤ (thinS l m g).2.2 ∧ (thinS l m g).2.2 ≤ g + l.length
 | [], m, g => ⟨List.Sublist.refl _, Int.le_refl _, by simp [thinS]⟩
 | o :: r, m, g => by
  unfold thinS
  by_cases c : (mget m o.key).getD false = true
  ·rw [if_pos c]
   obtain ⟨h1, h2, h3⟩ := thinS_sub r m (g + 1)
   exact ⟨h1.cons o, by omega, by rw [List.length_cons]; omega⟩
  ·rw [if_neg c]
   obtain ⟨h1, h2, h3⟩ := thinS_sub r (mset m o.key true) g
   exact ⟨h1.cons_cons o, h2, by rw [List.length_cons]; show (thinS r (mset m o.key true) g).2.2 ≤ _; omega⟩

theorem thin1_ok {o : EOp} {m : List (ByteArray × Bool)} {g : Int} (hk : o.key.size ≤ maxLen) (h0 : 0 ≤ g) (hg : g < 4611686018427387904) : F_rlog_Thin1 o m g = some (if (mget m o.key).getD false = true then (true, m, g + 1) else (false, mset m o.key true, g)) := by
 unfold F_rlog_Thin1
 rw [chk_t hk]
 by_cases c : (mget m o.key).getD false = true
 ·rw [if_pos c, if_pos c, chk_t (by unfold inI; omega)]
 ·rw [if_neg c, if_neg c, chk_t hk]

theorem thin_index {s : List EOp} (hk : ∀ o ∈ s, o.key.size ≤ maxLen) (hl : s.length ≤ 1000) : ∀ (N k : Nat) (m : List (ByteArray × Bool)) (g : Int), k ≤ s.length → s.length - k < N → 0 ≤ g → g + s.length < 4611686018427387904 →
  ∃ r, iter (F_thin_IndexFunc_l1 s) N ((k : Int), m, g) = some r ∧ ((r.1 = -1 ∧ thinS (s.drop k) m g = (s.drop k, r.2)) ∨ (∃ j : Nat, r.1 = (j : Int) ∧ k ≤ j ∧ j < s.length ∧ g ≤ r.2.2 ∧ r.2.2 ≤ g + 1 ∧ thinS (s.drop k) m g = ((s.drop k).take (j - k) ++ (thinS (s.drop (j + 1)) r.2.1 r.2.2).1, (thinS (s.drop (j + 1)) r.2.1 r.2.2).2)))
 | 0, k, _, _, _, h, _, _ => by omega
 | N + 1, k, m, g, h1, h2, h3, h4 => by
  show ∃ r, F_thin_IndexFunc_l1 s (iter (F_thin_IndexFunc_l1 s) N) ((k : Int), m, g) = some r ∧ _
  have hrec := thin_index hk hl N (k + 1)
  generalize iter (F_thin_IndexFunc_l1 s) N = rc at hrec ⊢
  unfold F_thin_IndexFunc_l1
  dsimp only
  by_cases c : k < s.length
  ·have ho : (s.getD k default).key.size ≤ maxLen := hk _ (by rw [getD_lt c]; exact List.getElem_mem _)
   rw [if_pos (decide_eq_true (by omega)), chk_t (by omega), toNat_cast, thin1_ok ho h3 (by omega), Option.bind_some, drop_cons (d := default) c]
   by_cases q : (mget m (s.getD k default).key).getD false = true
   ·rw [if_pos q]
    dsimp only
    rw [if_pos rfl]
    refine ⟨_, rfl, .inr ⟨k, rfl, Nat.le_refl _, c, by simp only; omega, by simp only; omega, ?_⟩⟩
    rw [thinS, if_pos q, Nat.sub_self]; rfl
   ·rw [if_neg q]
    dsimp only
    rw [if_neg (by decide), chk_t (by unfold inI; omega)]
    obtain ⟨r, e1, e2⟩ := hrec (mset m (s.getD k default).key true) g (by omega) (by omega) h3 h4
    refine ⟨r, e1, ?_⟩
    rw [thinS, if_neg q]
    rcases e2 with ⟨a1, a2⟩ | ⟨j, a1, a2, a3, a4, a5, a6⟩
    ·exact .inl ⟨a1, by rw [a2]⟩
    ·refine .inr ⟨j, a1, by omega, a3, a4, a5, ?_⟩
     rw [a6]
     obtain ⟨p, hp⟩ : ∃ p, j - k = p + 1 := ⟨j - k - 1, by omega⟩
     rw [hp, List.take_succ_cons, show p = j - (k + 1) by omega]; rfl
  ·rw [if_neg (by simp only [decide_eq_true_eq]; omega)]
   exact ⟨_, rfl, .inl ⟨rfl, by rw [List.drop_eq_nil_of_le (by omega)]; rfl⟩⟩

theorem thin_del_loop {s : List EOp} (hk : ∀ o ∈ s, o.key.size ≤ maxLen) (hl : s.length ≤ 1000) : ∀ (N i j : Nat) (S : List EOp) (m : List (ByteArray × Bool)) (g : Int), i < j → j ≤ s.length → s.length - j < N → S.length = s.length → S.drop j = s.drop j → 0 ≤ g → g + s.length < 4611686018427387904 + j →
  iter F_thin_DeleteFunc_l1 N (S, (i : Int), (j : Int), m, g) = some (S.take i ++ (thinS (s.drop j) m g).1, (thinS (s.drop j) m g).2)
 | 0, _, _, _, _, _, _, _, h, _, _, _, _ => by omega
 | N + 1, i, j, S, m, g, h1, h2, h3, h4, h5, h6, h7 => by
  show F_thin_DeleteFunc_l1 (iter F_thin_DeleteFunc_l1 N) (S, (i : Int), (j : Int), m, g) = _
  have hrec := thin_del_loop hk hl N
  generalize iter F_thin_DeleteFunc_l1 N = rc at hrec ⊢
  unfold F_thin_DeleteFunc_l1
  dsimp only
  by_cases c : j < s.length
  ·have e0 : S.getD j default = s.getD j default := by
    have := congrArg (fun l => l.getD 0 default) h5
    simpa [List.getD_eq_getElem?_getD] using this
   have ho : (s.getD j default).key.size ≤ maxLen := hk _ (by rw [getD_lt c]; exact List.getElem_mem _)
   have hd : S.drop (j + 1) = s.drop (j + 1) := by
    have := congrArg (fun l => l.drop 1) h5
    simpa [List.drop_drop] using this
   rw [if_pos (decide_eq_true (by omega)), chk_t (by omega), toNat_cast, e0, thin1_ok ho h6 (by omega), Option.bind_some, drop_cons (d := default) c]
   by_cases q : (mget m (s.getD j default).key).getD false = true
   ·rw [if_pos q]
    dsimp only
    rw [if_neg (by decide), F_thin_DeleteFunc_k2, chk_t (by unfold inI; omega), thinS, if_pos q]
    exact hrec i (j + 1) S m (g + 1) (by omega) (by omega) (by omega) h4 hd (by omega) (by omega)
   ·rw [if_neg q]
    dsimp only
    rw [if_pos (by decide), chk_t (by omega), chk_t (by unfold inI; omega), F_thin_DeleteFunc_k2, chk_t (by unfold inI; omega), toNat_cast, thinS, if_neg q]
    refine (hrec (i + 1) (j + 1) (S.set i (s.getD j default)) (mset m (s.getD j default).key true) g (by omega) (by omega) (by omega) (by rw [List.length_set]; exact h4) ?_ h6 (by omega)).trans ?_
    ·rw [List.drop_set_of_lt (by omega), hd]
    ·have : (S.set i (s.getD j default)).take (i + 1) = S.take i ++ [s.getD j default] := by
      rw [take_snoc (d := default) (by rw [List.length_set]; omega)]
      congr 1
      ·rw [List.take_set_of_le (Nat.le_refl _)]
      ·rw [getD_set_s (by omega)]
     rw [this, List.append_assoc]; rfl
  ·rw [if_neg (by simp only [decide_eq_true_eq]; omega), chk_t (by omega), toNat_cast, chk_t (by simp; omega), List.drop_eq_nil_of_le (by omega)]
   rw [List.take_append_of_le_length (by rw [List.length_take]; omega), List.take_take, Nat.min_self]
   simp [thinS]

theorem thin_del {s : List EOp} (hk : ∀ o ∈ s, o.key.size ≤ maxLen) (hl : s.length ≤ 1000) (m : List (ByteArray × Bool)) (g : Int) (h0 : 0 ≤ g) (hg : g + s.length < 4611686018427387904) : F_thin_DeleteFunc s m g = some (thinS s m g) := by
 unfold F_thin_DeleteFunc F_thin_IndexFunc
 obtain ⟨r, e1, e2⟩ := thin_index hk hl FU 0 m g (Nat.zero_le _) (by unfold FU; omega) h0 hg
 rw [show ((0 : Nat) : Int) = 0 from rfl] at e1
 rw [e1, Option.bind_some]
 rcases e2 with ⟨a1, a2⟩ | ⟨j, a1, a2, a3, a4, a5, a6⟩
 ·rw [if_pos (by rw [a1]; rfl)]
  rw [List.drop_zero] at a2
  rw [a2]
 ·rw [if_neg (by rw [a1, beq_iff_eq]; omega), a1, chk_t (by unfold inI; omega)]
  have := thin_del_loop hk hl FU j (j + 1) s r.2.1 r.2.2 (by omega) (by omega) (by unfold FU; omega) rfl rfl (by omega) (by omega)
  rw [show ((j + 1 : Nat) : Int) = (j : Int) + 1 from rfl] at this
  rw [this]
  rw [List.drop_zero, Nat.sub_zero] at a6
  rw [a6]

end Go.Proofs.YtglfajjcgbfehaaGreat

