/- Many versions: what operations come to over pairs; MvccState's plain law. -/
import Derived.Test.YtglfajjcgbfehaaYMLR
namespace Go.Proofs.Ytglfajjcgbfehaa
-- a set of keys
def addA (L : List ByteArray) : List Rw := L.foldl (fun r k => insR k [] r) []

theorem addA_snoc (L : List ByteArray) (k : ByteArray) : addA (L ++ [k]) = insR k [] (addA L) := by unfold addA; rw [List.foldl_append]; rfl

theorem ins_has {k : ByteArray} {v : List ECell} : ∀ {l : List Rw} {j : ByteArray}, j ∈ (insR k v l).map (·.k) ↔ j = k ∨ j ∈ l.map (·.k)
 | [], j => by rw [show insR k v [] = [⟨k, v⟩] from rfl]; simp
 | r :: l, j => by
  by_cases c : sltB r.k k = true
  ·rw [insR_t c, List.map_cons, List.mem_cons, ins_has, List.map_cons, List.mem_cons]
   constructor
   ·rintro (h | h | h)
    ·exact .inr (.inl h)
    ·exact .inl h
    ·exact .inr (.inr h)
   ·rintro (h | h | h)
    ·exact .inr (.inl h)
    ·exact .inl h
    ·exact .inr (.inr h)
  ·rw [insR_f c]
   by_cases q : seqB r.k k = true
   ·rw [if_pos q]
    simp only [List.map_cons, List.mem_cons]
    rw [← seqB_iff.1 q]
    constructor
    ·rintro (h | h)
     ·exact .inl h
     ·exact .inr (.inr h)
    ·rintro (h | h | h)
     ·exact .inl h
     ·exact .inl h
     ·exact .inr h
   ·rw [if_neg q, List.map_cons, List.mem_cons]

theorem addA_ok (L : List ByteArray) : Srt (addA L) ∧ (addA L).length ≤ L.length ∧ ∀ j, j ∈ (addA L).map (·.k) ↔ j ∈ L := by
 generalize hn : L.length = n
 induction n generalizing L with
 | zero =>
  obtain rfl := List.eq_nil_of_length_eq_zero hn
  exact ⟨List.Pairwise.nil, Nat.le_refl _, fun _ => Iff.rfl⟩
 | succ n ih =>
  have e : L = L.take n ++ [L.getD n default] := by rw [← take_snoc (by omega), List.take_of_length_le (by omega)]
  obtain ⟨h1, h3, h4⟩ := ih (L.take n) (by rw [List.length_take]; omega)
  rw [e, addA_snoc]
  refine ⟨ins_srt h1, by rw [ins_len]; split <;> omega, fun j => ?_⟩
  rw [ins_has, h4, List.mem_append, List.mem_singleton, or_comm]

theorem addA_len (L : List ByteArray) : (addA L).length ≤ L.length := (addA_ok L).2.1

theorem ins_keys {k : ByteArray} {v : List ECell} : ∀ {l : List Rw}, hasR k l = true → (insR k v l).map (·.k) = l.map (·.k)
 | [], h => by cases h
 | r :: l, h => by
  by_cases c : sltB r.k k = true
  ·rw [has_t c] at h
   rw [show insR k v (r :: l) = r :: insR k v l from if_pos c, List.map_cons, ins_keys h]; rfl
  ·rw [has_f c] at h
   rw [show insR k v (r :: l) = _ from if_neg c, if_pos h]; rfl

theorem keys_at {l : List Rw} {j : Nat} (h : j < l.length) : (l.map (·.k)).getD j default = (l.getD j default).k := by
 rw [getD_lt h, getD_lt (by rw [List.length_map]; exact h), List.getElem_map]

theorem Set_l3 {l : List ByteArray} {r : List Rw} {i : Nat} {rc : List ByteArray × Int → Option (List ByteArray)} {res : Option (List ByteArray)} (hi : i < l.length) (hl : l.length ≤ big) (hr : r.length ≤ l.length)
  (hrc : rc ((insR (l.getD i default) [] r).map (·.k), (i : Int) + 1) = res) : iter (F_ref05_Set_l3 l (r.map (·.k)) (i : Int) rc) FU 0 = res := by
 have hp := pos_le (k := l.getD i default) r
 unfold big at hl
 refine iter_up (posR (l.getD i default) r) (fun _ => res) (by unfold bdM; omega) fun rc2 j hj hrc2 => ?_
 simp only [F_ref05_Set_l3, toNat_cast, F_ref05_Set_k2, List.length_map]
 rw [chk_t (by intro hh; have := of_decide_eq_true hh; omega), chk_t (by intro hh; omega)]
 by_cases c : j < posR (l.getD i default) r
 ·have c2 : j < r.length := by omega
  rw [if_pos (by rw [decide_eq_true (by omega), keys_at c2, pos_lt r j c]; rfl), chk_t (by unfold inI; omega)]
  exact hrc2 c
 ·obtain rfl : j = posR (l.getD i default) r := by omega
  rw [if_neg (by
   by_cases c2 : posR (l.getD i default) r < r.length
   ·rw [keys_at c2, (pos_at r c2).1, Bool.and_false]; decide
   ·rw [decide_eq_false (by omega), Bool.false_and]; decide), chk_t (by intro hh; have := of_decide_eq_true hh; omega), chk_t (by intro hh; omega)]
  by_cases ch : hasR (l.getD i default) r = true
  ·have c2 := has_pos ch
   rw [if_pos (by rw [decide_eq_true (by omega), keys_at c2, ← (pos_at r c2).2, ch]; rfl), chk_t (by unfold inI; omega), ← hrc, ins_keys ch]
  ·have ch' : hasR (l.getD i default) r = false := by simpa using ch
   rw [if_neg (by
    by_cases c2 : posR (l.getD i default) r < r.length
    ·rw [keys_at c2, ← (pos_at r c2).2, ch', Bool.and_false]; decide
    ·rw [decide_eq_false (by omega), Bool.false_and]; decide), chk_t (by omega), chk_t (by omega), chk_t (by simp only [List.length_nil, List.length_take, List.length_map]; omega), chk_t (by omega),
    chk_t (by simp only [List.length_append, List.length_cons, List.length_nil, List.length_take, List.length_map]; omega), chk_t (by omega), chk_t (by simp only [List.length_append, List.length_cons, List.length_nil, List.length_take, List.length_drop, List.length_map]; omega), chk_t (by unfold inI; omega), ← hrc, ins_new r ch']
   simp only [List.nil_append, List.map_append, List.map_cons, List.map_take, List.map_drop, List.append_assoc, List.cons_append]

theorem Set_eq (l : List ByteArray) (hl : l.length ≤ big) : F_ref05_Set l = some ((addA l).map (·.k)) := by
 unfold F_ref05_Set
 have hl2 := hl
 unfold big at hl2
 refine (iter_rule (fun s : List ByteArray × Int => l.length - s.2.toNat) (fun _ => some ((addA l).map (·.k))) (fun s => 0 ≤ s.2 ∧ s.2 ≤ (l.length : Int) ∧ s.1 = (addA (l.take s.2.toNat)).map (·.k)) ?_ FU (([] : List ByteArray), (0 : Int)) ⟨by simp, by simp, by rfl⟩ (by unfold FU; simp only; omega))
 rintro rc ⟨o, i⟩ ⟨h1, h2, h3⟩ hrc
 simp only at h1 h2 h3 hrc
 obtain ⟨j, rfl⟩ := Int.eq_ofNat_of_zero_le h1
 rw [toNat_cast] at h3
 simp only [F_ref05_Set_l1]
 by_cases c : j < l.length
 ·rw [if_pos (decide_eq_true (by omega)), h3]
  have ha := addA_len (l.take j)
  rw [List.length_take] at ha
  refine Set_l3 c hl (by omega) ?_
  refine hrc (_, (j : Int) + 1) ⟨by simp only; omega, by simp only; omega, ?_⟩ (by simp only [toNat_cast1, toNat_cast]; omega)
  simp only [toNat_cast1]
  rw [take_snoc (d := default) c, addA_snoc]
 ·rw [if_neg (by rw [decide_eq_false (by omega)]; decide), h3, List.take_of_length_le (by omega)]

-- the last operation of a key
def lastO (k : ByteArray) (l : List EOp) : Option EOp := l.foldl (fun acc o => if seqB o.key k = true then some o else acc) none

theorem lastO_acc (k : ByteArray) : ∀ (l : List EOp) (a : Option EOp), l.foldl (fun acc o => if seqB o.key k = true then some o else acc) a = (lastO k l).or a
 | [], a => rfl
 | o :: l, a => by
  unfold lastO
  rw [List.foldl_cons, List.foldl_cons, lastO_acc k l, lastO_acc k l]
  by_cases c : seqB o.key k = true
  ·rw [if_pos c, if_pos c]; cases lastO k l <;> rfl
  ·rw [if_neg c, if_neg c]; cases lastO k l <;> rfl

theorem lastO_app (k : ByteArray) (a b : List EOp) : lastO k (a ++ b) = (lastO k b).or (lastO k a) := by
 rw [lastO, List.foldl_append, lastO_acc]; rfl

theorem lastO_cons (k : ByteArray) (o : EOp) (l : List EOp) : lastO k (o :: l) = (lastO k l).or (if seqB o.key k = true then some o else none) := by
 rw [lastO, List.foldl_cons, lastO_acc]

theorem lastO_key {k : ByteArray} : ∀ {l : List EOp} {o : EOp}, lastO k l = some o → o.key = k
 | [], _, h => by cases h
 | x :: l, o, h => by
  rw [lastO_cons] at h
  cases e : lastO k l with
  | some y => rw [e] at h; injection h with h; subst h; exact lastO_key e
  | none =>
   rw [e] at h
   by_cases c : seqB x.key k = true
   ·rw [if_pos c] at h; injection h with h; subst h; exact seqB_iff.1 c
   ·rw [if_neg c] at h; cases h

theorem lastO_mem {k : ByteArray} : ∀ {l : List EOp}, k ∈ l.map (·.key) ↔ (lastO k l).isSome = true
 | [] => by simp [lastO]
 | x :: l => by
  rw [List.map_cons, List.mem_cons, lastO_mem, lastO_cons]
  cases e : lastO k l with
  | some y => simp
  | none =>
   by_cases c : seqB x.key k = true
   ·rw [if_pos c]; simp [seqB_iff.1 c]
   ·rw [if_neg c]
    constructor
    ·rintro (h | h)
     ·exact absurd (seqB_iff.2 h.symm) c
     ·exact h
    ·intro h; exact .inr h

def lastP (k : ByteArray) (l : List EOp) : EOp := (lastO k l).getD default

theorem lastP_snoc {k : ByteArray} {l : List EOp} {o : EOp} : lastP k (l ++ [o]) = if seqB o.key k = true then o else lastP k l := by
 unfold lastP
 rw [lastO_app, lastO_cons]
 by_cases c : seqB o.key k = true
 ·rw [if_pos c, if_pos c]; rfl
 ·rw [if_neg c, if_neg c]; rfl

def normL (l : List EOp) : List EOp := ((addA (l.map (·.key))).map (·.k)).map fun k => lastP k l

theorem normL_len (l : List EOp) : (normL l).length ≤ l.length := by unfold normL; rw [List.length_map, List.length_map]; have := addA_len (l.map (·.key)); rw [List.length_map] at this; exact this

theorem Norm_l3 {l : List EOp} (hl : l.length ≤ big) {S : List ByteArray} {out : List EOp} {i : Nat} (hi : i < S.length) (ho : out.length ≤ big) (hS : S.length ≤ big) {rc2 : List EOp × Int → Option (List EOp)} {res : Option (List EOp)} (hrc : rc2 (out ++ [lastP (S.getD i default) l], (i : Int) + 1) = res) :
  iter (F_ref06_Norm_l3 l S out (i : Int) rc2) FU (0, ByteArray.empty, ByteArray.empty, false) = res := by
 unfold big at hl ho hS
 refine iter_rule (fun s : Int × ByteArray × ByteArray × Bool => l.length - s.1.toNat) (fun _ => res) (fun s => 0 ≤ s.1 ∧ s.1 ≤ (l.length : Int) ∧ (⟨s.2.1, s.2.2.1, s.2.2.2⟩ : EOp) = lastP (S.getD i default) (l.take s.1.toNat)) ?_ FU _ ⟨by simp, by simp, by rfl⟩ (by unfold FU; simp only; omega)
 rintro rc ⟨k, a, b, d⟩ ⟨h1, h2, h3⟩ hrc3
 simp only at h1 h2 h3 hrc3
 obtain ⟨j, rfl⟩ := Int.eq_ofNat_of_zero_le h1
 rw [toNat_cast] at h3
 unfold F_ref06_Norm_l3 F_ref06_Norm_k4
 dsimp only
 by_cases c : j < l.length
 ·have hs := lastP_snoc (k := S.getD i default) (l := l.take j) (o := l.getD j default)
  rw [← take_snoc c] at hs
  rw [if_pos (decide_eq_true (by omega)), chk_t (by omega), chk_t (by omega), toNat_cast, toNat_cast]
  by_cases q : seqB (l.getD j default).key (S.getD i default) = true
  ·rw [if_pos q] at hs
   rw [if_pos q, chk_t (by omega), chk_t (by unfold inI; omega)]
   exact hrc3 ((j : Int) + 1, _, _, _) ⟨by simp only; omega, by simp only; omega, by simp only [toNat_cast1]; rw [hs]⟩ (by simp only [toNat_cast1, toNat_cast]; omega)
  ·rw [if_neg q] at hs
   rw [if_neg q, chk_t (by unfold inI; omega)]
   exact hrc3 ((j : Int) + 1, _, _, _) ⟨by simp only; omega, by simp only; omega, by simp only [toNat_cast1]; rw [hs, h3]⟩ (by simp only [toNat_cast1, toNat_cast]; omega)
 ·rw [if_neg (by rw [decide_eq_false (by omega)]; decide), chk_t (by simp only [List.length_cons, List.length_nil]; omega), chk_t (by unfold inI; omega), ← hrc, h3, List.take_of_length_le (by omega)]

theorem Norm_eq (l : List EOp) (hl : l.length ≤ big) : F_ref06_Norm l = some (normL l) := by
 have hl2 := hl
 unfold big at hl2
 unfold F_ref06_Norm
 refine iter_rule (fun s : List ByteArray × Int => l.length - s.2.toNat) (fun _ => some (normL l)) (fun s => 0 ≤ s.2 ∧ s.2 ≤ (l.length : Int) ∧ s.1 = (l.take s.2.toNat).map (·.key)) ?_ FU _ ⟨by simp, by simp, by rfl⟩ (by unfold FU; simp only; omega)
 rintro rc ⟨o, i⟩ ⟨h1, h2, h3⟩ hrc
 simp only at h1 h2 h3 hrc
 obtain ⟨j, rfl⟩ := Int.eq_ofNat_of_zero_le h1
 rw [toNat_cast] at h3
 unfold F_ref06_Norm_l1
 dsimp only
 rw [toNat_cast]
 by_cases c : j < l.length
 ·rw [if_pos (decide_eq_true (by omega)), chk_t (by omega), chk_t (by rw [h3]; simp only [List.length_map, List.length_take, List.length_cons, List.length_nil]; omega), chk_t (by unfold inI; omega)]
  refine hrc (_, (j : Int) + 1) ⟨by simp only; omega, by simp only; omega, ?_⟩ (by simp only [toNat_cast1, toNat_cast]; omega)
  simp only [toNat_cast1]
  rw [take_snoc (d := default) c, h3, List.map_append]; rfl
 ·rw [if_neg (by rw [decide_eq_false (by omega)]; decide), h3, List.take_of_length_le (by omega), Set_eq _ (by rw [List.length_map]; exact hl), Option.bind_some]
  have hS : ((addA (l.map (·.key))).map (·.k)).length ≤ l.length := by rw [List.length_map]; have := addA_len (l.map (·.key)); rw [List.length_map] at this; exact this
  unfold normL
  generalize (addA (l.map (·.key))).map (·.k) = S at *
  refine iter_rule (fun s : List EOp × Int => S.length - s.2.toNat) (fun _ => some (S.map fun k => lastP k l)) (fun s => 0 ≤ s.2 ∧ s.2 ≤ (S.length : Int) ∧ s.1 = (S.take s.2.toNat).map fun k => lastP k l) ?_ FU _ ⟨by simp, by simp, by rfl⟩ (by unfold FU; simp only; omega)
  rintro rc ⟨o, i⟩ ⟨h1, h2, h3⟩ hrc
  simp only at h1 h2 h3 hrc
  obtain ⟨q, rfl⟩ := Int.eq_ofNat_of_zero_le h1
  rw [toNat_cast] at h3
  unfold F_ref06_Norm_l2
  dsimp only
  by_cases c2 : q < S.length
  ·rw [if_pos (decide_eq_true (by omega))]
   refine Norm_l3 hl c2 (by rw [h3, List.length_map, List.length_take]; unfold big; omega) (by unfold big; omega) ?_
   refine hrc (_, (q : Int) + 1) ⟨by simp only; omega, by simp only; omega, ?_⟩ (by simp only [toNat_cast1, toNat_cast]; omega)
   simp only [toNat_cast1]
   rw [take_snoc (d := default) c2, h3, List.map_append]; rfl
  ·rw [if_neg (by rw [decide_eq_false (by omega)]; decide), h3, List.take_of_length_le (by omega)]

def pairO (o : EOp) : Option EPair := if o.del = true then none else some ⟨o.key, o.val⟩

def opP (p : EPair) : EOp := ⟨p.key, p.val, false⟩

def overL (l : List EPair) (m : List EOp) : List EPair := (normL (l.map opP ++ m)).filterMap pairO

theorem Over_eq (l : List EPair) (m : List EOp) (hl : l.length + m.length ≤ big) : F_ref06_Over l m = some (overL l m) := by
 have hl2 := hl
 unfold big at hl2
 unfold F_ref06_Over
 refine iter_rule (fun s : List EOp × Int => l.length - s.2.toNat) (fun _ => some (overL l m)) (fun s => 0 ≤ s.2 ∧ s.2 ≤ (l.length : Int) ∧ s.1 = (l.take s.2.toNat).map opP) ?_ FU _ ⟨by simp, by simp, by rfl⟩ (by unfold FU; simp only; omega)
 rintro rc ⟨o, i⟩ ⟨h1, h2, h3⟩ hrc
 simp only at h1 h2 h3 hrc
 obtain ⟨j, rfl⟩ := Int.eq_ofNat_of_zero_le h1
 rw [toNat_cast] at h3
 unfold F_ref06_Over_l1
 dsimp only
 rw [toNat_cast]
 by_cases c : j < l.length
 ·rw [if_pos (decide_eq_true (by omega)), chk_t (by omega), chk_t (by omega), chk_t (by rw [h3]; simp only [List.length_map, List.length_take, List.length_cons, List.length_nil]; omega), chk_t (by unfold inI; omega)]
  refine hrc (_, (j : Int) + 1) ⟨by simp only; omega, by simp only; omega, ?_⟩ (by simp only [toNat_cast1, toNat_cast]; omega)
  simp only [toNat_cast1]
  rw [take_snoc (d := default) c, h3, List.map_append]; rfl
 ·rw [if_neg (by rw [decide_eq_false (by omega)]; decide), h3, List.take_of_length_le (by omega), chk_t (by rw [List.length_map]; omega), Norm_eq _ (by rw [List.length_append, List.length_map]; exact hl), Option.bind_some]
  have hS : (normL (l.map opP ++ m)).length ≤ l.length + m.length := by have := normL_len (l.map opP ++ m); rw [List.length_append, List.length_map] at this; exact this
  unfold overL
  generalize normL (l.map opP ++ m) = S at *
  refine iter_rule (fun s : List EPair × Int => S.length - s.2.toNat) (fun _ => some (S.filterMap pairO)) (fun s => 0 ≤ s.2 ∧ s.2 ≤ (S.length : Int) ∧ s.1 = (S.take s.2.toNat).filterMap pairO) ?_ FU _ ⟨by simp, by simp, by rfl⟩ (by unfold FU; simp only; omega)
  rintro rc ⟨o, i⟩ ⟨h1, h2, h3⟩ hrc
  simp only at h1 h2 h3 hrc
  obtain ⟨q, rfl⟩ := Int.eq_ofNat_of_zero_le h1
  rw [toNat_cast] at h3
  have hol : o.length ≤ q := by rw [h3]; exact Nat.le_trans (List.length_filterMap_le _ _) (by rw [List.length_take]; omega)
  unfold F_ref06_Over_l2 F_ref06_Over_k3
  dsimp only
  rw [toNat_cast]
  by_cases c2 : q < S.length
  ·have hs : (S.take (q + 1)).filterMap pairO = o ++ (pairO (S.getD q default)).toList := by
    rw [take_snoc (d := default) c2, h3, List.filterMap_append]; congr 1
   rw [if_pos (decide_eq_true (by omega)), chk_t (by omega)]
   by_cases d : (S.getD q default).del = true
   ·rw [show pairO (S.getD q default) = none from if_pos d] at hs
    rw [if_neg (by rw [d]; decide), chk_t (by unfold inI; omega)]
    refine hrc (_, (q : Int) + 1) ⟨by simp only; omega, by simp only; omega, ?_⟩ (by simp only [toNat_cast1, toNat_cast]; omega)
    simp only [toNat_cast1]; rw [hs]; simp
   ·rw [show pairO (S.getD q default) = some _ from if_neg d] at hs
    rw [if_pos (by simpa using d), chk_t (by omega), chk_t (by omega), chk_t (by simp only [List.length_cons, List.length_nil]; omega), chk_t (by unfold inI; omega)]
    refine hrc (_, (q : Int) + 1) ⟨by simp only; omega, by simp only; omega, ?_⟩ (by simp only [toNat_cast1, toNat_cast]; omega)
    simp only [toNat_cast1]; rw [hs]; rfl
  ·rw [if_neg (by rw [decide_eq_false (by omega)]; decide), h3, List.take_of_length_le (by omega)]

-- lists of pairs in order are told by what they have
def SrtP (l : List EPair) : Prop := l.Pairwise fun a b => sltB a.key b.key = true

theorem srtP_ext : ∀ {a b : List EPair}, SrtP a → SrtP b → (∀ x, x ∈ a ↔ x ∈ b) → a = b
 | [], [], _, _, _ => rfl
 | [], y :: b, _, _, h => by have := (h y).2 (by simp); cases this
 | x :: a, [], _, _, h => by have := (h x).1 (by simp); cases this
 | x :: a, y :: b, ha, hb, h => by
  obtain ⟨a1, a2⟩ := List.pairwise_cons.1 ha
  obtain ⟨b1, b2⟩ := List.pairwise_cons.1 hb
  have e : x = y := by
   rcases List.mem_cons.1 ((h x).1 (by simp)) with e | e
   ·exact e
   ·rcases List.mem_cons.1 ((h y).2 (by simp)) with e2 | e2
    ·exact e2.symm
    ·exact absurd (slt_trans (a1 y e2) (b1 x e)) (by rw [slt_irr]; decide)
  subst e
  rw [srtP_ext a2 b2 fun z => ?_]
  constructor
  ·intro hx
   rcases List.mem_cons.1 ((h z).1 (by simp [hx])) with rfl | hx2
   ·exact absurd (a1 z hx) (by rw [slt_irr]; decide)
   ·exact hx2
  ·intro hx
   rcases List.mem_cons.1 ((h z).2 (by simp [hx])) with rfl | hx2
   ·exact absurd (b1 z hx) (by rw [slt_irr]; decide)
   ·exact hx2

theorem vis_key {f to_ : ByteArray} {t : Int} {r : Rw} {p : EPair} (h : visR f to_ t r = some p) : p.key = r.k ∧ atL r.l t = (p.val, true) ∧ inR f to_ r.k = true := by
 unfold visR at h
 split at h
 ·rename_i c
  injection h with h; subst h
  rw [Bool.and_eq_true] at c
  exact ⟨rfl, Prod.ext rfl c.1, c.2⟩
 ·cases h

theorem view_srt {f to_ : ByteArray} {t : Int} : ∀ {rows : List Rw}, Srt rows → SrtP (viewR f to_ t rows)
 | [], _ => List.Pairwise.nil
 | r :: l, hs => by
  obtain ⟨h1, h2⟩ := List.pairwise_cons.1 hs
  unfold viewR
  rw [List.filterMap_cons]
  cases e : visR f to_ t r with
  | none => exact view_srt h2
  | some p =>
   refine List.pairwise_cons.2 ⟨fun y hy => ?_, view_srt h2⟩
   obtain ⟨z, z1, z2⟩ := List.mem_filterMap.1 hy
   rw [(vis_key e).1, (vis_key z2).1]; exact h1 z z1

theorem g_in {k : ByteArray} : ∀ {rows : List Rw}, gR k rows ≠ [] → ∃ r ∈ rows, r.k = k ∧ r.l = gR k rows
 | [], h => absurd rfl h
 | r :: l, h => by
  by_cases c : sltB r.k k = true
  ·rw [g_t c] at h ⊢
   obtain ⟨x, x1, x2⟩ := g_in h
   exact ⟨x, by simp [x1], x2⟩
  ·rw [g_f c] at h ⊢
   by_cases q : seqB r.k k = true
   ·rw [if_pos q]; exact ⟨r, by simp, seqB_iff.1 q, rfl⟩
   ·rw [if_neg q] at h; exact absurd rfl h

theorem in_all (k : ByteArray) : inR ⟨#[]⟩ ⟨#[]⟩ k = true := by
 have h := keys_all [⟨k, []⟩]
 unfold keysR at h
 cases e : inR ⟨#[]⟩ ⟨#[]⟩ k with
 | true => rfl
 | false =>
  rw [List.filter_cons_of_neg (by show ¬ inR ⟨#[]⟩ ⟨#[]⟩ k = true; rw [e]; decide)] at h
  cases h

theorem view_mem {t : Int} {rows : List Rw} (hs : Srt rows) {p : EPair} : p ∈ viewR ⟨#[]⟩ ⟨#[]⟩ t rows ↔ atL (gR p.key rows) t = (p.val, true) := by
 unfold viewR
 rw [List.mem_filterMap]
 constructor
 ·rintro ⟨r, h1, h2⟩
  obtain ⟨e1, e2, _⟩ := vis_key h2
  rw [e1, g_mem hs h1, e2]
 ·intro h
  have hne : gR p.key rows ≠ [] := fun e => by rw [e, at_nil] at h; exact Bool.noConfusion (congrArg Prod.snd h)
  obtain ⟨r, h1, h2, h3⟩ := g_in hne
  refine ⟨r, h1, ?_⟩
  unfold visR
  rw [h3, h, if_pos (by rw [in_all]; rfl), h2]

theorem norm_srt {l : List EOp} : (normL l).Pairwise fun a b => sltB a.key b.key = true := by
 unfold normL
 obtain ⟨h1, _, h3⟩ := addA_ok (l.map (·.key))
 rw [List.pairwise_map]
 have hk : ∀ k ∈ (addA (l.map (·.key))).map (·.k), (lastP k l).key = k := fun k hk => by
  have := lastO_mem.1 ((h3 k).1 hk)
  obtain ⟨o, ho⟩ := Option.isSome_iff_exists.1 this
  unfold lastP; rw [ho]; exact lastO_key ho
 refine List.Pairwise.imp_of_mem (R := fun a b => sltB a b = true) (fun ha hb h => ?_) ?_
 ·rw [hk _ ha, hk _ hb]; exact h
 ·rw [List.pairwise_map]; exact h1

theorem over_srt (l : List EPair) (m : List EOp) : SrtP (overL l m) := by
 unfold overL SrtP
 refine List.Pairwise.filterMap pairO (fun a a' h b hb b' hb' => ?_) norm_srt
 unfold pairO at hb hb'
 split at hb; · cases hb
 split at hb'; · cases hb'
 injection hb with hb; injection hb' with hb'; subst hb; subst hb'
 exact h

theorem over_mem {l : List EPair} {m : List EOp} {p : EPair} : p ∈ overL l m ↔ lastO p.key (l.map opP ++ m) = some ⟨p.key, p.val, false⟩ := by
 unfold overL normL
 generalize l.map opP ++ m = A
 obtain ⟨_, _, h3⟩ := addA_ok (A.map (·.key))
 rw [List.mem_filterMap]
 constructor
 ·rintro ⟨o, h1, h2⟩
  obtain ⟨k, k1, k2⟩ := List.mem_map.1 h1
  obtain ⟨x, hx⟩ := Option.isSome_iff_exists.1 (lastO_mem.1 ((h3 k).1 k1))
  have e : o = x := by rw [← k2]; unfold lastP; rw [hx]; rfl
  subst e
  have hk := lastO_key hx
  unfold pairO at h2
  split at h2; · cases h2
  rename_i hd
  injection h2 with h2; subst h2
  show lastO o.key A = some ⟨o.key, o.val, false⟩
  rw [hk, hx]
  have hd' : o.del = false := by simpa using hd
  congr 1
  cases o; simp only at hk hd' ⊢; rw [hk, hd']
 ·intro h
  refine ⟨⟨p.key, p.val, false⟩, List.mem_map.2 ⟨p.key, (h3 _).2 (lastO_mem.2 (by rw [h]; rfl)), by unfold lastP; rw [h]; rfl⟩, rfl⟩

theorem last_pairs {k : ByteArray} : ∀ {l : List EPair}, SrtP l → lastO k (l.map opP) = (l.find? fun p => seqB p.key k).map opP
 | [], _ => rfl
 | p :: l, hs => by
  obtain ⟨h1, h2⟩ := List.pairwise_cons.1 hs
  rw [List.map_cons, lastO_cons, last_pairs h2, List.find?_cons]
  by_cases c : seqB p.key k = true
  ·rw [show seqB (opP p).key k = true from c, if_pos rfl, c]
   have : l.find? (fun p => seqB p.key k) = none := by
    rw [List.find?_eq_none]
    intro x hx e
    have := h1 x hx
    rw [seqB_iff.1 c, seqB_iff.1 e, slt_irr] at this; cases this
   rw [this]; rfl
  ·rw [show seqB (opP p).key k = false from Bool.eq_false_iff.2 c, if_neg (by decide), show seqB p.key k = false from Bool.eq_false_iff.2 c]
   cases l.find? fun p => seqB p.key k <;> rfl

theorem last_view {t : Int} {rows : List Rw} (hs : Srt rows) (k : ByteArray) (v : ByteArray) : lastO k ((viewR ⟨#[]⟩ ⟨#[]⟩ t rows).map opP) = some ⟨k, v, false⟩ ↔ atL (gR k rows) t = (v, true) := by
 rw [last_pairs (view_srt hs)]
 constructor
 ·intro h
  obtain ⟨p, h1, h2⟩ := Option.map_eq_some_iff.1 h
  have h3 := List.mem_of_find?_eq_some h1
  have h4 := seqB_iff.1 (List.find?_some (p := fun p : EPair => seqB p.key k) h1)
  have := (view_mem hs).1 h3
  unfold opP at h2
  injection h2 with e1 e2 _
  rw [← e1, this, e2]
 ·intro h
  have h3 : (⟨k, v⟩ : EPair) ∈ viewR ⟨#[]⟩ ⟨#[]⟩ t rows := (view_mem hs).2 h
  cases e : (viewR ⟨#[]⟩ ⟨#[]⟩ t rows).find? fun p => seqB p.key k with
  | none => exact absurd (seqB_iff.2 rfl) (List.find?_eq_none.1 e _ h3)
  | some p =>
   have h4 := (view_mem hs).1 (List.mem_of_find?_eq_some e)
   have h5 := seqB_iff.1 (List.find?_some (p := fun p : EPair => seqB p.key k) e)
   rw [h5, h] at h4
   injection h4 with h4 _
   rw [Option.map_some]; unfold opP; rw [h5, h4]

-- a put at a time that is looked at
theorem at_put {t last ts : Int} (h0 : 0 ≤ last) (ht : last < ts) (h1 : ts ≤ t) (k : ByteArray) : ∀ (l : List EOp) (a : Option ByteArray) (rows : List Rw), halfOk last ts a rows → KeysUp a l → atL (gR k (putR ts l rows)) t = match lastO k l with | some o => (if o.del = true then (⟨#[]⟩, false) else (o.val, true)) | none => atL (gR k rows) t
 | [], _, rows, _, _ => rfl
 | o :: l, a, rows, h, hk => by
  obtain ⟨k1, k2, k3⟩ := hk
  rw [show putR ts (o :: l) rows = putR ts l (layR ts o rows) from rfl, at_put h0 ht h1 k l (some o.key) _ (half_lay h h0 ht k1 k2).2 k3, lastO_cons]
  cases e : lastO k l with
  | some x => rfl
  | none =>
   rw [Option.none_or]
   dsimp only
   unfold layR
   by_cases q : seqB o.key k = true
   ·rw [if_pos q]
    dsimp only
    rw [← seqB_iff.1 q, ins_g_same, at_snoc (h.g o.key k2) h0 ht, if_pos (by exact h1)]
   ·rw [if_neg q, ins_g_other (by simpa using q)]

theorem put_srt {ts : Int} : ∀ (l : List EOp) (rows : List Rw), Srt rows → Srt (putR ts l rows)
 | [], _, h => h
 | o :: l, rows, h => put_srt l _ (ins_srt h)

theorem put_over {t last ts : Int} (h0 : 0 ≤ last) (ht : last < ts) (h1 : ts ≤ t) {l : List EOp} {rows : List Rw} (h : halfOk last ts none rows) (hs : Srt rows) (hk : KeysUp none l) : viewR ⟨#[]⟩ ⟨#[]⟩ t (putR ts l rows) = overL (viewR ⟨#[]⟩ ⟨#[]⟩ t rows) l := by
 refine srtP_ext (view_srt (put_srt l rows hs)) (over_srt _ _) fun p => ?_
 rw [view_mem (put_srt l rows hs), over_mem, at_put h0 ht h1 p.key l none rows h hk, lastO_app]
 cases e : lastO p.key l with
 | some o =>
  rw [Option.some_or]
  dsimp only
  have hkey := lastO_key e
  constructor
  ·intro h2
   split at h2
   ·exact Bool.noConfusion (congrArg Prod.snd h2)
   ·rename_i d
    injection h2 with h2 _
    have d' : o.del = false := by simpa using d
    congr 1
    cases o; simp only at hkey d' h2 ⊢; rw [hkey, d', h2]
  ·intro h2
   injection h2 with h2
   subst h2
   rfl
 | none =>
  rw [Option.none_or]
  exact (last_view hs p.key p.val).symm

end Go.Proofs.Ytglfajjcgbfehaa
