/- Adopting: what the program's and the document's come to. -/
import Derived.Test.YtmdoimpeacndaaaYAdR
namespace Go.Proofs.Ytmdoimpeacndaaa

def oneS (own : List EEntry) (i : Int) (e : EEntry) : EEntry :=
 if 0 ≤ i ∧ i < (own.length : Int) ∧ tw (own.getD i.toNat default) e = true then (if e.ts ≠ 0 then stampT (own.getD i.toNat default) e.ts else own.getD i.toNat default) else e

theorem one_gen {own : List EEntry} {i : Int} {e : EEntry} (F : Option EEntry) (T : EEntry → EEntry → Option Bool) (hT : ∀ a b, T a b = some (tw a b)) (K : Int → Option EEntry) (hK : ∀ t, K t = some (stampT (own.getD i.toNat default) t))
  (hF : F = chk ((!((decide (i < 0)) || (decide (i ≥ (own.length : Int))))) = true → (0 : Int) ≤ i ∧ i < (own.length : Int)) ((gif (!((decide (i < 0)) || (decide (i ≥ (own.length : Int))))) (T (own.getD i.toNat default) e) default).bind fun t => (if (((decide (i < 0)) || (decide (i ≥ (own.length : Int)))) || (!t)) = true then (some e) else (chk ((0 : Int) ≤ i ∧ i < (own.length : Int)) (if (e.ts != 0) = true then (K e.ts) else (K ((own.getD i.toNat default).ts))))))) : F = some (oneS own i e) := by
 rw [hF]
 by_cases c : 0 ≤ i ∧ i < (own.length : Int)
 ·have e1 : (decide (i < 0) || decide (i ≥ (own.length : Int))) = false := by rw [decide_eq_false (by omega), decide_eq_false (by omega)]; rfl
  rw [e1, chk_t (fun _ => c), show (!false) = true from rfl, gif_true, hT, Option.bind_some, Bool.false_or]
  by_cases t : tw (own.getD i.toNat default) e = true
  ·have eR : oneS own i e = if e.ts ≠ 0 then stampT (own.getD i.toNat default) e.ts else own.getD i.toNat default := by unfold oneS; exact if_pos ⟨c.1, c.2, t⟩
   rw [t, if_neg (by decide), chk_t c, eR]
   by_cases z : e.ts = 0
   ·rw [if_neg (by rw [z]; decide), if_neg (show ¬ e.ts ≠ 0 by rw [z]; decide), hK]; rfl
   ·rw [if_pos (bne_iff_ne.2 z), if_pos z, hK]
  ·have eR : oneS own i e = e := by unfold oneS; exact if_neg fun h => t h.2.2
   rw [if_pos (by simpa using t), eR]
 ·have e1 : (decide (i < 0) || decide (i ≥ (own.length : Int))) = true := by rw [Bool.or_eq_true, decide_eq_true_eq, decide_eq_true_eq]; omega
  have eR : oneS own i e = e := by unfold oneS; exact if_neg fun h => c ⟨h.1, h.2.1⟩
  rw [e1, chk_t (fun h => by cases h), show (!true) = false from rfl, gif_false, Option.bind_some, if_pos (by rfl), eR]

theorem adopt_One (own : List EEntry) (i : Int) (e : EEntry) : F_adopt_One own i e = some (oneS own i e) := one_gen _ F_item_Twins item_Twins (F_adopt_One_k1 own i) (fun _ => rfl) rfl

-- an entry is laid
def noteE (n : Nat) (e : EEntry) : ENote := { (default : ENote) with k := 2, n := (n : Int), entry := e }

def here (L : List EEntry) (n : Nat) (e : EEntry) : Prop := n < L.length ∧ tw (L.getD n default) e = true ∧ (L.getD n default).ts = e.ts

instance (L : List EEntry) (n : Nat) (e : EEntry) : Decidable (here L n e) := by unfold here; infer_instance

/-- all that is noted, how many are good, and the log then -/
def runT : List EEntry → Nat → List EEntry → List EEntry × List ENote × Nat
 | L, n, [] => (L, [], n)
 | L, n, e :: r => if here L n (oneS L n e) then runT L (n + 1) r
  else if setC L n (oneS L n e) = 0 then ((runT (putE L n (oneS L n e)) (n + 1) r).1, noteE n (oneS L n e) :: (runT (putE L n (oneS L n e)) (n + 1) r).2.1, (runT (putE L n (oneS L n e)) (n + 1) r).2.2)
  else (L, [], n)

theorem runT_here {L : List EEntry} {n : Nat} {e : EEntry} {r : List EEntry} (h : here L n (oneS L n e)) : runT L n (e :: r) = runT L (n + 1) r := if_pos h

theorem runT_put {L : List EEntry} {n : Nat} {e : EEntry} {r : List EEntry} (h : ¬ here L n (oneS L n e)) (h2 : setC L n (oneS L n e) = 0) : runT L n (e :: r) = ((runT (putE L n (oneS L n e)) (n + 1) r).1, noteE n (oneS L n e) :: (runT (putE L n (oneS L n e)) (n + 1) r).2.1, (runT (putE L n (oneS L n e)) (n + 1) r).2.2) := (if_neg h).trans (if_pos h2)

theorem runT_stop {L : List EEntry} {n : Nat} {e : EEntry} {r : List EEntry} (h : ¬ here L n (oneS L n e)) (h2 : ¬ setC L n (oneS L n e) = 0) : runT L n (e :: r) = (L, [], n) := (if_neg h).trans (if_neg h2)

theorem runT_len : ∀ (l L : List EEntry) (n : Nat), (runT L n l).2.1.length ≤ l.length ∧ n ≤ (runT L n l).2.2 ∧ (runT L n l).2.2 ≤ n + l.length
 | [], L, n => ⟨Nat.le_refl _, Nat.le_refl _, Nat.le_refl _⟩
 | e :: r, L, n => by
  rw [List.length_cons]
  by_cases h : here L n (oneS L n e)
  ·rw [runT_here h]; have := runT_len r L (n + 1); omega
  ·by_cases h2 : setC L n (oneS L n e) = 0
   ·rw [runT_put h h2]
    have := runT_len r (putE L n (oneS L n e)) (n + 1)
    simp only [List.length_cons]; omega
   ·rw [runT_stop h h2]; simp only [List.length_nil]; omega

theorem one_at {L : List EEntry} {n : Nat} {e : EEntry} : oneS [L.getD n default] 0 e = if tw (L.getD n default) e = true then (if e.ts ≠ 0 then stampT (L.getD n default) e.ts else L.getD n default) else e := by
 unfold oneS
 have : ([L.getD n default].getD (0 : Int).toNat default) = L.getD n default := rfl
 rw [this]
 by_cases t : tw (L.getD n default) e = true
 ·rw [if_pos t, if_pos ⟨Int.le_refl _, by simp, t⟩]
 ·rw [if_neg t, if_neg fun h => t h.2.2]

theorem lay_ok {l : Erlog_Log} {L : List EEntry} (hR : Rt L) (h : Rl l L) (hl : L.length ≤ 1000) (n : Nat) (e : EEntry) :
  ∃ l', F_adopt_lay l (n : Int) e = some (if here L n (oneS L n e) then ([], true, l) else if setC L n (oneS L n e) = 0 then ([noteE n (oneS L n e)], true, l') else ([], false, l')) ∧ Rl l' (if setC L n (oneS L n e) = 0 then putE L n (oneS L n e) else L) := by
 obtain ⟨l', e1, e2⟩ := prog_Set hR h hl (n : Int) (oneS L n e)
 rw [toNat_cast] at e2
 refine ⟨l', ?_, e2⟩
 unfold F_adopt_lay
 rw [at_ok' hR h, Option.bind_some]
 have k1 : ∀ (a : EEntry × Bool), (a.2 = true → n < L.length ∧ a.1 = L.getD n default) → (a.2 = false → ¬ n < L.length) → F_adopt_lay_k1 l (n : Int) a (oneS L n e) = some (if here L n (oneS L n e) then ([], true, l) else if setC L n (oneS L n e) = 0 then ([noteE n (oneS L n e)], true, l') else ([], false, l')) := fun a ha hb => by
  have set : (F_rlog_Log_Set l (n : Int) (oneS L n e)).bind (fun s0 => (if (s0.1 != 0) = true then (some (([] : List ENote), false, s0.2)) else (some ([({ (default : ENote) with k := 2, n := (n : Int), entry := oneS L n e } : ENote)], true, s0.2)))) = some (if setC L n (oneS L n e) = 0 then ([noteE n (oneS L n e)], true, l') else ([], false, l')) := by
   rw [e1, Option.bind_some]
   dsimp only
   by_cases c : setC L n (oneS L n e) = 0
   ·rw [if_neg (by rw [c]; decide), if_pos c]; rfl
   ·rw [if_pos (bne_iff_ne.2 c), if_neg c]
  unfold F_adopt_lay_k1
  obtain ⟨x, b⟩ := a
  cases b with
  | true =>
   obtain ⟨h1, h2⟩ := ha rfl
   simp only at h2
   subst h2
   rw [gif_true, item_Twins, Option.bind_some]
   dsimp only
   by_cases c : here L n (oneS L n e)
   ·rw [if_pos (by rw [c.2.1, c.2.2]; simp), if_pos c]
   ·rw [if_neg (c := here L n (oneS L n e)) c, if_neg (fun hh => by
     simp only [Bool.and_eq_true, beq_iff_eq] at hh
     exact c ⟨h1, hh.1.2, hh.2⟩)]
    exact set
  | false =>
   have h1 := hb rfl
   rw [gif_false, Option.bind_some]
   dsimp only
   rw [if_neg (by simp), if_neg (fun c : here L n (oneS L n e) => h1 c.1)]
   exact set
 by_cases c : n < L.length
 ·rw [if_pos (show (0 : Int) ≤ (n : Int) ∧ (n : Int) < (L.length : Int) from ⟨by omega, by omega⟩)]
  dsimp only
  rw [if_pos rfl, toNat_cast, adopt_One, Option.bind_some, one_at]
  have e3 : oneS L n e = if tw (L.getD n default) e = true then (if e.ts ≠ 0 then stampT (L.getD n default) e.ts else L.getD n default) else e := by
   unfold oneS
   rw [toNat_cast]
   by_cases t : tw (L.getD n default) e = true
   ·rw [if_pos t, if_pos ⟨by omega, by omega, t⟩]
   ·rw [if_neg t, if_neg fun h => t h.2.2]
  rw [← e3]
  exact k1 _ (fun _ => ⟨c, rfl⟩) (fun h => by cases h)
 ·rw [if_neg (show ¬ ((0 : Int) ≤ (n : Int) ∧ (n : Int) < (L.length : Int)) by omega)]
  dsimp only
  rw [if_neg (by decide)]
  have e3 : oneS L n e = e := by unfold oneS; rw [if_neg (by omega)]
  have := k1 (default, false) (fun h => by cases h) (fun _ => c)
  rw [e3] at this ⊢
  exact this

-- all entries of a log that is right are laid, one by one
theorem log_loop {own : List EEntry} (hR : Rt own) (hn : own.length ≤ 100) : ∀ (N k : Nat) (l : Erlog_Log), k ≤ own.length → own.length - k < N → Rl l (own.take k) → ∃ l', iter (F_adopt_log_l1 own) N ((k : Int), l) = some (some l', true) ∧ Rl l' own
 | 0, _, _, _, h, _ => by omega
 | N + 1, k, l, hk, hN, h => by
  show ∃ l', F_adopt_log_l1 own (iter (F_adopt_log_l1 own) N) ((k : Int), l) = _ ∧ _
  generalize e0 : iter (F_adopt_log_l1 own) N = rc
  unfold F_adopt_log_l1
  dsimp only
  rw [toNat_cast]
  by_cases c : k < own.length
  ·have hlt : (own.take k).length = k := by rw [List.length_take]; omega
   have hg : ∀ j, j < k → (own.take k).getD j default = own.getD j default := fun j hj => by rw [getD_lt (by omega), getD_lt (by omega), List.getElem_take]
   have hRk : Rt (own.take k) := fun j hj => by
    have q := hR j (by omega)
    refine ⟨by rw [hg j (by omega)]; exact q.chk, fun i hi => ?_, fun h0 => ?_⟩
    ·rw [hg j (by omega), hg i (by omega)]; exact q.tw i hi
    ·rw [hg j (by omega), hg (j - 1) (by omega)]; exact q.fol h0
   have q := hR k c
   have hs : canSet (own.take k) (k : Int) (own.getD k default) := by
    refine ⟨by omega, by omega, q.chk, by omega, fun j hj => ?_, fun h0 h1 => ?_⟩
    ·rw [hg j (by omega)]; exact q.tw j (by omega)
    ·rw [show ((k : Int) - 1).toNat = k - 1 by omega, hg (k - 1) (by omega)]; exact q.fol (by omega) h1
   obtain ⟨l', e1, e2⟩ := prog_Set hRk h (by omega) (k : Int) (own.getD k default)
   rw [setC_ok.2 hs, if_pos rfl, toNat_cast] at e2
   rw [setC_ok.2 hs] at e1
   have ep : putE (own.take k) k (own.getD k default) = own.take (k + 1) := by
    unfold putE
    rw [if_neg (by omega), List.take_take, Nat.min_self, take_snoc (d := default) c]
   rw [ep] at e2
   rw [if_pos (decide_eq_true (by omega)), chk_t (by omega)]
   show ∃ l', (F_rlog_Log_Set l (k : Int) (own.getD k default)).bind _ = _ ∧ _
   rw [e1, Option.bind_some]
   dsimp only
   rw [if_neg (by decide), chk_t (by unfold inI; omega), ← e0]
   exact log_loop hR hn N (k + 1) l' (by omega) (by omega) e2
  ·rw [if_neg (by rw [decide_eq_false (by omega)]; decide)]
   rw [List.take_of_length_le (by omega)] at h
   exact ⟨l, rfl, h⟩

theorem log_ok (own : List EEntry) (hn : own.length ≤ 100) : (rightL own ≠ 0 ∧ F_adopt_log own = some (none, false)) ∨ (rightL own = 0 ∧ ∃ l, F_adopt_log own = some (some l, true) ∧ Rl l own) := by
 unfold F_adopt_log
 rw [item_Right own (by unfold bdM; omega), Option.bind_some]
 by_cases c : rightL own = 0
 ·right
  rw [c, if_neg (by decide), new_Rl.1, Option.bind_some]
  obtain ⟨l', e1, e2⟩ := log_loop ((right_iff own).1 c) hn FU 0 _ (Nat.zero_le _) (by unfold FU; omega) new_Rl.2
  exact ⟨rfl, l', e1, e2⟩
 ·left
  exact ⟨c, by rw [if_pos (bne_iff_ne.2 c)]⟩

/-- what Take comes to -/
def takeS (own : List EEntry) (good fr : Int) (l : List EEntry) : List ENote × Int :=
 if rightL own ≠ 0 ∨ good < 0 ∨ good > (own.length : Int) ∨ max fr 0 > good then ([], good)
 else ((runT own good.toNat (l.drop (good - max fr 0).toNat)).2.1, ((runT own good.toNat (l.drop (good - max fr 0).toNat)).2.2 : Int))

theorem putE_le {L : List EEntry} {n : Nat} {e : EEntry} (h : setC L (n : Int) e = 0) (hl : L.length ≤ 1000) : (putE L n e).length ≤ 1000 := by
 have hc := setC_ok.1 h
 have := (put_len (e := e) (L := L) (n := n) (by have := hc.le; omega)).2
 have := hc.lt
 omega

/-- the rounds in which entries are laid -/
theorem prog_rounds {fr : Int} (l : List EEntry) (hll : l.length ≤ 1000) (hf : max fr 0 ≤ 2000) : ∀ (N k g : Nat) (out : List ENote) (a : Erlog_Log) (L : List EEntry), k ≤ l.length → l.length - k < N → out.length ≤ k → Rt L → L.length ≤ 1000 → Rl a L → (g : Int) = max fr 0 + k →
  iter (F_adopt_Take_l5 fr l) N ((g : Int), out, (k : Int), a) = some (out ++ (runT L g (l.drop k)).2.1, ((runT L g (l.drop k)).2.2 : Int))
 | 0, _, _, _, _, _, _, h, _, _, _, _, _ => by omega
 | N + 1, k, g, out, a, L, hk, hN, ho, hR, hl, h, hg => by
  show F_adopt_Take_l5 fr l (iter (F_adopt_Take_l5 fr l) N) ((g : Int), out, (k : Int), a) = _
  generalize e0 : iter (F_adopt_Take_l5 fr l) N = rc
  unfold F_adopt_Take_l5
  dsimp only
  rw [toNat_cast]
  by_cases c : k < l.length
  ·rw [if_pos (decide_eq_true (by omega)), chk_t (by omega), chk_t (by unfold inI; omega), if_neg (by rw [decide_eq_false (by omega)]; decide), chk_t (by unfold inI; omega), if_neg (by rw [decide_eq_false (by omega)]; decide)]
   obtain ⟨l', e1, e2⟩ := lay_ok hR h hl g (l.getD k default)
   rw [drop_cons (d := default) c]
   show (F_adopt_lay a (g : Int) (l.getD k default)).bind _ = _
   rw [e1, Option.bind_some]
   unfold F_adopt_Take_k6 F_adopt_Take_k4
   by_cases c1 : here L g (oneS L g (l.getD k default))
   ·rw [if_pos c1, runT_here c1]
    dsimp only
    rw [if_neg (by decide), chk_t (by simp only [List.length_nil]; omega), chk_t (by unfold inI; omega), chk_t (by unfold inI; omega), ← e0, List.append_nil]
    exact prog_rounds l hll hf N (k + 1) (g + 1) out a L (by omega) (by omega) (by omega) hR hl h (by omega)
   ·rw [if_neg c1]
    by_cases c2 : setC L g (oneS L g (l.getD k default)) = 0
    ·rw [if_pos c2, runT_put c1 c2]
     rw [if_pos c2] at e2
     dsimp only
     rw [if_neg (by decide), chk_t (by simp only [List.length_cons, List.length_nil]; omega), chk_t (by unfold inI; omega), chk_t (by unfold inI; omega), ← e0]
     have hp := put_right hR (setC_ok.1 c2)
     rw [toNat_cast] at hp
     have := prog_rounds l hll hf N (k + 1) (g + 1) (out ++ [noteE g (oneS L g (l.getD k default))]) l' _ (by omega) (by omega) (by rw [List.length_append, List.length_cons, List.length_nil]; omega) hp (putE_le c2 hl) e2 (by omega)
     rw [List.append_assoc] at this
     exact this
    ·rw [if_neg c2, runT_stop c1 c2]
     dsimp only
     rw [if_pos (by decide), List.append_nil]
  ·rw [if_neg (by rw [decide_eq_false (by omega)]; decide), List.drop_eq_nil_of_le (by omega)]
   unfold F_adopt_Take_k4
   show _ = some (out ++ [], (g : Int))
   rw [List.append_nil]

/-- the rounds ahead of them -/
theorem prog_skips {fr : Int} (l : List EEntry) (hll : l.length ≤ 1000) (hf : max fr 0 ≤ 2000) {g : Nat} {a : Erlog_Log} {L : List EEntry} (hR : Rt L) (hl : L.length ≤ 1000) (h : Rl a L) (hle : max fr 0 ≤ (g : Int)) : ∀ (N k : Nat), k ≤ l.length → l.length - k < N → max fr 0 + k ≤ (g : Int) →
  iter (F_adopt_Take_l5 fr l) N ((g : Int), [], (k : Int), a) = some ((runT L g (l.drop ((g : Int) - max fr 0).toNat)).2.1, ((runT L g (l.drop ((g : Int) - max fr 0).toNat)).2.2 : Int))
 | 0, _, _, h, _ => by omega
 | N + 1, k, hk, hN, hkg => by
  by_cases c0 : max fr 0 + (k : Int) = (g : Int)
  ·have := prog_rounds l hll hf (N + 1) k g [] a L hk hN (Nat.zero_le _) hR hl h c0.symm
   rw [show ((g : Int) - max fr 0).toNat = k by omega]
   exact this
  ·show F_adopt_Take_l5 fr l (iter (F_adopt_Take_l5 fr l) N) ((g : Int), [], (k : Int), a) = _
   generalize e0 : iter (F_adopt_Take_l5 fr l) N = rc
   unfold F_adopt_Take_l5
   dsimp only
   rw [toNat_cast]
   by_cases c : k < l.length
   ·rw [if_pos (decide_eq_true (by omega)), chk_t (by omega), chk_t (by unfold inI; omega), if_pos (decide_eq_true (by omega))]
    unfold F_adopt_Take_k6
    rw [chk_t (by unfold inI; omega), ← e0]
    exact prog_skips l hll hf hR hl h hle N (k + 1) (by omega) (by omega) (by omega)
   ·rw [if_neg (by rw [decide_eq_false (by omega)]; decide), List.drop_eq_nil_of_le (by omega)]
    rfl

theorem prog_Take {own l : List EEntry} (hn : own.length ≤ 100) (hll : l.length ≤ 1000) {good fr : Int} (hf : fr ≤ 2000) : F_adopt_Take own good fr l = some (takeS own good fr l) := by
 unfold F_adopt_Take
 rcases log_ok own hn with ⟨h1, h2⟩ | ⟨h1, a, h2, h3⟩
 ·have eR : takeS own good fr l = ([], good) := if_pos (.inl h1)
  rw [h2, Option.bind_some, eR]
  dsimp only [optE]
  rw [if_pos (by simp)]
 ·have hR := (right_iff own).1 h1
  rw [h2, Option.bind_some]
  dsimp only
  rw [optE_some]
  unfold takeS
  by_cases c : good < 0 ∨ good > (own.length : Int)
  ·rw [if_pos (by rw [Bool.or_eq_true, Bool.or_eq_true, decide_eq_true_eq, decide_eq_true_eq]; rcases c with c | c; exact .inl (.inr c); exact .inr c), if_pos (by rcases c with c | c; exact .inr (.inl c); exact .inr (.inr (.inl c)))]
  ·rw [if_neg (by rw [Bool.or_eq_true, Bool.or_eq_true, decide_eq_true_eq, decide_eq_true_eq]; rintro ((hh | hh) | hh); cases hh; exact c (.inl hh); exact c (.inr hh))]
   obtain ⟨g, rfl⟩ := Int.eq_ofNat_of_zero_le (show 0 ≤ good by omega)
   rw [toNat_cast]
   by_cases c2 : max fr 0 > (g : Int)
   ·rw [if_pos (.inr (.inr (.inr c2)))]
    unfold FU
    show F_adopt_Take_l5 fr l (iter (F_adopt_Take_l5 fr l) _) ((g : Int), [], 0, a) = _
    generalize iter (F_adopt_Take_l5 fr l) _ = rc
    unfold F_adopt_Take_l5
    dsimp only
    by_cases c3 : 0 < l.length
    ·rw [if_pos (decide_eq_true (by omega)), chk_t (by omega), chk_t (by unfold inI; omega), if_neg (by rw [decide_eq_false (by omega)]; decide), chk_t (by unfold inI; omega), if_pos (decide_eq_true (by omega))]; rfl
    ·rw [if_neg (by rw [decide_eq_false (by omega)]; decide)]; rfl
   ·rw [if_neg (by rintro (hh | hh | hh | hh); exact hh h1; omega; exact c (.inr hh); exact c2 hh)]
    exact prog_skips l hll (by omega) hR (by omega) h3 (by omega) FU 0 (Nat.zero_le _) (by unfold FU; omega) (by omega)

-- the document's
end Go.Proofs.Ytmdoimpeacndaaa
