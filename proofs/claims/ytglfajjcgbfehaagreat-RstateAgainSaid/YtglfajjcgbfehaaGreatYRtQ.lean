/- What a replica knows: RstateAgain, plain. -/
import Derived.Test.YtglfajjcgbfehaaGreatYRtC
import Derived.Test.YtglfajjcgbfehaaGreatYRjA
namespace Go.Proofs.YtglfajjcgbfehaaGreat

/-- the configuration is one, or there is none yet; the horizon is no number below 0 -/
structure CO (a : Abs) : Prop where
 ok : AOk a
 conf : confCheck a.c = 0 ∨ a.c = default
 hor : 0 ≤ a.h

theorem CO0 : CO abs0 := ⟨abs0_ok, .inr rfl, Int.le_refl _⟩

theorem CO.app {a : Abs} (h : CO a) (n : ENote) : CO (appA a n) := by
 refine ⟨app_ok h.ok n, ?_, Int.le_trans h.hor (app_up a n).1⟩
 unfold appA
 by_cases c0 : noteCheck n ≠ 0
 ·rw [if_pos c0]; exact h.conf
 rw [if_neg c0]
 by_cases c1 : n.k = 1
 ·rw [if_pos c1]
  by_cases d : n.conf.epoch ≤ a.c.epoch
  ·rw [if_pos d]; exact h.conf
  ·rw [if_neg d]; exact .inl (noteCheck_1 c1 (by omega)).1
 rw [if_neg c1]
 by_cases c2 : n.k = 2
 ·rw [if_pos c2]; exact h.conf
 rw [if_neg c2]
 by_cases c3 : n.k = 3
 ·rw [if_pos c3]; exact h.conf
 rw [if_neg c3]
 by_cases c4 : n.k = 4
 ·rw [if_pos c4]
  split
  ·exact h.conf
  ·exact h.conf
 ·rw [if_neg c4]; exact h.conf

theorem kHor (h : Int) : (horNote h).k = 4 := rfl

theorem kPut (k : Int) (e : EEntry) : (putNote k e).k = 2 := rfl

theorem kConf (c : EConf) : (confNote c).k = 1 := rfl

def runs : Abs → List ENote → Prop
 | _, [] => True
 | b, n :: r => appE b n = 0 ∧ runs (appA b n) r

theorem runs_append : ∀ (x y : List ENote) (b : Abs), runs b x → runs (x.foldl appA b) y → runs b (x ++ y)
 | [], _, _, _, h => h
 | n :: r, y, b, h1, h2 => ⟨h1.1, runs_append r y (appA b n) h1.2 h2⟩

theorem puts_run (L : List EEntry) (hR : Rt L) (hl : L.length ≤ 100) (c : EConf) (h : Int) : ∀ n k, L.length - k = n → k ≤ L.length → runs ⟨c, h, L.take k⟩ (putsF k (L.drop k)) ∧ (putsF k (L.drop k)).foldl appA ⟨c, h, L.take k⟩ = ⟨c, h, L⟩
 | 0, k, hn, hk => by
  rw [List.drop_eq_nil_of_le (by omega), List.take_of_length_le (by omega)]
  exact ⟨trivial, rfl⟩
 | n + 1, k, hn, hk => by
  have d : k < L.length := by omega
  have q := hR k d
  have hlt : (L.take k).length = k := by rw [List.length_take]; omega
  have hg : ∀ j, j < k → (L.take k).getD j default = L.getD j default := fun j hj => by rw [getD_lt (by omega), getD_lt (by omega), List.getElem_take]
  have hset : setC (L.take k) (k : Int) (L.getD k default) = 0 := setC_ok.2 ⟨by omega, by omega, q.chk, by omega, fun j hj => by rw [hg j (by omega)]; exact q.tw j (by omega), fun h0 h1 => by
   rw [show ((k : Int) - 1).toNat = k - 1 by omega, hg (k - 1) (by omega)]
   exact q.fol (by omega) h1⟩
  have hput : putE (L.take k) k (L.getD k default) = L.take (k + 1) := by
   unfold putE
   rw [if_neg (by omega), List.take_take, Nat.min_self, take_snoc (d := default) d]
  have hchk : noteCheck (putNote (k : Int) (L.getD k default)) = 0 := by
   unfold noteCheck putNote
   dsimp only
   rw [if_neg (by decide), if_pos rfl, if_pos (by unfold may; simp only [Bool.and_eq_true, decide_eq_true_eq]; omega)]
   exact q.chk
  have hE : appE ⟨c, h, L.take k⟩ (putNote (k : Int) (L.getD k default)) = 0 := by
   unfold appE
   rw [if_neg (by rw [hchk]; decide), kPut, if_neg (by decide), if_pos rfl]; exact hset
  have hA : appA ⟨c, h, L.take k⟩ (putNote (k : Int) (L.getD k default)) = ⟨c, h, L.take (k + 1)⟩ := by
   unfold appA
   rw [if_neg (by rw [hchk]; decide), kPut, if_neg (by decide), if_pos rfl]
   show (⟨c, h, if setC (L.take k) (k : Int) (L.getD k default) = 0 then putE (L.take k) k (L.getD k default) else L.take k⟩ : Abs) = _
   rw [if_pos hset, hput]
  obtain ⟨h1, h2⟩ := puts_run L hR hl c h n (k + 1) (by omega) (by omega)
  rw [drop_cons (d := default) d, putsF, List.foldl_cons, hA]
  exact ⟨⟨hE, by rw [hA]; exact h1⟩, h2⟩

theorem notes_run {a : Abs} (h : CO a) : runs abs0 (notesF a) ∧ (notesF a).foldl appA abs0 = a := by
 have hc : runs abs0 (if a.c.epoch > 0 then [confNote a.c] else []) ∧ (if a.c.epoch > 0 then [confNote a.c] else []).foldl appA abs0 = ⟨a.c, 0, []⟩ := by
  by_cases c : a.c.epoch > 0
  ·have hk : confCheck a.c = 0 := by
    rcases h.conf with e | e
    ·exact e
    ·rw [e] at c; exact absurd c (by decide)
   have hchk : noteCheck (confNote a.c) = 0 := by
    unfold noteCheck confNote
    dsimp only
    rw [if_pos rfl, if_neg (by rw [hk]; decide)]; rfl
   have hE : appE abs0 (confNote a.c) = 0 := by
    unfold appE
    rw [if_neg (by rw [hchk]; decide), kConf, if_pos rfl, if_neg (by show ¬ a.c.epoch ≤ 0; omega)]
   have hA : appA abs0 (confNote a.c) = ⟨a.c, 0, []⟩ := by
    unfold appA
    rw [if_neg (by rw [hchk]; decide), kConf, if_pos rfl, if_neg (by show ¬ a.c.epoch ≤ 0; omega)]; rfl
   rw [if_pos c]
   exact ⟨⟨hE, trivial⟩, hA⟩
  ·rw [if_neg c]
   refine ⟨trivial, ?_⟩
   rcases h.conf with e | e
   ·have := (confCheck_ok e).1; omega
   ·rw [e]; rfl
 obtain ⟨p1, p2⟩ := puts_run a.L h.ok.rt h.ok.len a.c 0 a.L.length 0 (by omega) (by omega)
 rw [List.drop_zero, List.take_zero] at p1 p2
 have hhor : noteCheck (horNote a.h) = 0 := rfl
 have hE : appE ⟨a.c, 0, a.L⟩ (horNote a.h) = 0 := by
  unfold appE
  rw [if_neg (by rw [hhor]; decide), kHor, if_neg (by decide), if_neg (by decide), if_neg (by decide), if_pos rfl, if_neg (by have := h.hor; show ¬ a.h < 0; omega)]
 have hA : appA ⟨a.c, 0, a.L⟩ (horNote a.h) = a := by
  unfold appA
  rw [if_neg (by rw [hhor]; decide), kHor, if_neg (by decide), if_neg (by decide), if_neg (by decide), if_pos rfl, if_neg (by have := h.hor; show ¬ a.h < 0; omega)]
  show (⟨a.c, a.h, (thinL a.L a.h 0).1⟩ : Abs) = a
  have : (thinL a.L a.h 0).1 = a.L := by
   unfold thinL
   rw [show (min (0 : Int) (stampF a.L : Int)).toNat = 0 by omega]; rfl
  rw [this]
 unfold notesF
 rw [List.append_assoc, List.foldl_append, hc.2, List.foldl_append, p2]
 refine ⟨runs_append _ _ _ hc.1 ?_, hA⟩
 rw [hc.2]
 refine runs_append _ _ _ p1 ?_
 rw [p2]
 exact ⟨hE, trivial⟩

theorem again_l3 (then0 : List ENote) : ∀ (N k : Nat) (s t : Erstate_State) (a : Abs), 20 - k < N → k ≤ 20 → SR s a → SR t a → AOk a → iter (F_law30_RstateAgain_l3 then0) N ((k : Int), s, t, refS a) = some true
 | 0, _, _, _, _, hN, _, _, _, _ => by omega
 | N + 1, k, s, t, a, hN, hk, h, ht, ho => by
  show F_law30_RstateAgain_l3 then0 (iter (F_law30_RstateAgain_l3 then0) N) ((k : Int), s, t, refS a) = _
  have hrec := again_l3 then0 N
  generalize iter (F_law30_RstateAgain_l3 then0) N = rc at hrec ⊢
  unfold F_law30_RstateAgain_l3
  dsimp only
  by_cases c : k < then0.length ∧ k < 20
  ·rw [if_pos (by simp only [Bool.and_eq_true, decide_eq_true_eq]; omega), chk_t (by omega), toNat_cast, note_eta (then0.getD k default)]
   obtain ⟨s', e1, e2⟩ := prog_Apply h ho (then0.getD k default)
   obtain ⟨t', f1, f2⟩ := prog_Apply ht ho (then0.getD k default)
   have e3 := ref_Apply ho (then0.getD k default)
   have ho' := app_ok ho (then0.getD k default)
   generalize appA a (then0.getD k default) = a' at e2 f2 e3 ho'
   generalize appE a (then0.getD k default) = er at e1 f1 e3
   rw [e1, Option.bind_some, chk_t (by omega), f1, Option.bind_some]
   dsimp only
   rw [if_neg (by rw [bne_self_eq_false]; decide), chk_t (by omega), e3, Option.bind_some, chk_t (by unfold inI; omega)]
   exact hrec (k + 1) s' t' a' (by omega) (by omega) e2 f2 ho'
  ·rw [if_neg (by simp only [Bool.and_eq_true, decide_eq_true_eq]; omega), same_ok h ho, Option.bind_some]
   dsimp only
   rw [show ((1 : Int) != 0) = true from rfl, gif_true, same_ok ht ho, Option.bind_some]
   dsimp only
   rw [show ((1 : Int) != 0) = true from rfl, show (true && true) = true from rfl, gif_true, awakeA]; rfl

theorem again_l2 (then0 l : List ENote) (hl : l.length ≤ 1000) (s : Erstate_State) {a : Abs} (hs : SR s a) (ho : AOk a) : ∀ (N k : Nat) (t : Erstate_State) (b : Abs), l.length - k < N → k ≤ l.length → SR t b → AOk b → runs b (l.drop k) → (l.drop k).foldl appA b = a → iter (F_law30_RstateAgain_l2 then0 (l, s)) N ((k : Int), t, refS b) = some true
 | 0, _, _, _, hN, _, _, _, _, _ => by omega
 | N + 1, k, t, b, hN, hk, ht, hb, hr, hf => by
  show F_law30_RstateAgain_l2 then0 (l, s) (iter (F_law30_RstateAgain_l2 then0 (l, s)) N) ((k : Int), t, refS b) = _
  have hrec := again_l2 then0 l hl s hs ho N
  generalize iter (F_law30_RstateAgain_l2 then0 (l, s)) N = rc at hrec ⊢
  unfold F_law30_RstateAgain_l2
  dsimp only
  by_cases c : k < l.length
  ·rw [if_pos (decide_eq_true (by omega)), chk_t (by omega), toNat_cast, note_eta (l.getD k default)]
   rw [drop_cons (d := default) c] at hr hf
   rw [List.foldl_cons] at hf
   obtain ⟨r1, r2⟩ := hr
   obtain ⟨t', f1, f2⟩ := prog_Apply ht hb (l.getD k default)
   have e3 := ref_Apply hb (l.getD k default)
   have hb' := app_ok hb (l.getD k default)
   rw [r1] at f1 e3
   generalize appA b (l.getD k default) = b' at f2 e3 hb' r2 hf
   rw [f1, Option.bind_some, chk_t (fun _ => by omega)]
   dsimp only
   rw [show ((0 : Int) != 0) = false from rfl, show (!false) = true from rfl, gif_true, e3, Option.bind_some, if_neg (fun h => by cases h), chk_t (by unfold inI; omega)]
   exact hrec (k + 1) t' b' (by omega) (by omega) f2 hb' r2 hf
  ·rw [if_neg (by rw [decide_eq_true_eq]; omega)]
   rw [List.drop_eq_nil_of_le (by omega)] at hf
   have hf : b = a := hf
   subst hf
   exact again_l3 then0 FU 0 s t b (by unfold FU; omega) (by omega) hs ht hb

theorem again_l1 (l then0 : List ENote) : ∀ (N k : Nat) (s : Erstate_State) (a : Abs), 40 - k < N → k ≤ 40 → SR s a → CO a → iter (F_law30_RstateAgain_l1 l then0) N ((k : Int), s) = some true
 | 0, _, _, _, hN, _, _, _ => by omega
 | N + 1, k, s, a, hN, hk, h, hc => by
  show F_law30_RstateAgain_l1 l then0 (iter (F_law30_RstateAgain_l1 l then0) N) ((k : Int), s) = _
  have hrec := again_l1 l then0 N
  generalize iter (F_law30_RstateAgain_l1 l then0) N = rc at hrec ⊢
  unfold F_law30_RstateAgain_l1
  dsimp only
  by_cases c : k < l.length ∧ k < 40
  ·rw [if_pos (by simp only [Bool.and_eq_true, decide_eq_true_eq]; omega), chk_t (by omega), toNat_cast, note_eta (l.getD k default)]
   obtain ⟨s', e1, e2⟩ := prog_Apply h hc.ok (l.getD k default)
   have hc' := hc.app (l.getD k default)
   generalize appA a (l.getD k default) = a' at e2 hc'
   rw [e1, Option.bind_some, chk_t (by unfold inI; omega)]
   exact hrec (k + 1) s' a' (by omega) (by omega) e2 hc'
  ·rw [if_neg (by simp only [Bool.and_eq_true, decide_eq_true_eq]; omega), h.Notes hc.ok, Option.bind_some]
   obtain ⟨t, e1, e2⟩ := new_SR
   have hn := notesF_len a
   have hlen := hc.ok.len
   obtain ⟨r1, r2⟩ := notes_run hc
   rw [e1, Option.bind_some]
   exact again_l2 then0 (notesF a) (by omega) s h hc.ok FU 0 t abs0 (by unfold FU; omega) (by omega) e2 abs0_ok (by rw [List.drop_zero]; exact r1) (by rw [List.drop_zero]; exact r2)

theorem pure_RstateAgain (l then0 : List ENote) (_ : (bdSl bdENote) l) (_ : (bdSl bdENote) then0) : F_law30_RstateAgain l then0 = some true := by
 obtain ⟨p, hp⟩ := parts30 l
 obtain ⟨q, hq⟩ := parts30 then0
 unfold F_law30_RstateAgain
 rw [hp, Option.bind_some, hq]
 have hg : ∀ b : Bool, ∃ r, gif b (some q) default = some r := fun b => by cases b <;> exact ⟨_, rfl⟩
 obtain ⟨r, hr⟩ := hg (!(decide (p > 20)))
 rw [hr, Option.bind_some]
 by_cases c : ((decide (p > 20)) || (decide (r > 20))) = true
 ·rw [if_pos c, awakeA]; rfl
 ·obtain ⟨s, e1, e2⟩ := new_SR
  rw [if_neg c, e1, Option.bind_some]
  exact again_l1 l then0 FU 0 s abs0 (by unfold FU; omega) (by omega) e2 CO0

end Go.Proofs.YtglfajjcgbfehaaGreat
