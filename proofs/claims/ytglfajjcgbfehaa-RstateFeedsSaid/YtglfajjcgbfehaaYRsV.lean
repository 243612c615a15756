/- What a replica knows: notes. RstateRight, plain. -/
import Derived.Test.YtglfajjcgbfehaaYRsU
namespace Go.Proofs.Ytglfajjcgbfehaa

structure Abs where
 c : EConf
 h : Int
 L : List EEntry

structure AOk (a : Abs) : Prop where
 rt : Rt a.L
 len : a.L.length ≤ 100
 mem : a.c.members.length ≤ 4

structure SR (s : Erstate_State) (a : Abs) : Prop where
 conf : s.conf = a.c
 hor : s.horizon = a.h
 log : ∃ l, s.log = some l ∧ Rl l a.L

def appE (a : Abs) (n : ENote) : Int :=
 if noteCheck n ≠ 0 then noteCheck n
 else if n.k = 1 then (if n.conf.epoch ≤ a.c.epoch then 18 else 0)
 else if n.k = 2 then setC a.L n.n n.entry
 else if n.k = 3 then stampC a.L n.n n.at_
 else if n.k = 4 then (if n.at_ < a.h then 18 else 0) else 11

def appA (a : Abs) (n : ENote) : Abs :=
 if noteCheck n ≠ 0 then a
 else if n.k = 1 then (if n.conf.epoch ≤ a.c.epoch then a else { a with c := n.conf })
 else if n.k = 2 then { a with L := if setC a.L n.n n.entry = 0 then putE a.L n.n.toNat n.entry else a.L }
 else if n.k = 3 then { a with L := stampR a.L n.n n.at_ }
 else if n.k = 4 then (if n.at_ < a.h then a else { a with h := n.at_, L := (thinL a.L n.at_ n.n).1 }) else a

def abs0 : Abs := ⟨default, 0, []⟩

theorem abs0_ok : AOk abs0 := ⟨fun k h => by simp [abs0] at h, by decide, by decide⟩

theorem app_ok {a : Abs} (h : AOk a) (n : ENote) : AOk (appA a n) := by
 unfold appA
 by_cases c0 : noteCheck n ≠ 0
 ·rw [if_pos c0]; exact h
 rw [if_neg c0]
 have c0' : noteCheck n = 0 := by omega
 by_cases c1 : n.k = 1
 ·rw [if_pos c1]
  by_cases d : n.conf.epoch ≤ a.c.epoch
  ·rw [if_pos d]; exact h
  ·rw [if_neg d]; exact ⟨h.rt, h.len, (confCheck_ok (noteCheck_1 c1 c0').1).2.2.2.1⟩
 rw [if_neg c1]
 by_cases c2 : n.k = 2
 ·rw [if_pos c2]
  by_cases d : setC a.L n.n n.entry = 0
  ·rw [if_pos d]
   have hc := setC_ok.1 d
   have hn : n.n.toNat ≤ a.L.length := by have := hc.1; have := hc.2; omega
   have hp := (put_len (e := n.entry) hn).2
   have h100 : n.n < 100 := by
    unfold setC at d
    split at d; · cases d
    split at d; · omega
    split at d; · cases d
    omega
   refine ⟨put_right h.rt hc, ?_, h.mem⟩
   have := h.len
   show (putE a.L n.n.toNat n.entry).length ≤ 100
   omega
  ·rw [if_neg d]; exact h
 rw [if_neg c2]
 by_cases c3 : n.k = 3
 ·rw [if_pos c3]
  obtain ⟨q1, q2⟩ := stampR_right h.rt n.n n.at_
  exact ⟨q1, by show (stampR a.L n.n n.at_).length ≤ 100; rw [q2]; exact h.len, h.mem⟩
 rw [if_neg c3]
 by_cases c4 : n.k = 4
 ·rw [if_pos c4]
  by_cases d : n.at_ < a.h
  ·rw [if_pos d]; exact h
  ·rw [if_neg d]
   have := thinL_like a.L n.at_ n.n
   exact ⟨this.right h.rt, by show ((thinL a.L n.at_ n.n).1).length ≤ 100; rw [this.len]; exact h.len, h.mem⟩
 ·rw [if_neg c4]; exact h

theorem SR.none {s : Erstate_State} {a : Abs} (h : SR s a) : F_rstate_State_none s = some false := by
 obtain ⟨l, hl, _⟩ := h.log
 unfold F_rstate_State_none; rw [hl]; rfl

theorem own_eq (c : EConf) (h : c.members.length ≤ 4) : F_rstate_own c = some c := by
 unfold F_rstate_own F_slices_Clone_api_Member_api_Member
 rw [chk_t (by simp only [List.length_nil]; omega)]; rfl

theorem SR.All {s : Erstate_State} {a : Abs} (h : SR s a) (ho : AOk a) : F_rstate_State_All s = some (a.L, s) := by
 unfold F_rstate_State_All
 have hn := h.none
 obtain ⟨h1, h2, l, hl, hr⟩ := h
 have hlen := ho.len
 rw [hn, Option.bind_some, if_neg (by decide), hl, optE_some, prog_All ho.rt hr (by omega), Option.bind_some]
 congr 2
 cases s; simp only at hl; rw [hl]

theorem new_SR : ∃ s, F_rstate_New = some s ∧ SR s abs0 := by
 unfold F_rstate_New
 rw [new_Rl.1, Option.bind_some]
 exact ⟨_, rfl, rfl, rfl, _, rfl, new_Rl.2⟩

theorem prog_Apply {s : Erstate_State} {a : Abs} (h : SR s a) (ho : AOk a) (n : ENote) : ∃ s', F_rstate_State_Apply s n = some (appE a n, s') ∧ SR s' (appA a n) := by
 have hlen := ho.len
 unfold F_rstate_State_Apply
 rw [h.none, Option.bind_some, if_neg (by decide), note_Check, Option.bind_some]
 unfold appE appA
 by_cases c0 : noteCheck n ≠ 0
 ·rw [if_pos (by rw [bne_iff_ne]; exact c0), if_pos c0, if_pos c0]
  exact ⟨s, rfl, h⟩
 rw [if_neg (by rw [bne_iff_ne]; exact c0), if_neg c0, if_neg c0]
 have c0' : noteCheck n = 0 := by omega
 obtain ⟨h1, h2, l, hl, hr⟩ := h
 by_cases c1 : n.k = 1
 ·rw [if_pos (by rw [c1]; rfl), if_pos c1, if_pos c1, h1]
  by_cases d : n.conf.epoch ≤ a.c.epoch
  ·rw [if_pos (decide_eq_true d), if_pos d, if_pos d]
   exact ⟨s, rfl, h1, h2, l, hl, hr⟩
  ·rw [if_neg (by rw [decide_eq_true_eq]; exact d), if_neg d, if_neg d, own_eq _ (confCheck_ok (noteCheck_1 c1 c0').1).2.2.2.1, Option.bind_some]
   exact ⟨_, rfl, rfl, h2, l, hl, hr⟩
 rw [if_neg (by rw [beq_iff_eq]; exact c1), if_neg c1, if_neg c1]
 by_cases c2 : n.k = 2
 ·rw [if_pos (by rw [c2]; rfl), if_pos c2, if_pos c2, hl, optE_some]
  obtain ⟨l', e1, e2⟩ := prog_Set ho.rt hr (by omega) n.n n.entry
  rw [e1, Option.bind_some]
  exact ⟨_, rfl, h1, h2, l', rfl, e2⟩
 rw [if_neg (by rw [beq_iff_eq]; exact c2), if_neg c2, if_neg c2]
 by_cases c3 : n.k = 3
 ·rw [if_pos (by rw [c3]; rfl), if_pos c3, if_pos c3, hl, optE_some]
  obtain ⟨l', e1, e2⟩ := prog_Stamp ho.rt hr (by omega) n.n n.at_
  rw [e1, Option.bind_some]
  exact ⟨_, rfl, h1, h2, l', rfl, e2⟩
 rw [if_neg (by rw [beq_iff_eq]; exact c3), if_neg c3, if_neg c3]
 by_cases c4 : n.k = 4
 ·rw [if_pos (by rw [c4]; rfl), if_pos c4, if_pos c4, h2]
  by_cases d : n.at_ < a.h
  ·rw [if_pos (decide_eq_true d), if_pos d, if_pos d]
   exact ⟨s, rfl, h1, h2, l, hl, hr⟩
  ·rw [if_neg (by rw [decide_eq_true_eq]; exact d), if_neg d, if_neg d, hl, optE_some, prog_Thin ho.rt hr (by omega) n.at_ n.n (noteCheck_4 c4 c0').1, Option.bind_some]
   exact ⟨_, rfl, h1, rfl, _, rfl, (thinL_like a.L n.at_ n.n).Rl hr⟩
 ·rw [if_neg (by rw [beq_iff_eq]; exact c4), if_neg c4, if_neg c4]
  exact ⟨s, rfl, h1, h2, l, hl, hr⟩

theorem note_eta (n : ENote) : ({ n with conf := ({ epoch := (n.conf).epoch, members := (n.conf).members, floor := (n.conf).floor } : EConf), entry := ({ batch := ({ client := ((n.entry).batch).client, req := ((n.entry).batch).req, ops := ((n.entry).batch).ops } : EBatch), ts := (n.entry).ts } : EEntry), pin := ({ id := (n.pin).id, at_ := (n.pin).at_, left := (n.pin).left } : EPin), said := ({ client := (n.said).client, req := (n.said).req, e := (n.said).e, pin := (n.said).pin } : EAnswer) } : ENote) = n := rfl

theorem parts30 (l : List ENote) : ∃ p, F_law28_Parts l = some p := by
 unfold F_law28_Parts
 have hs : ∀ n : Nat, n ≤ 60 → ∀ (k : Nat) (p : Int), 60 - k ≤ n → k ≤ 60 → ∃ q, iter (F_law28_Parts_l1 l) (n + 1) (p, (k : Int)) = some q := by
  intro n
  induction n with
  | zero =>
   intro _ k p h1 h2
   refine ⟨p, ?_⟩
   show F_law28_Parts_l1 l _ (p, (k : Int)) = some p
   unfold F_law28_Parts_l1
   dsimp only
   rw [if_neg (by simp only [Bool.and_eq_true, decide_eq_true_eq]; omega)]
  | succ n ih =>
   intro hn k p h1 h2
   show ∃ q, F_law28_Parts_l1 l (iter (F_law28_Parts_l1 l) (n + 1)) (p, (k : Int)) = some q
   have h3 := ih (by omega) (k + 1)
   generalize iter (F_law28_Parts_l1 l) (n + 1) = rc at h3 ⊢
   unfold F_law28_Parts_l1
   dsimp only
   by_cases c : k < l.length ∧ k < 60
   ·rw [if_pos (by simp only [Bool.and_eq_true, decide_eq_true_eq]; omega), chk_t (by omega), chk_t (by omega), chk_t (by omega), chk_t (by unfold inI; omega)]
    exact h3 _ (by omega) (by omega)
   ·rw [if_neg (by simp only [Bool.and_eq_true, decide_eq_true_eq]; omega)]
    exact ⟨p, rfl⟩
 have hf : ∀ (m n : Nat) (s : Int × Int) (q : Int), iter (F_law28_Parts_l1 l) n s = some q → n ≤ m → iter (F_law28_Parts_l1 l) m s = some q := by
  intro m
  induction m with
  | zero =>
   intro n s q h hn
   have : n = 0 := by omega
   subst this; exact h
  | succ m ih =>
   intro n s q h hn
   cases n with
   | zero => cases h
   | succ n =>
    have h' : F_law28_Parts_l1 l (iter (F_law28_Parts_l1 l) n) s = some q := h
    show F_law28_Parts_l1 l (iter (F_law28_Parts_l1 l) m) s = some q
    obtain ⟨p, i⟩ := s
    unfold F_law28_Parts_l1 at h' ⊢
    dsimp only at h' ⊢
    by_cases c : (decide (i < (l.length : Int)) && decide (i < 60)) = true
    ·rw [if_pos c] at h' ⊢
     obtain ⟨g1, h'⟩ := chk_in h'
     obtain ⟨g2, h'⟩ := chk_in h'
     obtain ⟨g3, h'⟩ := chk_in h'
     obtain ⟨g4, h'⟩ := chk_in h'
     rw [chk_t g1, chk_t g2, chk_t g3, chk_t g4]
     exact ih n _ q h' (by omega)
    ·rw [if_neg c] at h' ⊢; exact h'
 obtain ⟨q, hq⟩ := hs 60 (Nat.le_refl _) 0 0 (by omega) (by omega)
 exact ⟨q, hf FU 61 _ q hq (by unfold FU; omega)⟩

end Go.Proofs.Ytglfajjcgbfehaa
