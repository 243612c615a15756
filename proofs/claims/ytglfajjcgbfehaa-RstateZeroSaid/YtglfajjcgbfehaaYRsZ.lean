/- What a replica knows: RstateZero, plain. -/
import Derived.Test.YtglfajjcgbfehaaYRsWZ
import Derived.Test.YtglfajjcgbfehaaYP
namespace Go.Proofs.Ytglfajjcgbfehaa

structure bdEMember (x : EMember) : Prop where
 id : inI x.id
 serial : inI x.serial

structure bdEConf (x : EConf) : Prop where
 epoch : inI x.epoch
 members : (bdSl bdEMember) x.members
 floor : inU x.floor

structure bdEOp (x : EOp) : Prop where
 key : bdStr x.key
 val : bdStr x.val
 del : bdT x.del

structure bdEBatch (x : EBatch) : Prop where
 client : inI x.client
 req : inI x.req
 ops : (bdSl bdEOp) x.ops

structure bdEEntry (x : EEntry) : Prop where
 batch : bdEBatch x.batch
 ts : inU x.ts

structure bdEPin (x : EPin) : Prop where
 id : inI x.id
 at_ : inU x.at_
 left : inI x.left

structure bdEAnswer (x : EAnswer) : Prop where
 client : inI x.client
 req : inI x.req
 e : inI x.e
 pin : inI x.pin

structure bdENote (x : ENote) : Prop where
 k : inI x.k
 n : inI x.n
 at_ : inU x.at_
 conf : bdEConf x.conf
 legit : (bdSl inI) x.legit
 entry : bdEEntry x.entry
 pin : bdEPin x.pin
 said : bdEAnswer x.said

theorem awake30 : F_law30_awake = some true := by kernel_rfl

theorem chk0 {α : Type} (k : Option α) : chk (inI 0) k = k := chk_t (by unfold inI; omega)

theorem parts30 (l : List ENote) : ∃ p, F_law28_Parts l = some p := by
 unfold F_law28_Parts
 have hs : ∀ n : Nat, n ≤ 60 → ∀ (k : Nat) (p : Int), 60 - k ≤ n → k ≤ 60 → ∃ q, iter (F_law28_Parts_l1 l) (n + 1) (p, (k : Int)) = some q := by
  intro n
  induction n with
  | zero =>
   intro _ k p h1 h2
   refine ⟨p, ?_⟩
   show F_law28_Parts_l1 l _ (p, (k : Int)) = some p
   unfold F_law28_Parts_l1
   dsimp only
   rw [if_neg (by simp only [Bool.and_eq_true, decide_eq_true_eq]; omega)]
  | succ n ih =>
   intro hn k p h1 h2
   show ∃ q, F_law28_Parts_l1 l (iter (F_law28_Parts_l1 l) (n + 1)) (p, (k : Int)) = some q
   have h3 := ih (by omega) (k + 1)
   generalize iter (F_law28_Parts_l1 l) (n + 1) = rc at h3 ⊢
   unfold F_law28_Parts_l1
   dsimp only
   by_cases c : k < l.length ∧ k < 60
   ·rw [if_pos (by simp only [Bool.and_eq_true, decide_eq_true_eq]; omega), chk_t (by omega), chk_t (by omega), chk_t (by omega), chk_t (by unfold inI; omega)]
    exact h3 _ (by omega) (by omega)
   ·rw [if_neg (by simp only [Bool.and_eq_true, decide_eq_true_eq]; omega)]
    exact ⟨p, rfl⟩
 have hf : ∀ (m n : Nat) (s : Int × Int) (q : Int), iter (F_law28_Parts_l1 l) n s = some q → n ≤ m → iter (F_law28_Parts_l1 l) m s = some q := by
  intro m
  induction m with
  | zero =>
   intro n s q h hn
   have : n = 0 := by omega
   subst this; exact h
  | succ m ih =>
   intro n s q h hn
   cases n with
   | zero => cases h
   | succ n =>
    have h' : F_law28_Parts_l1 l (iter (F_law28_Parts_l1 l) n) s = some q := h
    show F_law28_Parts_l1 l (iter (F_law28_Parts_l1 l) m) s = some q
    obtain ⟨p, i⟩ := s
    unfold F_law28_Parts_l1 at h' ⊢
    dsimp only at h' ⊢
    by_cases c : (decide (i < (l.length : Int)) && decide (i < 60)) = true
    ·rw [if_pos c] at h' ⊢
     obtain ⟨g1, h'⟩ := chk_in h'
     obtain ⟨g2, h'⟩ := chk_in h'
     obtain ⟨g3, h'⟩ := chk_in h'
     obtain ⟨g4, h'⟩ := chk_in h'
     rw [chk_t g1, chk_t g2, chk_t g3, chk_t g4]
     exact ih n _ q h' (by omega)
    ·rw [if_neg c] at h' ⊢; exact h'
 obtain ⟨q, hq⟩ := hs 60 (Nat.le_refl _) 0 0 (by omega) (by omega)
 exact ⟨q, hf FU 61 _ q hq (by unfold FU; omega)⟩

section
variable (n : Int)
theorem z0_Notes : F_rstate_State_Notes (default : Erstate_State) = some [] := rfl

theorem z0_All : F_rstate_State_All (default : Erstate_State) = some [] := rfl

theorem z0_Len : F_rstate_State_Len (default : Erstate_State) = some 0 := rfl

theorem z0_Stamped : F_rstate_State_Stamped (default : Erstate_State) = some (0, default) := rfl

theorem z0_Top : F_rstate_State_Top (default : Erstate_State) n = some 0 := rfl

theorem z0_Conf : F_rstate_State_Conf (default : Erstate_State) = some default := rfl

theorem z0_Feed : F_rstate_State_Feed_nil1 (default : Erstate_State) 0 9 = some (0, default) := rfl

theorem z0_Horizon : F_rstate_State_Horizon (default : Erstate_State) = some 0 := rfl

theorem z0_Find : F_rstate_State_Find (default : Erstate_State) 1 1 = some (-1) := rfl

theorem n0_Notes : F_rstate_State_Notes_nil = some [] := rfl

theorem n0_All : F_rstate_State_All_nil = some [] := rfl

theorem n0_Len : F_rstate_State_Len_nil = some 0 := rfl

theorem n0_Stamped : F_rstate_State_Stamped_nil = some 0 := rfl

theorem n0_Top : F_rstate_State_Top_nil n = some 0 := rfl

theorem n0_Conf : F_rstate_State_Conf_nil = some default := rfl

theorem n0_Feed (m : Emvcc_Store) : F_rstate_State_Feed_nil m 0 9 = some 0 := rfl

theorem n0_Horizon : F_rstate_State_Horizon_nil = some 0 := rfl

theorem n0_Find : F_rstate_State_Find_nil 1 1 = some (-1) := rfl

end
theorem pure_RstateZero (n0 : ENote) (_ : bdENote n0) : F_law30_RstateZero n0 = some true := by
 obtain ⟨p, hp⟩ := parts30 [n0]
 unfold F_law30_RstateZero
 rw [hp, Option.bind_some]
 by_cases c : decide (p > 20) = true
 ·rw [if_pos c, awake30]; rfl
 obtain ⟨ms, hm⟩ : ∃ ms, F_mvcc_New = some ms := ⟨_, rfl⟩
 have ce : (default : EConf).epoch = 0 := rfl
 rw [if_neg c, n0_Notes, Option.bind_some, z0_Notes, Option.bind_some, n0_All, Option.bind_some, z0_All, Option.bind_some, n0_Len, Option.bind_some, z0_Len, Option.bind_some, n0_Stamped, Option.bind_some, z0_Stamped, Option.bind_some, n0_Top, Option.bind_some]
 dsimp only
 rw [z0_Top, Option.bind_some, n0_Conf, Option.bind_some, z0_Conf, Option.bind_some, hm, Option.bind_some, n0_Feed, Option.bind_some, z0_Feed, Option.bind_some]
 dsimp only
 simp only [List.length_nil, Int.natCast_zero, Int.add_zero, ce, chk0]
 rw [show ((0 : Int) == 0) = true from rfl, gif_true, n0_Horizon, Option.bind_some, gif_true, z0_Horizon, Option.bind_some]
 rw [chk_t (show true = true → inU (0 + 0) from fun _ => by unfold inU; omega), show ((0 : Int) + 0 == 0) = true from rfl, show (true && true) = true from rfl, gif_true, n0_Find, Option.bind_some, gif_true, z0_Find, Option.bind_some]
 rw [chk_t (show true = true → inI (-1 + -1) from fun _ => by unfold inI; omega), show ((-1 : Int) + -1 == -2) = true from rfl, show (true && true) = true from rfl, gif_true, awake30]; rfl

end Go.Proofs.Ytglfajjcgbfehaa
