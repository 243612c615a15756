/- What a replica knows: RstatePlays, plain. -/
import Derived.Test.YtglfajjcgbfehaaGreatYRtC
import Derived.Test.YtglfajjcgbfehaaGreatYRjP
namespace Go.Proofs.YtglfajjcgbfehaaGreat

theorem plays_l2 {a : Abs} (ho : AOk a) (s : Erstate_State) (x : Eref30_State) : iter (F_law30_RstatePlays_l2 (notesF a, s) (notesF a, x)) FU 0 = some true := by
 have hlen := ho.len
 have hn := notesF_len a
 refine (iter_up (notesF a).length (fun _ => some true) (by unfold bdM; omega) fun rc k hk hrc => ?_)
 unfold F_law30_RstatePlays_l2
 dsimp only
 by_cases d : k < (notesF a).length
 ·obtain ⟨h1, h2, h3⟩ := notesF_small ho ((notesF a).getD k default) (by rw [getD_lt d]; exact List.getElem_mem _)
  rw [if_pos (by simp only [Bool.and_eq_true, decide_eq_true_eq]; omega), chk_t (by omega), chk_t (by omega), toNat_cast, note_eta ((notesF a).getD k default), ref10_refl _ h1 h2 h3, Option.bind_some, if_neg (by decide), chk_t (by unfold inI; omega), hrc d]
 ·rw [if_neg (by simp only [Bool.and_eq_true, decide_eq_true_eq]; omega), awakeP]; rfl

theorem plays_l1 (l : List ENote) : ∀ (N k : Nat) (s : Erstate_State) (a : Abs), 40 - k < N → k ≤ 40 → SR s a → AOk a → iter (F_law30_RstatePlays_l1 l) N ((k : Int), s, refS a) = some true
 | 0, _, _, _, hN, _, _, _ => by omega
 | N + 1, k, s, a, hN, hk, h, ho => by
  show F_law30_RstatePlays_l1 l (iter (F_law30_RstatePlays_l1 l) N) ((k : Int), s, refS a) = _
  have hrec := plays_l1 l N
  generalize iter (F_law30_RstatePlays_l1 l) N = rc at hrec ⊢
  unfold F_law30_RstatePlays_l1
  dsimp only
  by_cases c : k < l.length ∧ k < 40
  ·rw [if_pos (by simp only [Bool.and_eq_true, decide_eq_true_eq]; omega), chk_t (by omega), toNat_cast, note_eta (l.getD k default)]
   obtain ⟨s', e1, e2⟩ := prog_Apply h ho (l.getD k default)
   have e3 := ref_Apply ho (l.getD k default)
   have ho' := app_ok ho (l.getD k default)
   generalize appA a (l.getD k default) = a' at e2 e3 ho'
   generalize appE a (l.getD k default) = er at e1 e3
   rw [e1, Option.bind_some, chk_t (by omega), e3, Option.bind_some]
   dsimp only
   rw [bne_self_eq_false, show (!false) = true from rfl, gif_true, same_ok e2 ho', Option.bind_some, if_neg (fun h => by cases h), chk_t (by unfold inI; omega)]
   exact hrec (k + 1) s' a' (by omega) (by omega) e2 ho'
  ·rw [if_neg (by simp only [Bool.and_eq_true, decide_eq_true_eq]; omega), h.Notes ho, Option.bind_some, ref_Notes ho, Option.bind_some, if_neg (by rw [bne_self_eq_false]; decide)]
   exact plays_l2 ho s _

theorem pure_RstatePlays (l : List ENote) (_ : (bdSl bdENote) l) : F_law30_RstatePlays l = some true := by
 obtain ⟨p, hp⟩ := parts30 l
 unfold F_law30_RstatePlays
 rw [hp, Option.bind_some]
 by_cases c : decide (p > 20) = true
 ·rw [if_pos c, awakeP]; rfl
 ·obtain ⟨s, e1, e2⟩ := new_SR
  rw [if_neg c, e1, Option.bind_some]
  exact plays_l1 l FU 0 s abs0 (by unfold FU; omega) (by omega) e2 abs0_ok

end Go.Proofs.YtglfajjcgbfehaaGreat
