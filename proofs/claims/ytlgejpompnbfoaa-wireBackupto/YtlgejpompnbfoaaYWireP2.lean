/- WireWrites and WireBack: the plain laws, where all that comes in is small. -/
import Derived.Test.YtlgejpompnbfoaaYWireP1
namespace Go.Proofs.Ytlgejpompnbfoaa

def wtPart (p : Elaw02_Part) : Nat := p.s.size

def wtParts (l : List Elaw02_Part) : Nat := (l.map wtPart).sum

theorem wtParts_take : ∀ (l : List Elaw02_Part) (k : Nat), wtParts (l.take k) ≤ wtParts l
 | [], k => by rw [List.take_nil]; exact Nat.le_refl _
 | p :: l, 0 => Nat.zero_le _
 | p :: l, k + 1 => by
  have := wtParts_take l k
  unfold wtParts at this ⊢
  simp only [List.take_succ_cons, List.map_cons, List.sum_cons]; omega

theorem wtParts_get (l : List Elaw02_Part) (k : Nat) (hk : k < l.length) : wtParts (l.take k) + wtPart (l.getD k default) ≤ wtParts l := by
 have := wtParts_take l (k + 1)
 rw [take_snoc (d := default) hk] at this
 unfold wtParts at this ⊢
 rw [List.map_append, List.sum_append] at this
 simpa using this

-- WireWrites: both writers go side by side
-- WireBack
def partB (p : Elaw02_Part) : List Nat := if p.k = 0 then vputL (max p.n 0).toNat else if p.k = 1 then vputL p.b.toNat else if p.k = 2 then vputL p.s.size ++ bL p.s else [if p.f then 1 else 0]

theorem partB_len (p : Elaw02_Part) : (partB p).length ≤ 9 + wtPart p := by
 have := vputL_len (max p.n 0).toNat; have := vputL_len p.b.toNat; have := vputL_len p.s.size
 unfold partB wtPart
 split; · omega
 split; · omega
 split
 ·rw [List.length_append, bL_len]; omega
 ·show 1 ≤ _; omega

def partsB (l : List Elaw02_Part) : List Nat := l.flatMap partB

theorem partsB_len : ∀ l : List Elaw02_Part, (partsB l).length ≤ 9 * l.length + wtParts l
 | [] => Nat.zero_le _
 | p :: l => by
  have := partsB_len l; have := partB_len p
  have e : wtParts (p :: l) = wtPart p + wtParts l := by unfold wtParts; simp
  show (partB p ++ partsB l).length ≤ _
  rw [List.length_append, List.length_cons, e]; omega

theorem Rd.left {r : DReaderR} {l : List Nat} (h : Rd r l) : rLeft r = (l.length : Int) := by
 obtain ⟨h1, h2, k, h3, h4, h5⟩ := h
 unfold rLeft
 rw [if_neg (by omega), h3, ← h5, List.length_drop, bL_len]; omega

theorem max_in {z : Int} (h : inI z) : inI (max z 0) := by unfold inI at h ⊢; omega

theorem WireBack_k4 (i : Int) (hi : inI (i + 1)) (rc : (Int × ByteArray × Int × Int × Bool) → Option Bool) (r : DReaderR) : F_law02_WireBack_k4 i rc (ofRw r).s (ofRw r).at_ (ofRw r).e (ofRw r).made = rc (i + 1, r.s, r.at_, r.e, true) := by
 unfold F_law02_WireBack_k4
 rw [chk_t hi]; rfl

theorem WireBack_loop (l : List Elaw02_Part) (hl : bdSl bdElaw02_Part l) (behind : ByteArray) (d : ByteArray × Int) (hd : d.2 = 0) (n : Nat) (hn : (n : Int) = min (l.length : Int) 40) (r : DReaderR) (hr : Rd r (partsB (l.take n) ++ bL behind)) : iter (F_law02_WireBack_l3 l behind d) FU (0, r.s, r.at_, r.e, true) = some true := by
 have hnl : n ≤ l.length := by omega
 refine iter_up2 (σ := ByteArray × Int × Int × Bool) n (fun _ _ => some true) (fun k st => ∃ r : DReaderR, st = (r.s, r.at_, r.e, true) ∧ Rd r (partsB ((l.take n).drop k) ++ bL behind)) (by unfold bdM; omega) (s0 := (r.s, r.at_, r.e, true)) ⟨r, rfl, hr⟩ fun rc k st hk hp hrc => ?_
 obtain ⟨r, rfl, hr⟩ := hp
 have hok := hr.ok
 unfold F_law02_WireBack_l3
 dsimp only
 rw [show (({ s := r.s, at_ := r.at_, e := r.e, made := true } : Ewire_Reader)) = ofRw r from rfl, ← hn, toNat_cast]
 by_cases h1 : k < n
 ·have hk' : k < l.length := by omega
  have hb := hl.2 k hk'
  have hi : inI ((k : Int) + 1) := by unfold inI; omega
  have c1 : (0 : Int) ≤ (k : Int) ∧ (k : Int) < (l.length : Int) := by omega
  have hkt : k < (l.take n).length := by rw [List.length_take]; omega
  have hgd : (l.take n).getD k default = l.getD k default := by
   rw [List.getD_eq_getElem?_getD, List.getD_eq_getElem?_getD, List.getElem?_take, if_pos h1]
  rw [drop_cons (d := default) hkt, hgd] at hr
  have hr' : Rd r (partB (l.getD k default) ++ (partsB ((l.take n).drop (k + 1)) ++ bL behind)) := by
   rw [← List.append_assoc]; exact hr
  rw [if_pos (decide_eq_true (by omega))]
  simp only [chk_t c1]
  unfold partB at hr'
  by_cases q0 : (l.getD k default).k = 0
  ·rw [if_pos q0] at hr'
   have hmx := max_in hb.n
   obtain ⟨v1, r1⟩ := hr'.num (most := max (l.getD k default).n 0) (by omega) (by unfold inI at hmx; omega)
   have v2 : rNumV r (max (l.getD k default).n 0) = max (l.getD k default).n 0 := by rw [v1]; omega
   rw [if_pos (beq_iff_eq.2 q0), wR_num hok hmx, Option.bind_some, v2, if_neg (by simp), WireBack_k4 _ hi]
   exact hrc _ h1 ⟨_, rfl, r1⟩
  rw [if_neg q0] at hr'
  rw [if_neg (fun x => q0 (beq_iff_eq.1 x))]
  by_cases q1 : (l.getD k default).k = 1
  ·rw [if_pos q1] at hr'
   have hbb := hb.b
   unfold inU at hbb
   obtain ⟨v1, r1⟩ := hr'.big (by omega)
   have v2 : (rBigV r : Int) = (l.getD k default).b := by rw [v1]; omega
   rw [if_pos (beq_iff_eq.2 q1), wR_big hok, Option.bind_some, v2, if_neg (by simp), WireBack_k4 _ hi]
   exact hrc _ h1 ⟨_, rfl, r1⟩
  rw [if_neg q1] at hr'
  rw [if_neg (fun x => q1 (beq_iff_eq.1 x))]
  by_cases q2 : (l.getD k default).k = 2
  ·rw [if_pos q2, List.append_assoc] at hr'
   have hbs : (l.getD k default).s.size ≤ bdM := hb.s
   unfold bdM at hbs
   obtain ⟨v1, r1⟩ := hr'.text (most := ((l.getD k default).s.size : Int)) (Int.le_refl _) (by omega)
   rw [if_pos (beq_iff_eq.2 q2), wR_text hok (by unfold inI; omega), Option.bind_some, v1, if_neg (by rw [seqB_iff.2 rfl]; decide), WireBack_k4 _ hi]
   exact hrc _ h1 ⟨_, rfl, r1⟩
  ·rw [if_neg q2] at hr'
   obtain ⟨v1, r1⟩ := Rd.flag hr'
   rw [if_neg (fun x => q2 (beq_iff_eq.1 x)), wR_flag hok, Option.bind_some, v1, if_neg (by simp), WireBack_k4 _ hi]
   exact hrc _ h1 ⟨_, rfl, r1⟩
 ·rw [if_neg (by rw [decide_eq_false (by omega)]; exact Bool.false_ne_true)]
  have hk2 : k = n := by omega
  have e0 : (l.take n).drop k = [] := List.drop_eq_nil_of_le (by rw [List.length_take]; omega)
  rw [e0] at hr
  have hr0 : Rd r (bL behind) := hr
  have e1 := hr0.left
  rw [bL_len] at e1
  rw [hd, wR_err, wR_left hok, e1, hr0.e, awake02]
  simp only [beq_self_eq_true, Bool.and_self, gif_true, Option.bind_some]

theorem WireBack_k2 (i : Int) (hi : inI (i + 1)) (rc : (Int × Ewire_Writer) → Option Bool) (y : Ewire_Writer) : F_law02_WireBack_k2 i rc y = rc (i + 1, y) := by
 unfold F_law02_WireBack_k2
 rw [chk_t hi]

theorem pure_WireBack (l : List Elaw02_Part) (behind : ByteArray) (hl : bdSl bdElaw02_Part l) (hbh : bdStr behind) (hw : wtParts l + behind.size ≤ 1048576) : F_law02_WireBack l behind = some true := by
 unfold F_law02_WireBack
 rw [F_wire_New, Option.bind_some]
 obtain ⟨n, hn⟩ : ∃ n : Nat, (n : Int) = min (l.length : Int) 40 := ⟨min l.length 40, by omega⟩
 have hnl : n ≤ l.length := by omega
 refine iter_up2 (σ := Ewire_Writer) n (fun _ _ => some true) (fun k y => Wt (toWw y) (partsB (l.take k))) (by unfold bdM; omega) (s0 := (default : Ewire_Writer)) ⟨rfl, rfl⟩ fun rc k y hk hy hrc => ?_
 unfold F_law02_WireBack_l1
 dsimp only
 rw [← hn, toNat_cast]
 have hlen := partsB_len (l.take k)
 rw [List.length_take] at hlen
 have ht := wtParts_take l k
 by_cases h1 : k < n
 ·have hk' : k < l.length := by omega
  have hb := hl.2 k hk'
  have hi : inI ((k : Int) + 1) := by unfold inI; omega
  have c1 : (0 : Int) ≤ (k : Int) ∧ (k : Int) < (l.length : Int) := by omega
  have hg := wtParts_get l k hk'
  rw [if_pos (decide_eq_true (by omega))]
  simp only [chk_t c1]
  have hst : ∀ y', Wt (toWw y') (partsB (l.take k) ++ partB (l.getD k default)) → rc ((k : Int) + 1, y') = some true := fun y' h => by
   refine hrc y' h1 ?_
   rw [take_snoc (d := default) hk']
   unfold partsB
   rw [List.flatMap_append]
   simpa [partsB] using h
  by_cases q0 : (l.getD k default).k = 0
  ·obtain ⟨y1, e1, w1⟩ := wW_num (z := max (l.getD k default).n 0) hy (by omega) (max_in hb.n) (by omega)
   rw [if_pos (beq_iff_eq.2 q0), e1, Option.bind_some, WireBack_k2 _ hi]
   exact hst y1 (by unfold partB; rw [if_pos q0]; exact w1)
  rw [if_neg (fun x => q0 (beq_iff_eq.1 x))]
  by_cases q1 : (l.getD k default).k = 1
  ·obtain ⟨y1, e1, w1⟩ := wW_big (z := (l.getD k default).b) hy hb.b (by omega)
   rw [if_pos (beq_iff_eq.2 q1), e1, Option.bind_some, WireBack_k2 _ hi]
   exact hst y1 (by unfold partB; rw [if_neg q0, if_pos q1]; exact w1)
  rw [if_neg (fun x => q1 (beq_iff_eq.1 x))]
  by_cases q2 : (l.getD k default).k = 2
  ·obtain ⟨y1, e1, w1⟩ := wW_text (l.getD k default).s hy (by unfold wtPart at hg; omega)
   rw [if_pos (beq_iff_eq.2 q2), e1, Option.bind_some, WireBack_k2 _ hi]
   exact hst y1 (by unfold partB; rw [if_neg q0, if_neg q1, if_pos q2]; exact w1)
  ·obtain ⟨y1, e1, w1⟩ := wW_flag (l.getD k default).f hy (by omega)
   rw [if_neg (fun x => q2 (beq_iff_eq.1 x)), e1, Option.bind_some, WireBack_k2 _ hi]
   exact hst y1 (by unfold partB; rw [if_neg q0, if_neg q1, if_neg q2]; exact w1)
 ·rw [if_neg (by rw [decide_eq_false (by omega)]; exact Bool.false_ne_true)]
  have hk2 : k = n := by omega
  subst hk2
  obtain ⟨s, e1, e2⟩ := wW_done hy
  have hsz : s.size ≤ 360 + wtParts l := by rw [← bL_len, e2]; omega
  have hm : (s ++ behind).size ≤ maxLen := by rw [ByteArray.size_append]; unfold maxLen; omega
  rw [e1, Option.bind_some]
  dsimp only
  rw [chk_t (by unfold maxLen; omega), wR_open _ hm, Option.bind_some]
  refine WireBack_loop l hl behind (s, 0) rfl k hn ⟨s ++ behind, 0, 0⟩ ?_
  have := Rd.start (s ++ behind) hm
  rw [bL_app, e2] at this
  exact this

end Go.Proofs.Ytlgejpompnbfoaa
