/- To and fro, plain: what the functions come to. -/
import Derived.Test.YtmdoimpeacndaaaYReP1
namespace Go.Proofs.Ytmdoimpeacndaaa

theorem ref08_Stamped (l : List EEntry) (hl : l.length ≤ bdM) : F_ref08_Stamped l = some (stampF l : Int) := stamp_loop l hl _ fun rc x => rfl

theorem ref08_Last (l : List EEntry) (hl : l.length ≤ bdM) : F_ref08_Last l = some (lastF l) := by
 have := stampF_le l
 unfold F_ref08_Last lastF
 rw [ref08_Stamped l hl, Option.bind_some]
 by_cases c : stampF l = 0
 ·rw [c]; rfl
 ·rw [if_neg (by rw [beq_iff_eq]; omega), if_neg c, chk_t (by unfold inI; unfold bdM at hl; omega), chk_t (by omega), show ((stampF l : Int) - 1).toNat = stampF l - 1 by omega]

theorem item_Last (l : List EEntry) (hl : l.length ≤ bdM) : F_item_Last l = some (lastF l) := by
 have := stampF_le l
 unfold F_item_Last lastF
 rw [item_Stamped l hl, Option.bind_some]
 by_cases c : stampF l = 0
 ·rw [c]; rfl
 ·rw [if_pos (decide_eq_true (by omega)), if_neg c, chk_t (by unfold inI; unfold bdM at hl; omega), chk_t (by omega), show ((stampF l : Int) - 1).toNat = stampF l - 1 by omega]

theorem bdM_ge : 1000 ≤ bdM := by unfold bdM; decide

-- laying
theorem ref_Stamp {L : List EEntry} (hR : Rt L) (hl : L.length ≤ 1000) {i : Nat} (hi : i < L.length) (hs : stampF L = i) {t : Int} (h0 : 0 ≤ lastF L) (ht : lastF L < t) : F_ref17_Log_Stamp ⟨L⟩ (i : Int) t = some (0, ⟨setTs L i t⟩) := by
 have hb := bdM_ge
 unfold F_ref17_Log_Stamp
 dsimp only
 rw [if_neg (by rw [decide_eq_false (by omega), decide_eq_false (by omega)]; decide), if_neg (by rw [beq_iff_eq]; omega), ref08_Stamped L (by omega), Option.bind_some, hs, bne_self_eq_false, ref08_Last L (by omega)]
 rw [show (!false) = true from rfl, gif_true, Option.bind_some, decide_eq_false (by omega), if_neg (by decide), Copy_eq L hl fun e he => by have := (hR.ops he).2; omega]
 rw [Option.bind_some, chk_t (by omega), toNat_cast]; rfl

def tnote (i : Nat) (t : Int) : ENote := { (default : ENote) with k := 3, n := (i : Int), at_ := t }

def tnotes : Nat → List Int → List ENote
 | _, [] => []
 | i, t :: r => tnote i t :: tnotes (i + 1) r

theorem tnotes_len : ∀ (ts : List Int) (i : Nat), (tnotes i ts).length = ts.length
 | [], _ => rfl
 | _ :: r, i => by unfold tnotes; rw [List.length_cons, List.length_cons, tnotes_len r]

theorem laid32_ts_at (m : List ENote) (hm : m.length ≤ 1000) : ∀ (ts : List Int) (L : List EEntry) (i k N : Nat), Rt L → L.length ≤ 1000 → stampF L = i → i + ts.length ≤ L.length → okTs (lastF L) ts → 0 ≤ lastF L → k ≤ m.length → m.length - k < N → m.drop k = tnotes i ts →
  iter (F_law32_laid_l1 m) N ((k : Int), ⟨L⟩) = some (putTs L i ts, true) := by
 intro ts
 induction ts with
 | nil =>
  intro L i k N _ _ _ _ _ _ hk hN h2
  cases N with
  | zero => omega
  | succ N =>
   have : m.length ≤ k := List.drop_eq_nil_iff.1 h2
   show F_law32_laid_l1 m (iter (F_law32_laid_l1 m) N) ((k : Int), ⟨L⟩) = _
   generalize iter (F_law32_laid_l1 m) N = rc
   unfold F_law32_laid_l1
   dsimp only
   rw [if_neg (by rw [decide_eq_false (by omega)]; decide)]; rfl
 | cons t r ih =>
  intro L i k N hR hL hs hl ho h0 hk hN h2
  rw [List.length_cons] at hl
  have hkl : k < m.length := by
   have := congrArg List.length h2
   rw [List.length_drop, tnotes_len, List.length_cons] at this; omega
  rw [drop_cons (d := default) hkl] at h2
  unfold tnotes at h2
  injection h2 with q1 q2
  cases N with
  | zero => omega
  | succ N =>
   obtain ⟨a1, a2, a3, a4⟩ := setTs_ok hR (by omega) hs h0 ho.1
   have hlt := ho.1
   show F_law32_laid_l1 m (iter (F_law32_laid_l1 m) N) ((k : Int), ⟨L⟩) = _
   generalize e0 : iter (F_law32_laid_l1 m) N = rc
   unfold F_law32_laid_l1
   dsimp only
   rw [if_pos (decide_eq_true (by omega)), chk_t (by omega), toNat_cast, q1, if_neg (by show ¬ ((3 : Int) == 2) = true; decide), chk_t (by omega), chk_t (by omega)]
   show (F_ref17_Log_Stamp ⟨L⟩ (i : Int) t).bind _ = _
   rw [ref_Stamp hR hL (by omega) hs h0 ho.1, Option.bind_some]
   unfold F_law32_laid_k2
   dsimp only
   rw [if_neg (by decide), chk_t (by unfold inI; omega), ← e0]
   exact ih (setTs L i t) (i + 1) (k + 1) N a1 (by omega) a3 (by omega) (by rw [a4]; exact ho.2) (by rw [a4]; omega) (by omega) (by omega) q2

theorem laid32_ts {L : List EEntry} (hR : Rt L) (hL : L.length ≤ 100) {i : Nat} (hs : stampF L = i) (ts : List Int) (hl : i + ts.length ≤ L.length) (ho : okTs (lastF L) ts) (h0 : 0 ≤ lastF L) : F_law32_laid L (tnotes i ts) = some (putTs L i ts, true) := by
 unfold F_law32_laid
 rw [Copy_eq L (by omega) (fun e he => by have := (hR.ops he).2; omega), Option.bind_some]
 have := tnotes_len ts i
 exact laid32_ts_at _ (by omega) ts L i 0 FU hR (by omega) hs hl ho h0 (Nat.zero_le _) (by unfold FU; omega) rfl

theorem laid32_at (m : List ENote) (hm : m.length ≤ 1000) : ∀ (l L : List EEntry) (n k N : Nat), Rt L → L.length ≤ 100 → k ≤ m.length → m.length - k < N → m.drop k = (runT L n l).2.1 → iter (F_law32_laid_l1 m) N ((k : Int), ⟨L⟩) = some ((runT L n l).1, true) := by
 have fin : ∀ (L : List EEntry) (k N : Nat), m.length - k < N → k ≤ m.length → m.drop k = [] → iter (F_law32_laid_l1 m) N ((k : Int), ⟨L⟩) = some (L, true) := fun L k N h0 h1 h2 => by
  cases N with
  | zero => omega
  | succ N =>
   have : m.length ≤ k := List.drop_eq_nil_iff.1 h2
   show F_law32_laid_l1 m (iter (F_law32_laid_l1 m) N) ((k : Int), ⟨L⟩) = _
   generalize iter (F_law32_laid_l1 m) N = rc
   unfold F_law32_laid_l1
   dsimp only
   rw [if_neg (by rw [decide_eq_false (by omega)]; decide)]
 intro l
 induction l with
 | nil => intro L n k N _ _ h1 h0 h2; exact fin L k N h0 h1 h2
 | cons e r ih =>
  intro L n k N hR hL hk hN hm2
  by_cases c : here L n (oneS L n e)
  ·rw [runT_here c] at hm2 ⊢
   exact ih L (n + 1) k N hR hL hk hN hm2
  ·by_cases c2 : setC L n (oneS L n e) = 0
   ·rw [runT_put c c2] at hm2 ⊢
    simp only at hm2 ⊢
    have hkl : k < m.length := by
     have := congrArg List.length hm2
     rw [List.length_drop, List.length_cons] at this; omega
    rw [drop_cons (d := default) hkl] at hm2
    injection hm2 with q1 q2
    cases N with
    | zero => omega
    | succ N =>
     have hc := setC_ok.1 c2
     have hp := put_right hR hc
     rw [toNat_cast] at hp
     have hpl := (put_len (e := oneS L n e) (show n ≤ L.length by have := hc.le; omega)).2
     have hlt := hc.lt
     show F_law32_laid_l1 m (iter (F_law32_laid_l1 m) N) ((k : Int), ⟨L⟩) = _
     generalize e0 : iter (F_law32_laid_l1 m) N = rc
     unfold F_law32_laid_l1
     dsimp only
     rw [if_pos (decide_eq_true (by omega)), chk_t (by omega), toNat_cast, q1, if_pos (by show ((2 : Int) == 2) = true; decide), chk_t (by omega), chk_t (by omega)]
     show (F_ref17_Log_Set ⟨L⟩ (n : Int) (oneS L n e)).bind _ = _
     rw [ref_Set (by omega) (fun e he => by have := (hR.ops he).2; omega), Option.bind_some, c2]
     unfold F_law32_laid_k2
     dsimp only
     rw [if_neg (by decide), chk_t (by unfold inI; omega), if_pos rfl, toNat_cast, ← e0]
     exact ih (putE L n (oneS L n e)) (n + 1) (k + 1) N hp (by omega) (by omega) (by omega) q2
   ·rw [runT_stop c c2] at hm2 ⊢
    exact fin L k N hN hk hm2

theorem laid32_ok {own : List EEntry} (hR : Rt own) (hL : own.length ≤ 100) {l : List EEntry} (hl : l.length ≤ 1000) (n : Nat) : F_law32_laid own (runT own n l).2.1 = some ((runT own n l).1, true) := by
 unfold F_law32_laid
 rw [Copy_eq own (by omega) (fun e he => by have := (hR.ops he).2; omega), Option.bind_some]
 have := (runT_len l own n).1
 exact laid32_at _ (by omega) l own n 0 FU hR hL (Nat.zero_le _) (by unfold FU; omega) rfl

-- the tail's timestamps
def tsAll (floor : Int) : Nat → Int → List Int
 | 0, _ => []
 | n + 1, last => if last = maxT then [] else max (last + 1) floor :: tsAll floor n (max (last + 1) floor)

theorem tsAll_ok {floor : Int} (hf : floor ≤ maxT) : ∀ (n : Nat) (last : Int), last ≤ maxT → okTs last (tsAll floor n last) ∧ (tsAll floor n last).length ≤ n ∧ (∀ t ∈ tsAll floor n last, t ≤ maxT) ∧ ((tsAll floor n last).length = n ∨ lastD last (tsAll floor n last) = maxT)
 | 0, last, _ => ⟨trivial, Nat.le_refl _, fun t h => (by cases h), .inl rfl⟩
 | n + 1, last, h => by
  unfold tsAll
  by_cases c : last = maxT
  ·rw [if_pos c]; exact ⟨trivial, Nat.zero_le _, fun t h => (by cases h), .inr c⟩
  ·rw [if_neg c]
   obtain ⟨a, b, d, e⟩ := tsAll_ok hf n (max (last + 1) floor) (by omega)
   refine ⟨⟨by omega, a⟩, by rw [List.length_cons]; omega, fun t ht => ?_, ?_⟩
   ·rcases List.mem_cons.1 ht with rfl | ht
    ·omega
    ·exact d t ht
   ·rcases e with e | e
    ·exact .inl (by rw [List.length_cons, e])
    ·exact .inr e

theorem next_ok {last floor : Int} (h0 : 0 ≤ last) (h1 : last ≤ maxT) : F_stamp_Next last floor = some (if last = maxT then (0, 16) else (max (last + 1) floor, 0)) := by
 unfold F_stamp_Next
 unfold maxT at h1 ⊢
 by_cases c : last = 18446744073709551615
 ·rw [if_pos (by rw [beq_iff_eq]; exact c), if_pos c]
 ·rw [if_neg (by rw [beq_iff_eq]; exact c), if_neg c, chk_t (by unfold inU; omega)]

theorem All_loop {L : List EEntry} {n0 floor : Int} {g : Nat} (hf0 : 0 ≤ floor) (hf : floor ≤ maxT) (hg : min n0 (L.length : Int) = (g : Int)) (hg1 : g ≤ 1000) : ∀ (n : Nat) (last : Int) (out : List ENote) (i N : Nat), i + (n + 1) = g → 0 ≤ last → last ≤ maxT → out.length ≤ i → n + 1 < N →
  ∃ x c j, iter (F_stamp_next_1_l1 (F_stamp_All_y1 L n0) floor) N ((true, (out, (i : Int))), last) = some (x, (c, (out ++ tnotes i (tsAll floor (n + 1) last), j)))
 | n, last, out, i, 0, _, _, _, _, hN => by omega
 | n, last, out, i, N + 1, hi, h0, h1, ho, hN => by
  show ∃ x c j, F_stamp_next_1_l1 (F_stamp_All_y1 L n0) floor (iter (F_stamp_next_1_l1 (F_stamp_All_y1 L n0) floor) N) ((true, (out, (i : Int))), last) = _
  generalize e0 : iter (F_stamp_next_1_l1 (F_stamp_All_y1 L n0) floor) N = rc
  unfold F_stamp_next_1_l1
  dsimp only
  rw [next_ok h0 h1, Option.bind_some]
  unfold tsAll
  by_cases c : last = maxT
  ·rw [if_pos c, if_pos c, if_pos (by decide)]
   exact ⟨last, true, i, by rw [tnotes, List.append_nil]⟩
  ·rw [if_neg c, if_neg c]
   dsimp only
   rw [if_neg (by decide), chk_t rfl]
   unfold F_stamp_All_y1
   dsimp only
   rw [chk_t (by rw [List.length_cons, List.length_nil]; omega), chk_t (by unfold inI; omega), hg]
   have hl : ∀ t, out ++ [({ (default : ENote) with k := 3, n := (i : Int), at_ := t } : ENote)] = out ++ [tnote i t] := fun _ => rfl
   by_cases d : i + 1 = g
   ·rw [if_pos (decide_eq_true (by omega)), Option.bind_some]
    dsimp only
    rw [if_pos (by decide)]
    have : n = 0 := by omega
    subst this
    exact ⟨last, false, (i : Int) + 1, rfl⟩
   ·rw [if_neg (by rw [decide_eq_false (by omega)]; decide), Option.bind_some]
    dsimp only
    rw [if_neg (by decide), ← e0, hl]
    obtain ⟨m, rfl⟩ : ∃ m, n = m + 1 := ⟨n - 1, by omega⟩
    obtain ⟨x, c', j, e⟩ := All_loop hf0 hf hg hg1 m (max (last + 1) floor) (out ++ [tnote i (max (last + 1) floor)]) (i + 1) N (by omega) (by omega) (by omega) (by rw [List.length_append, List.length_cons, List.length_nil]; omega) (by omega)
    refine ⟨x, c', j, e.trans ?_⟩
    rw [List.append_assoc]; rfl

theorem stamp_All {L : List EEntry} (hL : L.length ≤ 100) (hU : Us L) {g : Nat} (hg : g ≤ L.length) {floor : Int} (hf0 : 0 ≤ floor) (hf : floor ≤ maxT) : F_stamp_All L (g : Int) floor = some (tnotes (stampF L) (tsAll floor (g - stampF L) (lastF L))) := by
 have hb := bdM_ge
 have hu := hU.last
 have hm : min (g : Int) (L.length : Int) = (g : Int) := by omega
 unfold F_stamp_All
 rw [item_Stamped L (by omega), Option.bind_some, hm]
 by_cases c : g ≤ stampF L
 ·rw [if_pos (decide_eq_true (by omega)), show g - stampF L = 0 by omega]; rfl
 ·rw [if_neg (by rw [decide_eq_false (by omega)]; decide), item_Last L (by omega), Option.bind_some]
  unfold F_stamp_next F_stamp_next_1
  rw [Option.bind_some]
  obtain ⟨n, hn⟩ : ∃ n, g - stampF L = n + 1 := ⟨g - stampF L - 1, by omega⟩
  obtain ⟨x, c', j, e⟩ := All_loop (L := L) hf0 hf hm (by omega) n (lastF L) [] (stampF L) FU (by omega) hu.1 hu.2 (Nat.zero_le _) (by unfold FU; omega)
  dsimp only
  rw [e, Option.bind_some, hn, List.nil_append]
  cases c' <;> rfl

end Go.Proofs.Ytmdoimpeacndaaa
