/- Many versions: what the laws share. -/
import Derived.Test.YtfefmdllnjpmgaaYMS2
import Derived.Test.YtfefmdllnjpmgaaYMLz
namespace Go.Proofs.Ytfefmdllnjpmgaa
structure bdElaw16_Act (x : Elaw16_Act) : Prop where
 c : inI x.c
 t : inU x.t
 ops : (bdSl bdEOp) x.ops
 k : bdStr x.k
 to_ : bdStr x.to_
 n : inI x.n

theorem few_some (l : List Elaw16_Act) : ∃ b, F_law16_few l = some b := by
 unfold F_law16_few
 by_cases q : ∃ i, i < l.length ∧ i < 40 ∧ 20 < (l.getD i default).ops.length
 ·-- the first one that is too long
  have h : ∀ n i, i ≤ 40 → i ≤ l.length → 40 - i < n → ∃ b, iter (F_law16_few_l1 l) n (i : Int) = some b := by
   intro n
   induction n with
   | zero => intro i _ _ h; omega
   | succ n ih =>
    intro i h1 h2 h3
    show ∃ b, F_law16_few_l1 l (iter (F_law16_few_l1 l) n) (i : Int) = some b
    unfold F_law16_few_l1
    dsimp only
    by_cases c : i < l.length ∧ i < 40
    ·rw [if_pos (by rw [decide_eq_true (show (i : Int) < (l.length : Int) by omega), decide_eq_true (show (i : Int) < 40 by omega)]; rfl), chk_t (by omega)]
     by_cases d : decide (((l.getD (i : Int).toNat default).ops.length : Int) > 20) = true
     ·rw [if_pos d]; exact ⟨_, rfl⟩
     ·rw [if_neg d, chk_t (by unfold inI; omega)]
      exact ih (i + 1) (by omega) (by omega) (by omega)
    ·rw [if_neg (by
      intro e
      rw [Bool.and_eq_true] at e
      have e1 := of_decide_eq_true e.1; have e2 := of_decide_eq_true e.2
      omega)]
     exact ⟨_, rfl⟩
  exact h FU 0 (by omega) (by omega) (by unfold FU; omega)
 ·refine ⟨true, iter_up (min l.length 40) (fun _ => some true) (by unfold bdM; omega) fun rc k hk hrc => ?_⟩
  simp only [F_law16_few_l1, toNat_cast]
  by_cases c : k < min l.length 40
  ·rw [if_pos (by rw [decide_eq_true (show (k : Int) < (l.length : Int) by omega), decide_eq_true (show (k : Int) < 40 by omega)]; rfl), chk_t (by omega), if_neg (by
    intro e
    have := of_decide_eq_true e
    exact q ⟨k, by omega, by omega, by omega⟩), chk_t (by unfold inI; omega)]
   exact hrc c
  ·rw [if_neg (by
    intro e
    rw [Bool.and_eq_true] at e
    have e1 := of_decide_eq_true e.1; have e2 := of_decide_eq_true e.2
    omega)]

def newS : Emvcc_Store := { (default : Emvcc_Store) with t := some newT }

theorem mvNew : F_mvcc_New = some newS := rfl

theorem mvNew_ok : mvOk newS newT [] := ⟨rfl, new_ok, rfl, fun r h => (by cases h), rfl, Int.le_refl _⟩

theorem eqEPair_refl (x : EPair) : eqEPair x x = true := eqEPair_iff.2 rfl

theorem samePairs_refl (l : List EPair) (h : l.length ≤ big) : F_ref06_SamePairs l l = some true := by
 unfold F_ref06_SamePairs
 rw [if_neg (by rw [bne_self_eq_false]; decide)]
 unfold big at h
 refine iter_up l.length (fun _ => some true) (by unfold bdM; omega) fun rc i hi hrc => ?_
 simp only [F_ref06_SamePairs_l1, toNat_cast]
 by_cases c : i < l.length
 ·rw [if_pos (by rw [decide_eq_true (by omega)]; rfl), chk_t (by omega), chk_t (by omega), if_neg (by rw [eqEPair_refl]; decide), chk_t (by unfold inI; omega)]
  exact hrc c
 ·rw [if_neg (by rw [decide_eq_false (by omega)]; decide)]

-- what a key has behind a version more
theorem ins_g_same {k : ByteArray} {v : List ECell} : ∀ rows : List Rw, gR k (insR k v rows) = v
 | [] => by rw [show insR k v [] = [⟨k, v⟩] from rfl, g_f (r := ⟨k, v⟩) (by rw [slt_irr]; decide), if_pos (seqB_iff.2 rfl)]
 | r :: l => by
  by_cases c : sltB r.k k = true
  ·rw [insR_t c, g_t c, ins_g_same l]
  ·rw [insR_f c]
   by_cases q : seqB r.k k = true
   ·rw [if_pos q, g_f (r := ⟨r.k, v⟩) c, if_pos q]
   ·rw [if_neg q, g_f (r := ⟨k, v⟩) (by rw [slt_irr]; decide), if_pos (seqB_iff.2 rfl)]

theorem ins_g_other {k : ByteArray} {v : List ECell} {j : ByteArray} (hj : seqB k j = false) : ∀ rows : List Rw, gR j (insR k v rows) = gR j rows
 | [] => by
  rw [show insR k v [] = [⟨k, v⟩] from rfl]
  by_cases c : sltB k j = true
  ·rw [g_t (r := ⟨k, v⟩) c]
  ·rw [g_f (r := ⟨k, v⟩) c, if_neg (by rw [hj]; decide)]; rfl
 | r :: l => by
  by_cases c : sltB r.k k = true
  ·rw [insR_t c]
   by_cases d : sltB r.k j = true
   ·rw [g_t d, g_t d, ins_g_other hj l]
   ·rw [g_f d, g_f d]
  ·rw [insR_f c]
   by_cases q : seqB r.k k = true
   ·rw [if_pos q]
    have e := seqB_iff.1 q
    by_cases d : sltB r.k j = true
    ·rw [g_t (r := ⟨r.k, v⟩) d, g_t d]
    ·rw [g_f (r := ⟨r.k, v⟩) d, g_f d, if_neg (by rw [e, hj]; decide), if_neg (by rw [e, hj]; decide)]
   ·rw [if_neg q]
    by_cases d : sltB k j = true
    ·rw [g_t (r := ⟨k, v⟩) d]
    ·rw [g_f (r := ⟨k, v⟩) d, if_neg (by rw [hj]; decide)]
     have hkr := slt_tri (by simpa using c) (by simpa using q)
     have hjk : sltB j k = true := slt_tri (by simpa using d) hj
     have hjr := slt_trans hjk hkr
     rw [g_f (by rw [slt_asym hjr]; decide), if_neg (by rw [slt_ne' hjr]; decide)]

theorem at_nil (t : Int) : atL [] t = (⟨#[]⟩, false) := rfl

theorem view_ins {f to_ : ByteArray} {t : Int} {k : ByteArray} {v : List ECell} : ∀ rows : List Rw, atL v t = atL (gR k rows) t → viewR f to_ t (insR k v rows) = viewR f to_ t rows
 | [], h => by
  rw [show insR k v [] = [⟨k, v⟩] from rfl]
  unfold viewR
  rw [List.filterMap_cons]
  have : visR f to_ t ⟨k, v⟩ = none := by
   unfold visR; rw [if_neg]
   intro e
   rw [Bool.and_eq_true] at e
   have e1 : (atL v t).2 = true := e.1
   rw [h, show gR k [] = [] from rfl, at_nil] at e1; cases e1
  rw [this]
 | r :: l, h => by
  by_cases c : sltB r.k k = true
  ·rw [g_t c] at h
   rw [insR_t c]
   have := view_ins (f := f) (to_ := to_) l h
   unfold viewR at *
   rw [List.filterMap_cons, List.filterMap_cons, this]
  ·rw [g_f c] at h
   rw [insR_f c]
   by_cases q : seqB r.k k = true
   ·rw [if_pos q] at h ⊢
    unfold viewR
    rw [List.filterMap_cons, List.filterMap_cons]
    have : visR f to_ t ⟨r.k, v⟩ = visR f to_ t r := by unfold visR; rw [show (⟨r.k, v⟩ : Rw).l = v from rfl, h]
    rw [this]
   ·rw [if_neg q] at h ⊢
    unfold viewR
    rw [List.filterMap_cons]
    have : visR f to_ t ⟨k, v⟩ = none := by
     unfold visR; rw [if_neg]
     intro e
     rw [Bool.and_eq_true] at e
     have e1 : (atL v t).2 = true := e.1
     rw [h, at_nil] at e1; cases e1
    rw [this]

/-- at a time all is told as it was -/
structure Sm (t : Int) (rows rows' : List Rw) : Prop where
 g : ∀ j, atL (gR j rows') t = atL (gR j rows) t
 v : ∀ f to_, viewR f to_ t rows' = viewR f to_ t rows

theorem Sm.refl (t : Int) (rows : List Rw) : Sm t rows rows := ⟨fun _ => rfl, fun _ _ => rfl⟩

theorem Sm.trans {t : Int} {a b c : List Rw} (h1 : Sm t a b) (h2 : Sm t b c) : Sm t a c := ⟨fun j => (h2.g j).trans (h1.g j), fun f to_ => (h2.v f to_).trans (h1.v f to_)⟩

theorem lay_same {t last ts : Int} {o : EOp} {rows : List Rw} (hg : okL last (gR o.key rows)) (h0 : 0 ≤ last) (ht : last < ts) (h1 : t < ts) : Sm t rows (layR ts o rows) := by
 have e : atL (gR o.key rows ++ [⟨ts, o.val, o.del⟩]) t = atL (gR o.key rows) t := by rw [at_snoc hg h0 ht, if_neg (by show ¬ ts ≤ t; omega)]
 unfold layR
 refine ⟨fun j => ?_, fun f to_ => view_ins rows e⟩
 by_cases q : seqB o.key j = true
 ·rw [← seqB_iff.1 q, ins_g_same, e]
 ·rw [ins_g_other (by simpa using q)]

theorem puts_same {t last ts : Int} (h0 : 0 ≤ last) (ht : last < ts) (h1 : t < ts) : ∀ (l : List EOp) (a : Option ByteArray) (rows : List Rw), halfOk last ts a rows → KeysUp a l → Sm t rows (putR ts l rows)
 | [], _, rows, _, _ => Sm.refl _ _
 | o :: l, a, rows, h, hk => by
  obtain ⟨k1, k2, k3⟩ := hk
  exact (lay_same (h.g o.key k2) h0 ht h1).trans (puts_same h0 ht h1 l (some o.key) _ (half_lay h h0 ht k1 k2).2 k3)

end Go.Proofs.Ytfefmdllnjpmgaa
