/- Configurations as bytes: what is put, what is read, there and back. -/
import Derived.Test.YthmjkcdpbbcdgaaYConfP
import Derived.Test.YthmjkcdpbbcdgaaYWP
namespace Go.Proofs.Ythmjkcdpbbcdgaa

instance : DecidableEq EMember := fun _ _ => decidable_of_iff _ eqEMember_iff

theorem eqEMember_dec (x y : EMember) : eqEMember x y = decide (x = y) := by
 by_cases h : x = y
 ·rw [decide_eq_true h]; exact eqEMember_iff.2 h
 ·rw [decide_eq_false h, Bool.eq_false_iff]; exact fun e => h (eqEMember_iff.1 e)

def sameConf (a b : EConf) : Bool := decide (a.epoch = b.epoch ∧ a.floor = b.floor ∧ a.members = b.members)

theorem sameConf_self (a : EConf) : sameConf a a = true := decide_eq_true ⟨rfl, rfl, rfl⟩

theorem eqMems (l1 l2 : List EMember) (hl : l1.length = l2.length) (hb : l1.length ≤ bdM) (body : (Int → Option Bool) → Int → Option Bool)
  (h : ∀ rc (k : Nat), body rc (k : Int) = if k < l1.length then (if (!eqEMember (l1.getD k default) (l2.getD k default)) = true then some false else rc ((k : Int) + 1)) else some true) : iter body FU 0 = some (decide (l1 = l2)) := by
 refine (iter_up l1.length (fun k => some (decide (l1.drop k = l2.drop k))) hb fun rc k hk hrc => ?_).trans (by simp only [List.drop_zero])
 rw [h]
 split
 ·rename_i h1
  rw [drop_cons (d := default) h1, drop_cons (d := default) (l := l2) (by omega)]
  by_cases he : l1.getD k default = l2.getD k default
  ·rw [he, eqEMember_dec, decide_eq_true rfl, if_neg (by decide), hrc h1]
   congr 1
   exact decide_eq_decide.2 ⟨fun e => by rw [e], fun e => (List.cons.inj e).2⟩
  ·rw [eqEMember_dec, decide_eq_false he, if_pos (by decide)]
   congr 1
   exact (decide_eq_false fun e => he (List.cons.inj e).1).symm
 ·rw [List.drop_eq_nil_of_le (by omega), List.drop_eq_nil_of_le (by omega)]; rfl

theorem ref07_Same (a b : EConf) (ha : a.members.length ≤ bdM) : F_ref07_Same a b = some (sameConf a b) := by
 unfold F_ref07_Same sameConf
 simp only [Bool.or_eq_true, bne_iff_ne]
 split
 ·rename_i h
  congr 1
  exact (decide_eq_false fun e => by rw [e.1, e.2.1, e.2.2] at h; simp at h).symm
 ·rename_i h
  have h1 : a.epoch = b.epoch := Decidable.by_contra fun x => h (.inl (.inl x))
  have h2 : a.floor = b.floor := Decidable.by_contra fun x => h (.inl (.inr x))
  have h3 : a.members.length = b.members.length := by
   have : (a.members.length : Int) = b.members.length := Decidable.by_contra fun x => h (.inr x)
   omega
  rw [eqMems a.members b.members h3 ha _ fun rc k => ?_]
  ·simp only [h1, h2, true_and]
  ·simp only [F_ref07_Same_l1, Bool.and_eq_true, decide_eq_true_eq, toNat_cast]
   by_cases hk : k < a.members.length
   ·rw [if_pos ⟨by omega, by omega⟩, if_pos hk, chk_t (by omega), chk_t (by omega), chk_t (by unfold inI; unfold bdM at ha; omega)]
   ·rw [if_neg (by omega), if_neg hk]

/-- members as bytes -/
def memB (m : EMember) : List Nat := vputL m.id.toNat ++ vputL m.serial.toNat

def memsB (l : List EMember) : List Nat := l.flatMap memB

def confB (c : EConf) : List Nat := vputL c.epoch.toNat ++ (vputL c.members.length ++ (memsB c.members ++ vputL c.floor.toNat))

theorem memB_len (m : EMember) : (memB m).length ≤ 18 := by
 have := vputL_len m.id.toNat; have := vputL_len m.serial.toNat
 unfold memB; rw [List.length_append]; omega

theorem memsB_len : ∀ l : List EMember, (memsB l).length ≤ 18 * l.length
 | [] => Nat.le_refl _
 | m :: r => by
  have := memsB_len r; have := memB_len m
  show (memB m ++ memsB r).length ≤ _
  rw [List.length_append, List.length_cons]; omega

theorem memsB_snoc (l : List EMember) (m : EMember) : memsB (l ++ [m]) = memsB l ++ memB m := by unfold memsB; rw [List.flatMap_append]; simp

theorem confB_len {c : EConf} (h : c.members.length ≤ 4) : (confB c).length ≤ 99 := by
 have := memsB_len c.members; have := vputL_len c.epoch.toNat; have := vputL_len c.members.length; have := vputL_len c.floor.toNat
 unfold confB; simp only [List.length_append]; omega

theorem conf_Put (c : EConf) (hb : bdEConf c) (h0 : confCheck c = 0) : ∃ s, bL s = confB c ∧ F_conf_Put c = some (s, 0) := by
 obtain ⟨c1, c2, c3, c4, cm, _⟩ := confCheck_ok h0
 have ha := vputL_len c.epoch.toNat
 have hb2 := vputL_len c.members.length
 obtain ⟨y1, e1, w1⟩ := wW_num (x := default) (z := c.epoch) Wt.w0 (by omega) hb.epoch (by simp)
 obtain ⟨y2, e2, w2⟩ := wW_num (z := (c.members.length : Int)) w1 (by omega) (by unfold inI; omega) (by simp only [List.nil_append]; omega)
 unfold F_conf_Put
 rw [conf_Check, h0, Option.bind_some, if_neg (by decide), F_wire_New, Option.bind_some, e1, Option.bind_some, e2, Option.bind_some]
 obtain ⟨s, hs⟩ : ∃ s : ByteArray, bL s = confB c := by
  refine ⟨strB (confB c), bL_strB fun b hb => ?_⟩
  unfold confB memsB memB at hb
  simp only [List.mem_append, List.mem_flatMap] at hb
  rcases hb with h | h | ⟨m, _, h | h⟩ | h <;> exact vputL_lt _ _ h
 refine ⟨s, hs, ?_⟩
 refine (iter_up2 (σ := Ewire_Writer) c.members.length (fun _ _ => some (s, 0)) (fun k y => Wt (toWw y) (vputL c.epoch.toNat ++ (vputL c.members.length ++ memsB (c.members.take k)))) (by unfold bdM; omega) (by simpa [memsB] using w2) fun rc k y hk hy hrc => ?_)
 simp only [F_conf_Put_l1, decide_eq_true_eq, toNat_cast]
 have hml := memsB_len (c.members.take k)
 rw [List.length_take] at hml
 split
 ·rename_i hk1
  have hk' : k < c.members.length := by omega
  have hm := cm (c.members.getD k default) (by rw [getD_lt hk']; exact List.getElem_mem hk')
  have hq := vputL_len (c.members.getD k default).id.toNat
  obtain ⟨y3, e3, w3⟩ := wW_num (z := (c.members.getD k default).id) hy (by omega) (by unfold inI; omega) (by simp only [List.length_append]; omega)
  obtain ⟨y4, e4, w4⟩ := wW_num (z := (c.members.getD k default).serial) w3 (by omega) (by unfold inI; omega) (by simp only [List.length_append]; omega)
  rw [chk_t (by omega), e3, Option.bind_some, e4, Option.bind_some, chk_t (by unfold inI; omega)]
  refine hrc y4 hk' ?_
  rw [take_snoc (d := default) hk', memsB_snoc, memB]
  simpa only [List.append_assoc] using w4
 ·rename_i hk1
  obtain ⟨y3, e3, w3⟩ := wW_big (z := c.floor) hy hb.floor (by simp only [List.length_append]; omega)
  obtain ⟨t, e4, w4⟩ := wW_done w3
  rw [e3, Option.bind_some, e4, Option.bind_some]
  rw [List.take_of_length_le (by omega)] at w4
  have : t = s := bL_inj (by rw [w4, hs, confB]; simp only [List.append_assoc])
  rw [this]

/-- members read -/
def memsRd : Nat → DReaderR → List EMember × DReaderR
 | 0, r => ([], r)
 | k + 1, r => (⟨rNumV r 3, rNumV (rNum r 3) 1073741824⟩ :: (memsRd k (rNum (rNum r 3) 1073741824)).1, (memsRd k (rNum (rNum r 3) 1073741824)).2)

def confEnd (epoch : Int) (l : List EMember) (r : DReaderR) : EConf × Int :=
 if rEnd (rBig r) ≠ 0 then (default, rEnd (rBig r)) else if confCheck ⟨epoch, l, rBigV r⟩ ≠ 0 then (default, confCheck ⟨epoch, l, rBigV r⟩) else (⟨epoch, l, rBigV r⟩, 0)

def confOf (s : ByteArray) : EConf × Int :=
 confEnd (rNumV ⟨s, 0, 0⟩ 1073741824) (memsRd (rNumV (rNum ⟨s, 0, 0⟩ 1073741824) 4).toNat (rNum (rNum ⟨s, 0, 0⟩ 1073741824) 4)).1 (memsRd (rNumV (rNum ⟨s, 0, 0⟩ 1073741824) 4).toNat (rNum (rNum ⟨s, 0, 0⟩ 1073741824) 4)).2

theorem conf_Of_loop (n0 n0_2 : Int × Ewire_Reader) (n : Nat) (hn : n0_2.1 = (n : Int)) (hn4 : n ≤ 4) (r : DReaderR) (hr : rdOk r) : iter (F_conf_Of_l1 n0 n0_2) FU (0, r.s, r.at_, r.e, true, []) = some (confEnd n0.1 (memsRd n r).1 (memsRd n r).2) := by
 refine (iter_up2 (σ := ByteArray × Int × Int × Bool × List EMember) n (fun k st => some (confEnd n0.1 (st.2.2.2.2 ++ (memsRd (n - k) ⟨st.1, st.2.1, st.2.2.1⟩).1) (memsRd (n - k) ⟨st.1, st.2.1, st.2.2.1⟩).2)) (fun k st => rdOk ⟨st.1, st.2.1, st.2.2.1⟩ ∧ st.2.2.2.1 = true ∧ st.2.2.2.2.length = k) (by unfold bdM; omega) (s0 := (r.s, r.at_, r.e, true, [])) ⟨hr, rfl, rfl⟩ fun rc k st hk hp hrc => ?_).trans (by rw [List.nil_append, Nat.sub_zero])
 obtain ⟨t, a, e, md, l⟩ := st
 obtain ⟨h1, h2, h3⟩ := hp
 change md = true at h2
 subst h2
 have i0 : inI 1073741824 := by unfold inI; omega
 have i3 : inI 3 := by unfold inI; omega
 have q1 := rNum_ok (most := 3) h1
 have q2 := rNum_ok (most := 1073741824) q1
 change rdOk ⟨t, a, e⟩ at h1
 change rdOk (rNum ⟨t, a, e⟩ 3) at q1
 change rdOk (rNum (rNum ⟨t, a, e⟩ 3) 1073741824) at q2
 change l.length = k at h3
 unfold F_conf_Of_l1
 show (if (decide ((k : Int) < n0_2.1)) = true then (F_wire_Reader_Num (ofRw ⟨t, a, e⟩) 3).bind _ else (F_wire_Reader_Big (ofRw ⟨t, a, e⟩)).bind _) = _
 rw [wR_num h1 i3, wR_big h1, Option.bind_some, Option.bind_some, wR_num q1 i0, Option.bind_some, wR_end (rBig_ok h1), Option.bind_some, hn]
 by_cases hk1 : k < n
 ·rw [if_pos (decide_eq_true (by omega)), chk_t (by rw [h3]; show ((k + 1 : Nat) : Int) * 16 ≤ _; omega), chk_t (by unfold inI; omega)]
  refine (hrc ((rNum (rNum ⟨t, a, e⟩ 3) 1073741824).s, (rNum (rNum ⟨t, a, e⟩ 3) 1073741824).at_, (rNum (rNum ⟨t, a, e⟩ 3) 1073741824).e, true, l ++ [⟨rNumV ⟨t, a, e⟩ 3, rNumV (rNum ⟨t, a, e⟩ 3) 1073741824⟩]) hk1 ⟨q2, rfl, by rw [List.length_append, h3]; rfl⟩).trans ?_
  rw [show n - k = (n - (k + 1)) + 1 by omega]
  show some (confEnd n0.1 (_ ++ _) _) = some (confEnd n0.1 (l ++ (_ :: _)) _)
  rw [List.append_assoc]
  rfl
 ·rw [if_neg (by rw [decide_eq_false (by omega)]; exact Bool.false_ne_true), show n - k = 0 by omega]
  show _ = some (confEnd n0.1 (l ++ []) ⟨t, a, e⟩)
  rw [List.append_nil]
  unfold confEnd
  by_cases g1 : rEnd (rBig ⟨t, a, e⟩) = 0
  ·rw [g1, if_neg (by decide), conf_Check, Option.bind_some]
   rw [if_neg (show ¬ (0 : Int) ≠ 0 by decide)]
   dsimp only
   by_cases g2 : confCheck ⟨n0.1, l, rBigV ⟨t, a, e⟩⟩ = 0
   ·rw [g2]; rfl
   ·rw [if_pos (bne_iff_ne.2 g2), if_pos g2]
  ·rw [if_pos (bne_iff_ne.2 g1), if_pos g1]

theorem conf_Of (s : ByteArray) (hs : s.size ≤ maxLen) : F_conf_Of s = some (confOf s) := by
 have k0 := start_ok s hs
 have k1 := rNum_ok (most := 1073741824) k0
 have k2 := rNum_ok (most := 4) k1
 have i0 : inI 1073741824 := by unfold inI; omega
 have i4 : inI 4 := by unfold inI; omega
 obtain ⟨n, hn⟩ := rNumV_nat (rNum ⟨s, 0, 0⟩ 1073741824) 4
 have hn4 := (rNumV_le (r := rNum ⟨s, 0, 0⟩ 1073741824) (most := 4) (by decide)).2
 rw [hn] at hn4
 unfold F_conf_Of
 rw [wR_open s hs, Option.bind_some, wR_num k0 i0, Option.bind_some, wR_num k1 i4, Option.bind_some]
 have := conf_Of_loop (rNumV ⟨s, 0, 0⟩ 1073741824, ofRw (rNum ⟨s, 0, 0⟩ 1073741824)) (rNumV (rNum ⟨s, 0, 0⟩ 1073741824) 4, ofRw (rNum (rNum ⟨s, 0, 0⟩ 1073741824) 4)) n hn (by omega) _ k2
 refine this.trans ?_
 unfold confOf
 rw [hn]; rfl

-- there
theorem memsRd_there : ∀ (l : List EMember) (r : DReaderR) (q : List Nat), (∀ m ∈ l, 0 ≤ m.id ∧ m.id < 4 ∧ 1 ≤ m.serial ∧ m.serial ≤ 1073741824) → Rd r (memsB l ++ q) → (memsRd l.length r).1 = l ∧ Rd (memsRd l.length r).2 q
 | [], r, q, _, h => ⟨rfl, h⟩
 | m :: l, r, q, hm, h => by
  obtain ⟨m1, m2, m3, m4⟩ := hm m (by simp)
  have e : memsB (m :: l) ++ q = vputL m.id.toNat ++ (vputL m.serial.toNat ++ (memsB l ++ q)) := by
   show (memB m ++ memsB l) ++ q = _
   unfold memB; simp only [List.append_assoc]
  rw [e] at h
  obtain ⟨v1, r1⟩ := h.num (most := 3) (by omega) (by decide)
  obtain ⟨v2, r2⟩ := r1.num (most := 1073741824) (by omega) (by decide)
  obtain ⟨v3, r3⟩ := memsRd_there l _ q (fun x hx => hm x (by simp [hx])) r2
  rw [List.length_cons]
  unfold memsRd
  refine ⟨?_, r3⟩
  rw [v3, v1, v2]
  congr 1
  obtain ⟨mi, ms⟩ := m
  simp only at m1 m2 m3 m4 ⊢
  rw [Int.toNat_of_nonneg m1, Int.toNat_of_nonneg (by omega)]

theorem confOf_there (c : EConf) (s : ByteArray) (h0 : confCheck c = 0) (hf : inU c.floor) (hs : bL s = confB c) : confOf s = (c, 0) := by
 obtain ⟨c1, c2, c3, c4, cm, _⟩ := confCheck_ok h0
 have hsz : s.size ≤ maxLen := by have := confB_len c4; rw [← hs, bL_len] at this; unfold maxLen; omega
 have h := Rd.start s hsz
 rw [hs, confB] at h
 obtain ⟨v1, r1⟩ := h.num (most := 1073741824) (by omega) (by decide)
 obtain ⟨v2, r2⟩ := r1.num (most := 4) (by omega) (by decide)
 obtain ⟨v3, r3⟩ := memsRd_there _ _ _ cm r2
 unfold inU at hf
 obtain ⟨v4, r4⟩ := Rd.big (l := []) (by rw [List.append_nil]; exact r3) (by omega)
 unfold confOf
 simp only [v2, toNat_cast, v3, v1]
 unfold confEnd
 have e : (⟨(c.epoch.toNat : Int), c.members, ((rBigV (memsRd c.members.length (rNum (rNum ⟨s, 0, 0⟩ 1073741824) 4)).2 : Nat) : Int)⟩ : EConf) = c := by
  obtain ⟨ce, cl, cf⟩ := c
  simp only at v4 c1 c2 hf ⊢
  rw [v4]; congr 1 <;> omega
 rw [e, r4.end, if_neg (by simp), h0, if_neg (by simp)]

-- back
theorem memsRd_e0 : ∀ (n : Nat) (r : DReaderR), (memsRd n r).2.e = 0 → r.e = 0
 | 0, _, h => h
 | n + 1, r, h => rNum_e0 (rNum_e0 (memsRd_e0 n _ h))

theorem memsRd_back : ∀ (n : Nat) (r : DReaderR) (q : List Nat), Rd r q → (memsRd n r).2.e = 0 → ∃ q', q = memsB (memsRd n r).1 ++ q' ∧ Rd (memsRd n r).2 q' ∧ (memsRd n r).1.length = n
 | 0, r, q, h, _ => ⟨q, rfl, h, rfl⟩
 | n + 1, r, q, h, he => by
  have e2 := memsRd_e0 n _ he
  have e1 := rNum_e0 e2
  obtain ⟨a, q1, h1, h2, h3, h4⟩ := h.num_back e1
  obtain ⟨b, q2, h5, h6, h7, h8⟩ := h4.num_back e2
  obtain ⟨q3, h9, h10, h11⟩ := memsRd_back n _ q2 h8 he
  refine ⟨q3, ?_, h10, by unfold memsRd; simp [h11]⟩
  unfold memsRd
  show q = (memB ⟨rNumV r 3, rNumV (rNum r 3) 1073741824⟩ ++ memsB (memsRd n (rNum (rNum r 3) 1073741824)).1) ++ q3
  unfold memB
  rw [h1, h5, toNat_cast, toNat_cast, h3, h7, h9]
  simp only [List.append_assoc]

theorem confOf_back (s : ByteArray) (hs : s.size ≤ maxLen) (h0 : (confOf s).2 = 0) : confCheck (confOf s).1 = 0 ∧ bL s = confB (confOf s).1 ∧ inU (confOf s).1.floor := by
 unfold confOf at h0 ⊢
 unfold confEnd at h0 ⊢
 split at h0; · exact absurd h0 (by assumption)
 split at h0; · exact absurd h0 (by assumption)
 rename_i h1 h2
 rw [if_neg h1, if_neg h2]
 simp only at h2 ⊢
 have e4 := rEnd_e (Decidable.not_not.1 h1)
 have e3 := rBig_e0 e4
 have e2 := memsRd_e0 _ _ e3
 have e1 := rNum_e0 e2
 have h := Rd.start s hs
 obtain ⟨a, q1, a1, a2, a3, a4⟩ := h.num_back e1
 obtain ⟨b, q2, b1, b2, b3, b4⟩ := a4.num_back e2
 obtain ⟨q3, g1, g2, g3⟩ := memsRd_back _ _ _ b4 e3
 obtain ⟨q4, f1, f2⟩ := g2.big_back e4
 have hq : q4 = [] := by
  have := f2.end
  rw [Decidable.not_not.1 h1] at this
  by_cases hq : q4 = []
  ·exact hq
  ·rw [if_neg hq] at this; cases this
 refine ⟨Decidable.not_not.1 h2, ?_, ?_⟩
 ·unfold confB
  simp only
  rw [g3, b1, toNat_cast, a1, toNat_cast, toNat_cast, a3, b3, g1, f1, hq, List.append_nil, b1, toNat_cast]
 ·unfold inU; have := rBigV_lt (memsRd (rNumV (rNum ⟨s, 0, 0⟩ 1073741824) 4).toNat (rNum (rNum ⟨s, 0, 0⟩ 1073741824) 4)).2; omega

theorem confOf_err (s : ByteArray) (h : (confOf s).2 ≠ 0) : (confOf s).1 = default := by
 unfold confOf confEnd at h ⊢
 split; · rfl
 split; · rfl
 rename_i h1 h2
 rw [if_neg h1, if_neg h2] at h
 exact absurd rfl h

end Go.Proofs.Ythmjkcdpbbcdgaa
