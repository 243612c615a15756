/- To and fro, plain: the rounds, and what they come to. -/
import Derived.Test.YtmdoimpeacndaaaYReP3
namespace Go.Proofs.Ytmdoimpeacndaaa

/-- between two rounds: who is ahead, the tail, how many the tail has adopted -/
structure Rn (l A T : List EEntry) (g : Nat) : Prop where
 rA : Rt A
 rT : Rt T
 lA : A.length = l.length
 lT : T.length ≤ 60
 uA : Us A
 uT : Us T
 ad : Ad T A g
 gl : g ≤ l.length
 tl : ∀ j, j < l.length → tw (A.getD j default) (l.getD j default) = true ∧ ((l.getD j default).ts ≠ 0 → (A.getD j default).ts = (l.getD j default).ts)

def Settled (T : List EEntry) (n : Nat) : Prop := n ≤ stampF T ∨ lastF T = maxT

theorem tsAll_settled {floor : Int} {T : List EEntry} {n : Nat} (h : Settled T n) : tsAll floor (n - stampF T) (lastF T) = [] := by
 rcases h with h | h
 ·rw [show n - stampF T = 0 by omega]; rfl
 ·rw [h]
  cases n - stampF T with
  | zero => rfl
  | succ m => unfold tsAll; rw [if_pos rfl]

theorem Held_ok (a b : Int) : ∃ h, F_relay_Held a b true 0 = some h := by
 unfold F_relay_Held F_relay_Held_k1
 exact ⟨_, rfl⟩

set_option maxHeartbeats 4000000 in
theorem round {l A T : List EEntry} {g : Nat} (H : Rn l A T g) (hn : l.length ≤ 50) {floor : Int} (hf0 : 0 ≤ floor) (hf : floor ≤ maxT) :
  ∃ A' T', Rn l A' T' (min l.length (g + 4)) ∧ (l.length ≤ g + 4 → Settled T' l.length) ∧ (g = l.length → Settled T l.length → T' = T) ∧ min (min (stampF T') (min l.length (g + 4))) (stampF A + 1) ≤ stampF A' ∧
   ∀ (rc : (List EEntry × List EEntry × Int × Int × Int) → Option Bool) (i : Nat), i < 2 * l.length + 4 → F_law32_RelayAgree_l1 l floor rc (A, T, (g : Int), (g : Int), (i : Int)) = rc (A', T', ((min l.length (g + 4) : Nat) : Int), ((min l.length (g + 4) : Nat) : Int), (i : Int) + 1) := by
 obtain ⟨rA, rT, lA, lT, uA, uT, ad, gl, tl⟩ := H
 have hbd := bdM_ge
 have hgT := ad.1
 obtain ⟨x, x1, x2, x3, x4⟩ := Fwd_ok (A := A) (by omega) (g := g) (by omega) (l.length : Int)
 generalize hg' : min l.length (g + 4) = g'
 rw [lA, hg'] at x4
 have hel : x.entries.length = g' - g := by rw [x4, List.length_drop, List.length_take]; omega
 have hej : ∀ j, j < x.entries.length → x.entries.getD j default = A.getD (g + j) default := fun j hj => by
  have hlt : j < ((A.take g').drop g).length := by rw [← x4]; exact hj
  rw [x4, getD_lt hlt, List.getElem_drop, List.getElem_take, getD_lt]
 obtain ⟨r1, r2, r3, r4⟩ := run_ad rA (by omega) x.entries T g rT lT ad (by omega) hej
 rw [show g + x.entries.length = g' by omega] at r3 r4
 have u1 : Us (runT T g x.entries).1 := Us.run x.entries T g uT (fun e he => by
  obtain ⟨j, hj, rfl⟩ := List.getElem_of_mem he
  have := hej j hj
  rw [getD_lt hj] at this
  rw [this]; exact uA _ (by omega)) hgT
 have htake : F_adopt_Take T (g : Int) x.m x.entries = some ((runT T g x.entries).2.1, ((g' : Nat) : Int)) := by
  rw [x2, prog_Take (by omega) (by omega) (by omega), takeS_run rT hgT (Nat.le_refl _), Nat.sub_self, List.drop_zero, r4]
 have hlaid1 := laid32_ok rT (by omega) (l := x.entries) (by omega) g
 have hstable1 : g = l.length → (runT T g x.entries).1 = T := fun h => by
  have : x.entries = [] := List.length_eq_zero_iff.1 (by omega)
  rw [this]; rfl
 generalize (runT T g x.entries).1 = T1 at r1 r2 r3 u1 hlaid1 hstable1
 generalize (runT T g x.entries).2.1 = m1 at htake hlaid1
 have hT1 := r3.1
 -- the tail's timestamps
 have hAll := stamp_All (L := T1) (by omega) u1 hT1 hf0 hf
 have hs1 := stampF_le T1
 have ul1 := u1.last
 obtain ⟨t1, t2, t3, t4⟩ := tsAll_ok (floor := floor) hf (g' - stampF T1) (lastF T1) ul1.2
 have hsettle : l.length = g' → Settled T l.length → T1 = T → tsAll floor (g' - stampF T1) (lastF T1) = [] := fun h1 h2 h3 => by rw [← h1, h3]; exact tsAll_settled h2
 generalize tsAll floor (g' - stampF T1) (lastF T1) = s1 at hAll t1 t2 t3 t4 hsettle
 have hput : stampF T1 + s1.length ≤ T1.length := by omega
 have hlaid2 := laid32_ts r1 (by omega) rfl s1 hput t1 ul1.1
 obtain ⟨p1, p2, p3, p4, p5⟩ := putTs_ok s1 r1 rfl hput t1 ul1.1
 have u2 := u1.put r1 rfl hput t1 t3
 have hstable : g = l.length → Settled T l.length → putTs T1 (stampF T1) s1 = T := fun h1 h2 => by
  rw [hsettle (by omega) h2 (hstable1 h1)]; exact hstable1 h1
 have hset : l.length ≤ g + 4 → Settled (putTs T1 (stampF T1) s1) l.length := fun h => by
  unfold Settled
  rw [p3, p4]
  rcases t4 with t4 | t4
  ·exact .inl (by omega)
  ·exact .inr t4
 -- the tail still has what it adopted
 have ad2 : Ad (putTs T1 (stampF T1) s1) A g' := ⟨by rw [p2]; exact hT1, fun j hj => by
  have q := r3.2 j hj
  rw [p5 j]
  by_cases c : stampF T1 ≤ j ∧ j < stampF T1 + s1.length
  ·rw [if_pos c]
   refine ⟨q.1, fun hz => ?_⟩
   have := q.2 hz
   have := r1.zero c.1 (by omega)
   omega
  ·rw [if_neg c]; exact q⟩
 generalize putTs T1 (stampF T1) s1 = T2 at hlaid2 p1 p2 p3 p4 p5 u2 hstable hset ad2
 have hT2 := ad2.1
 -- what comes back
 obtain ⟨y, y1, y2, y3, y4⟩ := Ack_ok (L := T2) (by omega) hT2 ((Held_ok (g' : Int) (stampF T2 : Int)).choose) (stampF A)
 have hheld := (Held_ok (g' : Int) (stampF T2 : Int)).choose_spec
 generalize (Held_ok (g' : Int) (stampF T2 : Int)).choose = h0 at y1 hheld
 have hsA := stampF_le A
 have ulA := uA.last
 have hsl : y.stamps.length ≤ 100 := by
  rw [y4]
  refine Nat.le_trans (nzTs_len _) ?_
  rw [List.length_drop, List.length_take]; omega
 have hnil : g' < stampF A → y.stamps = [] := fun h => by
  have : ((T2.take (min g' (min (stampF A) g' + 8))).drop (min (stampF A) g')) = [] := List.drop_eq_nil_iff.2 (by rw [List.length_take]; omega)
  rw [y4, this]; rfl
 have hyes : stampF A ≤ g' → y.stamps.length = min (stampF T2) (min g' (stampF A + 8)) - stampF A ∧ (∀ q, q < y.stamps.length → y.stamps.getD q 0 = (T2.getD (stampF A + q) default).ts) ∧ okTs (lastF A) y.stamps ∧ stampF A ≤ stampF T2 := fun h => by
  have ha : stampF A ≤ stampF T2 := by
   by_cases z : stampF A = 0
   ·omega
   ·have e1 := stampF_pos A (stampF A - 1) (by omega)
    have e2 := (ad2.2 (stampF A - 1) (by omega)).2 e1
    have := p1.lt (j := stampF A - 1) (by omega) (by rw [e2]; exact e1)
    omega
  rw [y4, show min (stampF A) g' = stampF A by omega]
  obtain ⟨n1, n2, n3⟩ := nz_ok p1 _ (stampF A) (min g' (stampF A + 8)) rfl (by omega) (by omega) ha (lastF A) (fun h1 h2 => by
   by_cases z : stampF A = 0
   ·unfold lastF
    rw [if_pos z]
    have := (u2 (stampF A) h1).1
    omega
   ·unfold lastF
    rw [if_neg z]
    have e1 := stampF_pos A (stampF A - 1) (by omega)
    have e2 := (ad2.2 (stampF A - 1) (by omega)).2 e1
    rw [← e2]
    exact ((p1 (stampF A) h1).fol (by omega) h2).2)
  exact ⟨n1, n2, n3, ha⟩
 have hl2 : stampF A + y.stamps.length ≤ A.length := by
  by_cases c : g' < stampF A
  ·rw [hnil c]; exact hsA
  ·have := hyes (by omega); omega
 have ho2 : okTs (lastF A) y.stamps := by
  by_cases c : g' < stampF A
  ·rw [hnil c]; trivial
  ·exact (hyes (by omega)).2.2.1
 have hm2 : ∀ t ∈ y.stamps, t ≤ maxT := fun t ht => by
  by_cases c : g' < stampF A
  ·rw [hnil c] at ht; cases ht
  ·obtain ⟨z1, z2, z3, z4⟩ := hyes (by omega)
   obtain ⟨q, hq, rfl⟩ := List.getElem_of_mem ht
   have := z2 q hq
   rw [getD_lt hq] at this
   rw [this]
   exact (u2 _ (by omega)).2
 have hlearn := Learn_ok (A := A) (by omega) y3 hsl hnil hl2 ho2
 have hlaid3 := laid32_ts rA (by omega) rfl y.stamps hl2 ho2 ulA.1
 obtain ⟨q1, q2, q3, q4, q5⟩ := putTs_ok y.stamps rA rfl hl2 ho2 ulA.1
 have u3 := uA.put rA rfl hl2 ho2 hm2
 have hb3 : ∀ j, ((putTs A (stampF A) y.stamps).getD j default).batch = (A.getD j default).batch := fun j => by
  rw [q5]
  split <;> rfl
 have htw : ∀ j e, tw e ((putTs A (stampF A) y.stamps).getD j default) = tw e (A.getD j default) ∧ tw ((putTs A (stampF A) y.stamps).getD j default) e = tw (A.getD j default) e := fun j e => by
  unfold tw; rw [hb3 j]; exact ⟨rfl, rfl⟩
 have ad3 : Ad T2 (putTs A (stampF A) y.stamps) g' := ⟨hT2, fun j hj => by
  have q := ad2.2 j hj
  refine ⟨by rw [(htw j _).1]; exact q.1, ?_⟩
  rw [q5 j]
  by_cases c : stampF A ≤ j ∧ j < stampF A + y.stamps.length
  ·rw [if_pos c]
   intro _
   by_cases d : g' < stampF A
   ·rw [hnil d] at c; simp at c; omega
   ·have := (hyes (by omega)).2.1 (j - stampF A) (by omega)
    rw [show stampF A + (j - stampF A) = j by omega] at this
    exact this.symm
  ·rw [if_neg c]; exact q.2⟩
 have tl3 : ∀ j, j < l.length → tw ((putTs A (stampF A) y.stamps).getD j default) (l.getD j default) = true ∧ ((l.getD j default).ts ≠ 0 → ((putTs A (stampF A) y.stamps).getD j default).ts = (l.getD j default).ts) := fun j hj => by
  have q := tl j hj
  refine ⟨by rw [(htw j _).2]; exact q.1, fun hz => ?_⟩
  have e := q.2 hz
  have := rA.lt (j := j) (by omega) (by rw [e]; exact hz)
  rw [q5 j, if_neg (by omega)]; exact e
 have hprog : min (min (stampF T2) g') (stampF A + 1) ≤ stampF (putTs A (stampF A) y.stamps) := by
  rw [q3]
  by_cases c : g' < stampF A
  ·omega
  ·have := hyes (by omega); omega
 refine ⟨putTs A (stampF A) y.stamps, T2, ⟨q1, p1, by omega, by omega, u3, u2, ad3, by omega, tl3⟩, hset, hstable, hprog, fun rc i hi => ?_⟩
 have hgood : F_relay_Good y ((putTs A (stampF A) y.stamps).length : Int) = some (g' : Int) := by
  unfold F_relay_Good
  rw [y2, q2, show max (min (g' : Int) (A.length : Int)) 0 = (g' : Int) by omega]
 unfold F_law32_RelayAgree_l1
 dsimp only
 rw [chk_t (by unfold inI; omega), chk_t (by unfold inI; omega), if_pos (decide_eq_true (by omega)), x1, Option.bind_some, htake, Option.bind_some]
 dsimp only
 rw [hlaid1, Option.bind_some]
 dsimp only
 rw [if_neg (by rw [decide_eq_false (by omega)]; decide), hAll, Option.bind_some, hlaid2, Option.bind_some]
 dsimp only
 rw [if_neg (by decide), ref08_Stamped T2 (by omega), Option.bind_some, hheld, Option.bind_some, x3, y1, Option.bind_some, hlearn, Option.bind_some, hlaid3, Option.bind_some]
 dsimp only
 rw [if_neg (by decide), hgood, Option.bind_some, chk_t (by unfold inI; omega)]

theorem awake32 : F_law32_awake = some true := by kernel_rfl

theorem fin32 {l A T : List EEntry} (H : Rn l A T l.length) (hn : l.length ≤ 50) (hS : Settled T l.length) (hs : min (stampF T) l.length ≤ stampF A) : iter (F_law32_RelayAgree_l2 l A T (stampF A : Int)) FU 0 = some true := by
 obtain ⟨rA, rT, lA, lT, uA, uT, ad, gl, tl⟩ := H
 have hbd := bdM_ge
 have hT := ad.1
 have hsA := stampF_le A
 have hTA : stampF A ≤ stampF T := by
  by_cases z : stampF A = 0
  ·omega
  ·have e1 := stampF_pos A (stampF A - 1) (by omega)
   have e2 := (ad.2 (stampF A - 1) (by omega)).2 e1
   have := rT.lt (j := stampF A - 1) (by omega) (by rw [e2]; exact e1)
   omega
 have hts : ∀ j, j < l.length → (A.getD j default).ts = (T.getD j default).ts := fun j hj => by
  by_cases c : j < stampF A
  ·exact ((ad.2 j hj).2 (stampF_pos A j c)).symm
  ·rw [rA.zero (by omega) (by omega), rT.zero (by omega) (by omega)]
 refine iter_up l.length (fun _ => some true) (by omega) fun rc i hi hrc => ?_
 unfold F_law32_RelayAgree_l2
 dsimp only
 rw [toNat_cast]
 by_cases c : i < l.length
 ·have h := tl i c
  have h2 := ad.2 i c
  rw [if_pos (decide_eq_true (by omega)), chk_t (by omega), chk_t (by omega)]
  show (F_ref08_Twins (A.getD i default) (l.getD i default)).bind _ = _
  rw [ref08_Twins, Option.bind_some, h.1, chk_t (fun _ => by omega), chk_t (fun _ => by omega), show (!(!true)) = true from rfl, gif_true]
  show (F_ref08_Twins (T.getD i default) (l.getD i default)).bind _ = _
  rw [ref08_Twins, Option.bind_some, tw_trans h2.1 h.1, chk_t (fun _ => by omega), chk_t (fun _ => by omega), chk_t (fun _ => by omega), chk_t (fun _ => by omega), chk_t (fun _ => by omega), if_neg, chk_t (by unfold inI; omega)]
  ·exact hrc c
  ·rw [hts i c, bne_self_eq_false]
   by_cases z : (l.getD i default).ts = 0
   ·rw [z, bne_self_eq_false, Bool.false_and]; decide
   ·rw [← hts i c, h.2 z, bne_self_eq_false, Bool.and_false]; decide
 ·rw [if_neg (by rw [decide_eq_false (by omega)]; decide)]
  have hl : stampF A = l.length ∨ lastF A = maxT := by
   rcases hS with hS | hS
   ·exact .inl (by omega)
   ·by_cases d : l.length ≤ stampF T
    ·exact .inl (by omega)
    ·have e : stampF A = stampF T := by omega
     refine .inr ?_
     unfold lastF at hS ⊢
     rw [e]
     split at hS
     ·unfold maxT at hS; omega
     ·rename_i z
      rw [if_neg z, hts _ (by omega)]; exact hS
  have hlast := ref08_Last A (by omega)
  have hor : (((stampF A : Int) == (l.length : Int)) || (lastF A == 18446744073709551615)) = true := by
   rcases hl with h | h
   ·rw [h, beq_self_eq_true, Bool.true_or]
   ·rw [h]; unfold maxT; rw [beq_self_eq_true, Bool.or_true]
  by_cases d : stampF A = l.length
  ·rw [d, beq_self_eq_true]
   show ((gif false (F_ref08_Last A) default).bind fun l_6 => ((gif (true || (l_6 == 18446744073709551615)) F_law32_awake default).bind fun a0_4 => (some ((true || (l_6 == 18446744073709551615)) && a0_4)))) = some true
   rw [gif_false, Option.bind_some, Bool.true_or, gif_true, awake32]; rfl
  ·rw [show ((stampF A : Int) == (l.length : Int)) = false from by rw [beq_eq_false_iff_ne]; omega] at hor ⊢
   rw [show (!false) = true from rfl, gif_true, hlast, Option.bind_some, hor, gif_true, awake32]; rfl

theorem guard32 {m m2 r r2 : Int} {A B : Option Bool} (hA : A = some true) (hB : m ≤ 50 → m2 ≤ 50 → r = 0 → r2 = 0 → B = some true) :
  ((some m).bind fun m => ((gif (!(decide (m > 50))) (some m2) default).bind fun m_2 => ((gif (!((decide (m > 50)) || (decide (m_2 > 50)))) (some r) default).bind fun r0 => ((gif (!(((decide (m > 50)) || (decide (m_2 > 50))) || (r0 != 0))) (some r2) default).bind fun r0_2 => (if ((((decide (m > 50)) || (decide (m_2 > 50))) || (r0 != 0)) || (r0_2 != 0)) = true then (A.bind fun a0 => (some a0)) else B))))) = some true := by
 rw [Option.bind_some, hA, gif_some, Option.bind_some, gif_some, Option.bind_some, gif_some, Option.bind_some]
 by_cases c1 : m > 50
 ·rw [decide_eq_true c1]; rfl
 rw [decide_eq_false c1, show (!false) = true from rfl, if_pos rfl]
 by_cases c2 : m2 > 50
 ·rw [decide_eq_true c2]; rfl
 rw [decide_eq_false c2, show (!(false || false)) = true from rfl, if_pos rfl, show (false || false) = false from rfl, Bool.false_or]
 by_cases c3 : r = 0
 ·rw [show (r != 0) = false from by rw [c3]; rfl, show (!false) = true from rfl, if_pos rfl, Bool.false_or]
  by_cases c4 : r2 = 0
  ·rw [show (r2 != 0) = false from by rw [c4]; rfl, if_neg (by decide)]
   exact hB (by omega) (by omega) c3 c4
  ·rw [if_pos (bne_iff_ne.2 c4)]; rfl
 ·rw [bne_iff_ne.2 c3]; rfl

theorem bd_Us {l : List EEntry} (h : bdSl bdEEntry l) : Us l := fun j hj => by
 have := (h.2 j hj).2
 unfold inU at this
 unfold maxT; exact this

theorem pure_RelayAgree (l own : List EEntry) (floor : Int) (h1 : bdSl bdEEntry l) (h2 : bdSl bdEEntry own) (h3 : inU floor) : F_law32_RelayAgree l own floor = some true := by
 unfold F_law32_RelayAgree
 rw [law08_Much l h1, law08_Much own h2, ref08_Right l h1.1, ref08_Right own h2.1]
 refine guard32 awake32 fun a b c d => ?_
 have hR := (right_iff l).1 c
 have hO := (right_iff own).1 d
 have hbd := bdM_ge
 have hn : l.length ≤ 50 := by omega
 unfold inU at h3
 refine iter_rule (fun s : List EEntry × List EEntry × Int × Int × Int => 2 * l.length + 4 - s.2.2.2.2.toNat) (fun _ => some true) (fun s => ∃ (A T : List EEntry) (g i : Nat), s = (A, T, (g : Int), (g : Int), (i : Int)) ∧ Rn l A T g ∧ min l.length i ≤ g ∧ i ≤ 2 * l.length + 4 ∧ (l.length < i → Settled T l.length ∧ min (min (stampF T) l.length) (i - l.length - 1) ≤ stampF A)) ?_ FU _
  ⟨l, own, 0, 0, rfl, ⟨hR, hO, rfl, by omega, bd_Us h1, bd_Us h2, ⟨Nat.zero_le _, fun j hj => by omega⟩, Nat.zero_le _, fun j hj => ⟨tw_self _, fun _ => rfl⟩⟩, by omega, by omega, fun h => by omega⟩ (by unfold FU; simp only; omega)
 rintro rc _ ⟨A, T, g, i, rfl, H, hg, hi, hx⟩ hrc
 by_cases ci : i < 2 * l.length + 4
 ·obtain ⟨A', T', H', e1, e2, e3, e4⟩ := round H hn h3.1 (show floor ≤ maxT by unfold maxT; omega)
  rw [e4 rc i ci]
  have hgl := H.gl
  refine hrc _ ⟨A', T', min l.length (g + 4), i + 1, rfl, H', by omega, by omega, fun h => ⟨e1 (by omega), ?_⟩⟩ (by simp only; omega)
  by_cases d : l.length < i
  ·obtain ⟨x1, x2⟩ := hx d
   have e5 := e2 (by omega) x1
   rw [e5] at e3 ⊢
   omega
  ·omega
 ·have hi2 : i = 2 * l.length + 4 := by omega
  obtain ⟨x1, x2⟩ := hx (by omega)
  have hgl := H.gl
  have hg2 : g = l.length := by omega
  subst hg2
  have hT := H.ad.1
  have hA := H.lA
  have hsA := stampF_le A
  unfold F_law32_RelayAgree_l1
  dsimp only
  rw [chk_t (by unfold inI; omega), chk_t (by unfold inI; omega), if_neg (by rw [decide_eq_false (by omega)]; decide), if_neg, ref08_Stamped A (by omega), Option.bind_some]
  ·exact fin32 H hn x1 (by omega)
  ·rw [hA, bne_self_eq_false, decide_eq_false (by omega)]; decide

end Go.Proofs.Ytmdoimpeacndaaa
