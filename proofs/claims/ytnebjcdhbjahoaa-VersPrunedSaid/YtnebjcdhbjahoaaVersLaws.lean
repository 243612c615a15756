/- The laws of layer 14 walked: each returns true and writes nothing that was there. -/
import Derived.Test.YtnebjcdhbjahoaaVers3
import Derived.Test.YtnebjcdhbjahoaaCell2
namespace Go.Proofs.Ytnebjcdhbjahoaa
open Go.RowKit

def cA : Cell := ⟨3, ⟨#[97]⟩, false⟩
def cB : Cell := ⟨7, ⟨#[98]⟩, false⟩

theorem size_alloc_lt (w : World) (o : Obj) : w.heap.size ≤ (w.alloc o).heap.size := by simp

set_option maxHeartbeats 800000 in
theorem c_awake14 (w : World) : Calls Try.prog 6 #[] w fun e w' => e = .returned (.bool true) ∧ Below w.heap.size w w' := by
  have hs0 : slRep RCell (fun k => w.heap.size ≤ k) (w.alloc (.cells #[.int .u64 3, .string ⟨#[97]⟩, .bool false] 25)) (.slice (some ⟨w.heap.size, 0, none⟩) 1 1) [cA] := slRep.made1 (Nat.le_refl _) ⟨rfl, by decide, by decide⟩
  have Hs0 := Lib.hid hs0
  have p1 : (putL [cA] cB).1 = [cA, cB] := by rfl
  have p2 : (putL [cA] cB).2 = 0 := by rfl
  have q1 : atL [cA, cB] 5 = (⟨#[97]⟩, true) := by rfl
  have q2 : (pruneL [cA, cB] 7).length = 1 := by rfl
  have hput := c_vers_Put _ [cA] cB (w.alloc (.cells #[.int .u64 3, .string ⟨#[97]⟩, .bool false] 25)) hs0 ⟨by decide, by decide⟩ (by simp)
  rw [p1, p2] at hput
  have Hput := Lib.hid hput
  have Hq1 := Lib.hid q1
  have Hq2 := Lib.hid q2
  clear hs0 p1 p2 q1 q2 hput
  go_enter Try.func6, Try.ntmps6
  go_wp2_with fail
  refine Hput.out.mono ?_
  rintro e w1 ⟨v1, rfl, hs1, hb1⟩
  obtain ⟨ao, b, off, cap, rfl, hcc, hm, hb, hx⟩ := id hs1
  clear hx hb
  have Hs1 := Lib.hid hs1
  clear hs1
  go_wp2_with fail
  have hat := c_vers_At _ [cA, cB] 5 w1 Hs1.out
  rw [Hq1.out] at hat
  refine hat.mono ?_
  clear hat
  rintro e w2 ⟨rfl, hb2⟩
  have Hs2 := Lib.hid (Hs1.out.below hb2)
  go_wp2_with fail
  refine (c_vers_Prune _ [cA, cB] 7 w2 Hs2.out (by simp)).mono ?_
  rintro e w3 ⟨v3, rfl, ho, hb3⟩
  obtain ⟨ao3, cap3, rfl, _, _⟩ := ho.len_le
  rw [Hq2.out]
  go_wp2
  go_ret
  exact ⟨rfl, ((Below.refl _ _).alloc (Nat.le_refl _) _).trans ((hb1.mono (by simp)).trans ((hb2.mono (Nat.le_trans (by simp) hb1.size)).trans (hb3.mono (Nat.le_trans (by simp) (Nat.le_trans hb1.size hb2.size)))))⟩

set_option maxHeartbeats 1600000 in
set_option maxRecDepth 100000 in
theorem law_VersPlays {A : Nat → Prop} (v : Value) (l : List Cell) (c : Cell) (t : Nat) (w : World) (hl : slRep RCell A w v l) (hc : c.ts < 18446744073709551616 ∧ c.val.size ≤ maxLen) :
    Calls Try.prog 3 #[v, .agg #[.int .u64 c.ts, .string c.val, .bool c.del], .int .u64 t] w fun e w' => e = .returned (.bool true) ∧ Below w.heap.size w w' := by
  have hl0 := hl
  obtain ⟨ao, b, off, cap, rfl, hcc, hm, hb, hx⟩ := id hl
  unfold maxLen at hm
  clear hx hb
  have hbox : Below w.heap.size w (w.alloc (.cells #[.int .u64 c.ts, .string c.val, .bool c.del] 25)) := (Below.refl _ _).alloc (Nat.le_refl _) _
  have L := Lib.hid (hl0.below hbox)
  have hz0 : w.heap.size + 1 ≤ (w.alloc (.cells #[.int .u64 c.ts, .string c.val, .bool c.del] 25)).heap.size := by simp
  have B : Hid (Below (w.heap.size + 1) (w.alloc (.cells #[.int .u64 c.ts, .string c.val, .bool c.del] 25)) (w.alloc (.cells #[.int .u64 c.ts, .string c.val, .bool c.del] 25))) := Lib.hid (Below.refl _ _)
  have Hbx : Hid (∀ w1, Below (w.heap.size + 1) (w.alloc (.cells #[.int .u64 c.ts, .string c.val, .bool c.del] 25)) w1 → w1.cell? ⟨w.heap.size, 0, none⟩ = some (.int .u64 c.ts) ∧ w1.cell? ⟨w.heap.size, 1, none⟩ = some (.string c.val) ∧ w1.cell? ⟨w.heap.size, 2, none⟩ = some (.bool c.del)) := Lib.hid fun w1 b1 =>
      ⟨(b1.cell (p := ⟨w.heap.size, 0, none⟩) (by simp)).trans (World.cell?_alloc_at _ _ _ _ rfl), (b1.cell (p := ⟨w.heap.size, 1, none⟩) (by simp)).trans (World.cell?_alloc_at _ _ _ _ rfl), (b1.cell (p := ⟨w.heap.size, 2, none⟩) (by simp)).trans (World.cell?_alloc_at _ _ _ _ rfl)⟩
  have Hend : Hid (∀ w1, Below (w.heap.size + 1) (w.alloc (.cells #[.int .u64 c.ts, .string c.val, .bool c.del] 25)) w1 → Below w.heap.size w w1) := Lib.hid fun w1 b1 => hbox.trans (b1.mono (by omega))
  simp only [World.size_alloc] at hz0
  clear hbox hl hl0
  by_cases hlen : 100 < l.length
  · have hlb : decide ((100 : Int) < (l.length : Int)) = true := by simp; omega
    go_enter Try.func3, Try.ntmps3
    go_wp2_with fail
    refine (c_awake14 _).mono ?_
    rintro e w1 ⟨rfl, b1⟩
    replace B := Lib.hid (B.out.trans (b1.mono (by first | exact Nat.le_refl _ | simp; done | omega | (simp; omega))))
    have hz1 := b1.size
    try simp only [World.size_alloc] at hz1
    clear b1
    go_wp2
    go_ret
    exact ⟨rfl, Hend.out _ B.out⟩
  · have hlb : decide ((100 : Int) < (l.length : Int)) = false := by simp; omega
    go_enter Try.func3, Try.ntmps3
    go_wp2_with fail
    refine (c_vers_Put _ l c _ L.out hc (by omega)).mono ?_
    rintro e w1 ⟨v1, rfl, s1, b1⟩
    replace B := Lib.hid (B.out.trans (b1.mono (by first | exact Nat.le_refl _ | simp; done | omega | (simp; omega))))
    have hz1 := b1.size
    try simp only [World.size_alloc] at hz1
    replace L := Lib.hid (L.out.below b1)
    clear b1
    have S1 := Lib.hid s1
    obtain ⟨k0, k1, k2⟩ := Hbx.out _ B.out
    clear s1
    go_wp2_with fail
    refine (c_ref_Put _ l c _ L.out hc (by omega)).mono ?_
    rintro e w2 ⟨v2, rfl, s2, b2⟩
    replace B := Lib.hid (B.out.trans (b2.mono (by first | exact Nat.le_refl _ | simp; done | omega | (simp; omega))))
    have hz2 := b2.size
    try simp only [World.size_alloc] at hz2
    replace L := Lib.hid (L.out.below b2)
    replace S1 := Lib.hid (S1.out.below b2)
    clear b2
    have S2 := Lib.hid s2
    clear s2 k0 k1 k2
    go_wp2_with fail
    refine (c_vers_At _ l t _ L.out).mono ?_
    rintro e w3 ⟨rfl, b3⟩
    replace B := Lib.hid (B.out.trans (b3.mono (by first | exact Nat.le_refl _ | simp; done | omega | (simp; omega))))
    have hz3 := b3.size
    try simp only [World.size_alloc] at hz3
    replace L := Lib.hid (L.out.below b3)
    replace S1 := Lib.hid (S1.out.below b3)
    replace S2 := Lib.hid (S2.out.below b3)
    clear b3
    go_wp2_with fail
    refine (c_ref_At _ l t _ L.out).mono ?_
    rintro e w4 ⟨rfl, b4⟩
    replace B := Lib.hid (B.out.trans (b4.mono (by first | exact Nat.le_refl _ | simp; done | omega | (simp; omega))))
    have hz4 := b4.size
    try simp only [World.size_alloc] at hz4
    replace L := Lib.hid (L.out.below b4)
    replace S1 := Lib.hid (S1.out.below b4)
    replace S2 := Lib.hid (S2.out.below b4)
    clear b4
    go_wp2_with fail
    refine (c_vers_Right _ l _ L.out).mono ?_
    rintro e w5 ⟨rfl, b5⟩
    replace B := Lib.hid (B.out.trans (b5.mono (by first | exact Nat.le_refl _ | simp; done | omega | (simp; omega))))
    have hz5 := b5.size
    try simp only [World.size_alloc] at hz5
    replace L := Lib.hid (L.out.below b5)
    replace S1 := Lib.hid (S1.out.below b5)
    replace S2 := Lib.hid (S2.out.below b5)
    clear b5
    go_wp2_with fail
    refine (c_ref_Right _ l _ L.out).mono ?_
    rintro e w6 ⟨rfl, b6⟩
    replace B := Lib.hid (B.out.trans (b6.mono (by first | exact Nat.le_refl _ | simp; done | omega | (simp; omega))))
    have hz6 := b6.size
    try simp only [World.size_alloc] at hz6
    replace L := Lib.hid (L.out.below b6)
    replace S1 := Lib.hid (S1.out.below b6)
    replace S2 := Lib.hid (S2.out.below b6)
    clear b6
    go_wp2_with fail
    refine (c_ref_Same _ _ _ _ S1.out S2.out).mono ?_
    rintro e w7 ⟨rfl, b7⟩
    replace B := Lib.hid (B.out.trans (b7.mono (by first | exact Nat.le_refl _ | simp; done | omega | (simp; omega))))
    have hz7 := b7.size
    try simp only [World.size_alloc] at hz7
    replace L := Lib.hid (L.out.below b7)
    clear b7
    go_wp2_with fail
    refine (c_vers_Prune _ l t _ L.out (by omega)).mono ?_
    rintro e w8 ⟨v8, rfl, o8, b8⟩
    replace B := Lib.hid (B.out.trans (b8.mono (by first | exact Nat.le_refl _ | simp; done | omega | (simp; omega))))
    have hz8 := b8.size
    try simp only [World.size_alloc] at hz8
    replace L := Lib.hid (L.out.below b8)
    clear b8
    have P1 := Lib.hid (o8.slF RCell.flat (A' := fun _ => True) (fun _ _ => trivial))
    clear o8
    go_wp2_with fail
    refine (c_ref_Prune _ l t _ L.out (by omega)).mono ?_
    rintro e w9 ⟨v9, rfl, o9, b9⟩
    replace B := Lib.hid (B.out.trans (b9.mono (by first | exact Nat.le_refl _ | simp; done | omega | (simp; omega))))
    have hz9 := b9.size
    try simp only [World.size_alloc] at hz9
    replace P1 := Lib.hid (P1.out.below b9)
    clear b9
    have P2 := Lib.hid (o9.slF RCell.flat (A' := fun _ => True) (fun _ _ => trivial))
    clear o9
    go_wp2_with fail
    refine (c_ref_Same _ _ _ _ P1.out P2.out).mono ?_
    rintro e w10 ⟨rfl, b10⟩
    replace B := Lib.hid (B.out.trans (b10.mono (by first | exact Nat.le_refl _ | simp; done | omega | (simp; omega))))
    have hz10 := b10.size
    try simp only [World.size_alloc] at hz10
    clear b10
    go_wp2_with fail
    refine (c_awake14 _).mono ?_
    rintro e w11 ⟨rfl, b11⟩
    replace B := Lib.hid (B.out.trans (b11.mono (by first | exact Nat.le_refl _ | simp; done | omega | (simp; omega))))
    have hz11 := b11.size
    try simp only [World.size_alloc] at hz11
    clear b11
    go_wp2
    go_ret
    exact ⟨rfl, Hend.out _ B.out⟩

set_option maxHeartbeats 1600000 in
set_option maxRecDepth 100000 in
theorem law_VersPast {A : Nat → Prop} (v : Value) (l : List Cell) (c : Cell) (t : Nat) (w : World) (hl : slRep RCell A w v l) (hc : c.ts < 18446744073709551616 ∧ c.val.size ≤ maxLen) :
    Calls Try.prog 4 #[v, .agg #[.int .u64 c.ts, .string c.val, .bool c.del], .int .u64 t] w fun e w' => e = .returned (.bool true) ∧ Below w.heap.size w w' := by
  have hl0 := hl
  obtain ⟨ao, b, off, cap, rfl, hcc, hm, hb, hx⟩ := id hl
  unfold maxLen at hm
  clear hx hb
  have hbox : Below w.heap.size w (w.alloc (.cells #[.int .u64 c.ts, .string c.val, .bool c.del] 25)) := (Below.refl _ _).alloc (Nat.le_refl _) _
  have L := Lib.hid (hl0.below hbox)
  have hz0 : w.heap.size + 1 ≤ (w.alloc (.cells #[.int .u64 c.ts, .string c.val, .bool c.del] 25)).heap.size := by simp
  have B : Hid (Below (w.heap.size + 1) (w.alloc (.cells #[.int .u64 c.ts, .string c.val, .bool c.del] 25)) (w.alloc (.cells #[.int .u64 c.ts, .string c.val, .bool c.del] 25))) := Lib.hid (Below.refl _ _)
  have Hbx : Hid (∀ w1, Below (w.heap.size + 1) (w.alloc (.cells #[.int .u64 c.ts, .string c.val, .bool c.del] 25)) w1 → w1.cell? ⟨w.heap.size, 0, none⟩ = some (.int .u64 c.ts) ∧ w1.cell? ⟨w.heap.size, 1, none⟩ = some (.string c.val) ∧ w1.cell? ⟨w.heap.size, 2, none⟩ = some (.bool c.del)) := Lib.hid fun w1 b1 =>
      ⟨(b1.cell (p := ⟨w.heap.size, 0, none⟩) (by simp)).trans (World.cell?_alloc_at _ _ _ _ rfl), (b1.cell (p := ⟨w.heap.size, 1, none⟩) (by simp)).trans (World.cell?_alloc_at _ _ _ _ rfl), (b1.cell (p := ⟨w.heap.size, 2, none⟩) (by simp)).trans (World.cell?_alloc_at _ _ _ _ rfl)⟩
  have Hend : Hid (∀ w1, Below (w.heap.size + 1) (w.alloc (.cells #[.int .u64 c.ts, .string c.val, .bool c.del] 25)) w1 → Below w.heap.size w w1) := Lib.hid fun w1 b1 => hbox.trans (b1.mono (by omega))
  simp only [World.size_alloc] at hz0
  clear hbox hl hl0
  by_cases hlen : 100 < l.length
  · have hlb : decide ((100 : Int) < (l.length : Int)) = true := by simp; omega
    go_enter Try.func4, Try.ntmps4
    go_wp2_with fail
    refine (c_awake14 _).mono ?_
    rintro e w1 ⟨rfl, b1⟩
    replace B := Lib.hid (B.out.trans (b1.mono (by first | exact Nat.le_refl _ | simp; done | omega | (simp; omega))))
    have hz1 := b1.size
    try simp only [World.size_alloc] at hz1
    clear b1
    go_wp2
    go_ret
    exact ⟨rfl, Hend.out _ B.out⟩
  · have hlb : decide ((100 : Int) < (l.length : Int)) = false := by simp; omega
    have hr0 := c_vers_Right _ l _ L.out
    cases hr : rightL 0 l with
    | false =>
      rw [hr] at hr0
      have Hr := Lib.hid hr0
      clear hr0 hr
      go_enter Try.func4, Try.ntmps4
      go_wp2_with fail
      refine (Hr.out).mono ?_
      rintro e w1 ⟨rfl, b1⟩
      replace B := Lib.hid (B.out.trans (b1.mono (by first | exact Nat.le_refl _ | simp; done | omega | (simp; omega))))
      have hz1 := b1.size
      try simp only [World.size_alloc] at hz1
      clear b1
      go_wp2_with fail
      refine (c_awake14 _).mono ?_
      rintro e w2 ⟨rfl, b2⟩
      replace B := Lib.hid (B.out.trans (b2.mono (by first | exact Nat.le_refl _ | simp; done | omega | (simp; omega))))
      have hz2 := b2.size
      try simp only [World.size_alloc] at hz2
      clear b2
      go_wp2
      go_ret
      exact ⟨rfl, Hend.out _ B.out⟩
    | true =>
      rw [hr] at hr0
      have Hr := Lib.hid hr0
      clear hr0
      by_cases he : (putL l c).2 = 0
      · obtain ⟨hp1, hp2, hp3⟩ := put_ok he
        have hrm : rightL 0 (l ++ [c]) = true := right_snoc l 0 c hr hp3 hp2
        have Hrm := Lib.hid hrm
        have Hput : Hid (∀ w1, slRep RCell A w1 (.slice ao l.length cap) l → Calls Try.prog 7 #[.slice ao l.length cap, .agg #[.int .u64 c.ts, .string c.val, .bool c.del]] w1 fun e w' => ∃ v', e = .returned (.tuple #[v', .int .i64 0]) ∧ slRep RCell (fun k => w1.heap.size ≤ k) w' v' (l ++ [c]) ∧ Below w1.heap.size w1 w') := Lib.hid fun w1 h1 => by
          have := c_vers_Put _ l c w1 h1 hc (by omega)
          rwa [hp1, he] at this
        clear hr he hp1 hp3 hrm
        by_cases ht : c.ts ≤ t
        · have Hat := Lib.hid (past_late (l := l) ht)
          have htb : decide (c.ts ≤ t) = true := by simpa using ht
          cases hd : c.del with
          | true =>
            rw [hd] at Hbx Hat Hput Hr L B Hend
            clear hd
            go_enter Try.func4, Try.ntmps4
            go_wp2_with fail
            refine (Hr.out).mono ?_
            rintro e w1 ⟨rfl, b1⟩
            replace B := Lib.hid (B.out.trans (b1.mono (by first | exact Nat.le_refl _ | simp; done | omega | (simp; omega))))
            have hz1 := b1.size
            try simp only [World.size_alloc] at hz1
            replace L := Lib.hid (L.out.below b1)
            clear b1
            obtain ⟨k0, k1, k2⟩ := Hbx.out _ B.out
            go_wp2_with fail
            refine (Hput.out _ L.out).mono ?_
            rintro e w2 ⟨v2, rfl, s2, b2⟩
            replace B := Lib.hid (B.out.trans (b2.mono (by first | exact Nat.le_refl _ | simp; done | omega | (simp; omega))))
            have hz2 := b2.size
            try simp only [World.size_alloc] at hz2
            clear b2
            have S := Lib.hid s2
            clear s2 k0 k1 k2
            go_wp2_with fail
            have hat := c_vers_At _ _ t _ S.out
            rw [Hat.out] at hat
            simp only [if_true, if_false, Bool.false_eq_true] at hat
            refine hat.mono ?_
            clear hat
            rintro e w3 ⟨rfl, b3⟩
            replace B := Lib.hid (B.out.trans (b3.mono (by omega)))
            have hz3 := b3.size
            replace S := Lib.hid (S.out.below b3)
            clear b3
            obtain ⟨k0, k1, k2⟩ := Hbx.out _ B.out
            go_wp2_with fail
            have hri := c_vers_Right _ _ _ S.out
            rw [Hrm.out] at hri
            refine hri.mono ?_
            clear hri
            rintro e w4 ⟨rfl, b4⟩
            replace B := Lib.hid (B.out.trans (b4.mono (by omega)))
            have hz4 := b4.size
            clear b4 k0 k1 k2
            obtain ⟨k0, k1, k2⟩ := Hbx.out _ B.out
            go_wp2_with fail
            refine (c_awake14 _).mono ?_
            rintro e w5 ⟨rfl, b5⟩
            replace B := Lib.hid (B.out.trans (b5.mono (by first | exact Nat.le_refl _ | simp; done | omega | (simp; omega))))
            have hz5 := b5.size
            try simp only [World.size_alloc] at hz5
            clear b5
            go_wp2
            go_ret
            exact ⟨rfl, Hend.out _ B.out⟩
          | false =>
            rw [hd] at Hbx Hat Hput Hr L B Hend
            clear hd
            go_enter Try.func4, Try.ntmps4
            go_wp2_with fail
            refine (Hr.out).mono ?_
            rintro e w1 ⟨rfl, b1⟩
            replace B := Lib.hid (B.out.trans (b1.mono (by first | exact Nat.le_refl _ | simp; done | omega | (simp; omega))))
            have hz1 := b1.size
            try simp only [World.size_alloc] at hz1
            replace L := Lib.hid (L.out.below b1)
            clear b1
            obtain ⟨k0, k1, k2⟩ := Hbx.out _ B.out
            go_wp2_with fail
            refine (Hput.out _ L.out).mono ?_
            rintro e w2 ⟨v2, rfl, s2, b2⟩
            replace B := Lib.hid (B.out.trans (b2.mono (by first | exact Nat.le_refl _ | simp; done | omega | (simp; omega))))
            have hz2 := b2.size
            try simp only [World.size_alloc] at hz2
            clear b2
            have S := Lib.hid s2
            clear s2 k0 k1 k2
            go_wp2_with fail
            have hat := c_vers_At _ _ t _ S.out
            rw [Hat.out] at hat
            simp only [if_true, if_false, Bool.false_eq_true] at hat
            refine hat.mono ?_
            clear hat
            rintro e w3 ⟨rfl, b3⟩
            replace B := Lib.hid (B.out.trans (b3.mono (by omega)))
            have hz3 := b3.size
            replace S := Lib.hid (S.out.below b3)
            clear b3
            obtain ⟨k0, k1, k2⟩ := Hbx.out _ B.out
            go_wp2_with fail
            have hri := c_vers_Right _ _ _ S.out
            rw [Hrm.out] at hri
            refine hri.mono ?_
            clear hri
            rintro e w4 ⟨rfl, b4⟩
            replace B := Lib.hid (B.out.trans (b4.mono (by omega)))
            have hz4 := b4.size
            clear b4 k0 k1 k2
            obtain ⟨k0, k1, k2⟩ := Hbx.out _ B.out
            go_wp2_with fail
            refine (c_awake14 _).mono ?_
            rintro e w5 ⟨rfl, b5⟩
            replace B := Lib.hid (B.out.trans (b5.mono (by first | exact Nat.le_refl _ | simp; done | omega | (simp; omega))))
            have hz5 := b5.size
            try simp only [World.size_alloc] at hz5
            clear b5
            go_wp2
            go_ret
            exact ⟨rfl, Hend.out _ B.out⟩
        · have Hat := Lib.hid (past_early (l := l) (c := c) (t := t) (by omega))
          have htb : decide (c.ts ≤ t) = false := by simpa using ht
          go_enter Try.func4, Try.ntmps4
          go_wp2_with fail
          refine (Hr.out).mono ?_
          rintro e w1 ⟨rfl, b1⟩
          replace B := Lib.hid (B.out.trans (b1.mono (by first | exact Nat.le_refl _ | simp; done | omega | (simp; omega))))
          have hz1 := b1.size
          try simp only [World.size_alloc] at hz1
          replace L := Lib.hid (L.out.below b1)
          clear b1
          obtain ⟨k0, k1, k2⟩ := Hbx.out _ B.out
          go_wp2_with fail
          refine (Hput.out _ L.out).mono ?_
          rintro e w2 ⟨v2, rfl, s2, b2⟩
          replace B := Lib.hid (B.out.trans (b2.mono (by first | exact Nat.le_refl _ | simp; done | omega | (simp; omega))))
          have hz2 := b2.size
          try simp only [World.size_alloc] at hz2
          replace L := Lib.hid (L.out.below b2)
          clear b2
          have S := Lib.hid s2
          clear s2 k0 k1 k2
          go_wp2_with fail
          have hat := c_vers_At _ _ t _ S.out
          rw [Hat.out] at hat
          refine hat.mono ?_
          clear hat
          rintro e w3 ⟨rfl, b3⟩
          replace B := Lib.hid (B.out.trans (b3.mono (by omega)))
          have hz3 := b3.size
          replace S := Lib.hid (S.out.below b3)
          replace L := Lib.hid (L.out.below b3)
          clear b3
          obtain ⟨k0, k1, k2⟩ := Hbx.out _ B.out
          go_wp2_with fail
          refine (c_vers_At _ l t _ L.out).mono ?_
          rintro e w4 ⟨rfl, b4⟩
          replace B := Lib.hid (B.out.trans (b4.mono (by first | exact Nat.le_refl _ | simp; done | omega | (simp; omega))))
          have hz4 := b4.size
          try simp only [World.size_alloc] at hz4
          replace S := Lib.hid (S.out.below b4)
          clear b4
          clear k0 k1 k2
          go_wp2_with fail
          have hri := c_vers_Right _ _ _ S.out
          rw [Hrm.out] at hri
          refine hri.mono ?_
          clear hri
          rintro e w5 ⟨rfl, b5⟩
          replace B := Lib.hid (B.out.trans (b5.mono (by omega)))
          have hz5 := b5.size
          clear b5
          go_wp2_with fail
          refine (c_awake14 _).mono ?_
          rintro e w6 ⟨rfl, b6⟩
          replace B := Lib.hid (B.out.trans (b6.mono (by first | exact Nat.le_refl _ | simp; done | omega | (simp; omega))))
          have hz6 := b6.size
          try simp only [World.size_alloc] at hz6
          clear b6
          go_wp2
          go_ret
          exact ⟨rfl, Hend.out _ B.out⟩
      · have heb : ((((putL l c).2 : Nat) : Int) != 0) = true := by rw [bne_iff_ne]; omega
        have hput : Hid (∀ w1, slRep RCell A w1 (.slice ao l.length cap) l → Calls Try.prog 7 #[.slice ao l.length cap, .agg #[.int .u64 c.ts, .string c.val, .bool c.del]] w1 fun e w' => ∃ v' q, e = .returned (.tuple #[v', .int .i64 q]) ∧ (q != 0) = true ∧ Below w1.heap.size w1 w') := Lib.hid fun w1 h1 =>
          (c_vers_Put _ l c w1 h1 hc (by omega)).mono fun e w' ⟨v', h1, _, h3⟩ => ⟨v', _, h1, heb, h3⟩
        clear hr he heb
        go_enter Try.func4, Try.ntmps4
        go_wp2_with fail
        refine (Hr.out).mono ?_
        rintro e w1 ⟨rfl, b1⟩
        replace B := Lib.hid (B.out.trans (b1.mono (by first | exact Nat.le_refl _ | simp; done | omega | (simp; omega))))
        have hz1 := b1.size
        try simp only [World.size_alloc] at hz1
        replace L := Lib.hid (L.out.below b1)
        clear b1
        obtain ⟨k0, k1, k2⟩ := Hbx.out _ B.out
        go_wp2_with fail
        refine (hput.out _ L.out).mono ?_
        rintro e w2 ⟨v2, q, rfl, hq, b2⟩
        replace B := Lib.hid (B.out.trans (b2.mono (by first | exact Nat.le_refl _ | simp; done | omega | (simp; omega))))
        have hz2 := b2.size
        try simp only [World.size_alloc] at hz2
        clear b2
        go_wp2_with fail
        refine (c_awake14 _).mono ?_
        rintro e w3 ⟨rfl, b3⟩
        replace B := Lib.hid (B.out.trans (b3.mono (by first | exact Nat.le_refl _ | simp; done | omega | (simp; omega))))
        have hz3 := b3.size
        try simp only [World.size_alloc] at hz3
        clear b3
        go_wp2
        go_ret
        exact ⟨rfl, Hend.out _ B.out⟩

set_option maxHeartbeats 1600000 in
set_option maxRecDepth 100000 in
theorem law_VersPruned {A : Nat → Prop} (v : Value) (l : List Cell) (hz t : Nat) (w : World) (hl : slRep RCell A w v l) :
    Calls Try.prog 5 #[v, .int .u64 hz, .int .u64 t] w fun e w' => e = .returned (.bool true) ∧ Below w.heap.size w w' := by
  have L := Lib.hid hl
  have B : Hid (Below w.heap.size w w) := Lib.hid (Below.refl _ _)
  obtain ⟨ao, b, off, cap, rfl, hcc, hm, hb, hx⟩ := id hl
  unfold maxLen at hm
  clear hx hb hl
  by_cases hlen : 100 < l.length
  · have hlb : decide ((100 : Int) < (l.length : Int)) = true := by simp; omega
    go_enter Try.func5, Try.ntmps5
    go_wp2_with fail
    refine (c_awake14 _).mono ?_
    rintro e w1 ⟨rfl, b1⟩
    replace B := Lib.hid (B.out.trans (b1.mono (by first | exact Nat.le_refl _ | simp; done | omega | (simp; omega))))
    have hz1 := b1.size
    try simp only [World.size_alloc] at hz1
    clear b1
    go_wp2
    go_ret
    exact ⟨rfl, B.out⟩
  · have hlb : decide ((100 : Int) < (l.length : Int)) = false := by simp; omega
    have hr0 := c_vers_Right _ l _ L.out
    cases hr : rightL 0 l with
    | false =>
      rw [hr] at hr0
      have Hr := Lib.hid hr0
      clear hr0 hr
      go_enter Try.func5, Try.ntmps5
      go_wp2_with fail
      refine (Hr.out).mono ?_
      rintro e w1 ⟨rfl, b1⟩
      replace B := Lib.hid (B.out.trans (b1.mono (by first | exact Nat.le_refl _ | simp; done | omega | (simp; omega))))
      have hz1 := b1.size
      try simp only [World.size_alloc] at hz1
      clear b1
      go_wp2_with fail
      refine (c_awake14 _).mono ?_
      rintro e w2 ⟨rfl, b2⟩
      replace B := Lib.hid (B.out.trans (b2.mono (by first | exact Nat.le_refl _ | simp; done | omega | (simp; omega))))
      have hz2 := b2.size
      try simp only [World.size_alloc] at hz2
      clear b2
      go_wp2
      go_ret
      exact ⟨rfl, B.out⟩
    | true =>
      rw [hr] at hr0
      have Hr := Lib.hid hr0
      have hmr : rightL 0 (pruneL l hz) = true := right_drop _ _ _ hr
      have Hmr := Lib.hid hmr
      have hml : (pruneL l hz).length ≤ l.length := prune_len l hz
      clear hr0 hr hmr
      have H1 := Lib.hid (prune_again l hz hz (Nat.le_refl _))
      rcases Nat.lt_trichotomy t hz with hth | rfl | hth
      · have H2 := Lib.hid (prune_again l hz t (by omega))
        have H3 := Lib.hid (prune_at l hz hz (Nat.le_refl _))
        generalize hM : pruneL l hz = M at *
        have hlm : decide ((l.length : Int) < (M.length : Int)) = false := by simp; omega
        have hlm2 : decide (l.length < M.length) = false := by simp; omega
        go_enter Try.func5, Try.ntmps5
        go_wp2_with fail
        refine (Hr.out).mono ?_
        rintro e w1 ⟨rfl, b1⟩
        replace B := Lib.hid (B.out.trans (b1.mono (by first | exact Nat.le_refl _ | simp; done | omega | (simp; omega))))
        have hz1 := b1.size
        try simp only [World.size_alloc] at hz1
        replace L := Lib.hid (L.out.below b1)
        clear b1
        go_wp2_with fail
        have hpr := c_vers_Prune _ l hz _ L.out (by omega)
        rw [hM] at hpr
        clear hM
        refine hpr.mono ?_
        clear hpr
        rintro e w2 ⟨v2, rfl, o2, b2⟩
        replace B := Lib.hid (B.out.trans (b2.mono (by omega)))
        have hz2 := b2.size
        replace L := Lib.hid (L.out.below b2)
        have S := Lib.hid (o2.slF RCell.flat (A' := fun _ => True) (fun _ _ => trivial))
        obtain ⟨ao2, cap2, rfl, hcap2, _⟩ := o2.len_le
        clear b2 o2
        go_wp2_with fail
        have hri := c_vers_Right _ _ _ S.out
        rw [Hmr.out] at hri
        refine hri.mono ?_
        clear hri
        rintro e w3 ⟨rfl, b3⟩
        replace B := Lib.hid (B.out.trans (b3.mono (by omega)))
        have hz3 := b3.size
        replace L := Lib.hid (L.out.below b3)
        replace S := Lib.hid (S.out.below b3)
        clear b3
        go_wp2_with fail
        have hpr := c_vers_Prune _ M hz _ S.out (by omega)
        rw [H1.out] at hpr
        refine hpr.mono ?_
        clear hpr
        rintro e w4 ⟨v4, rfl, o4, b4⟩
        replace B := Lib.hid (B.out.trans (b4.mono (by omega)))
        have hz4 := b4.size
        replace L := Lib.hid (L.out.below b4)
        replace S := Lib.hid (S.out.below b4)
        have P := Lib.hid (o4.slF RCell.flat (A' := fun _ => True) (fun _ _ => trivial))
        clear b4 o4
        go_wp2_with fail
        refine (c_ref_Same _ _ _ _ P.out S.out).mono ?_
        rintro e w5 ⟨rfl, b5⟩
        replace B := Lib.hid (B.out.trans (b5.mono (by first | exact Nat.le_refl _ | simp; done | omega | (simp; omega))))
        have hz5 := b5.size
        try simp only [World.size_alloc] at hz5
        replace L := Lib.hid (L.out.below b5)
        replace S := Lib.hid (S.out.below b5)
        clear b5
        go_wp2_with fail
        have hpr := c_vers_Prune _ M t _ S.out (by omega)
        rw [H2.out] at hpr
        refine hpr.mono ?_
        clear hpr
        rintro e w6 ⟨v6, rfl, o6, b6⟩
        replace B := Lib.hid (B.out.trans (b6.mono (by omega)))
        have hz6 := b6.size
        replace L := Lib.hid (L.out.below b6)
        replace S := Lib.hid (S.out.below b6)
        have P := Lib.hid (o6.slF RCell.flat (A' := fun _ => True) (fun _ _ => trivial))
        clear b6 o6
        go_wp2_with fail
        refine (c_ref_Same _ _ _ _ P.out S.out).mono ?_
        rintro e w7 ⟨rfl, b7⟩
        replace B := Lib.hid (B.out.trans (b7.mono (by first | exact Nat.le_refl _ | simp; done | omega | (simp; omega))))
        have hz7 := b7.size
        try simp only [World.size_alloc] at hz7
        replace L := Lib.hid (L.out.below b7)
        replace S := Lib.hid (S.out.below b7)
        clear b7
        go_wp2_with fail
        refine (c_vers_At _ l hz _ L.out).mono ?_
        rintro e w8 ⟨rfl, b8⟩
        replace B := Lib.hid (B.out.trans (b8.mono (by first | exact Nat.le_refl _ | simp; done | omega | (simp; omega))))
        have hz8 := b8.size
        try simp only [World.size_alloc] at hz8
        replace S := Lib.hid (S.out.below b8)
        clear b8
        go_wp2_with fail
        have hat := c_vers_At _ M hz _ S.out
        rw [H3.out] at hat
        refine hat.mono ?_
        clear hat
        rintro e w9 ⟨rfl, b9⟩
        replace B := Lib.hid (B.out.trans (b9.mono (by omega)))
        have hz9 := b9.size
        clear b9
        go_wp2_with fail
        refine (c_awake14 _).mono ?_
        rintro e w10 ⟨rfl, b10⟩
        replace B := Lib.hid (B.out.trans (b10.mono (by first | exact Nat.le_refl _ | simp; done | omega | (simp; omega))))
        have hz10 := b10.size
        try simp only [World.size_alloc] at hz10
        clear b10
        go_wp2
        go_ret
        exact ⟨rfl, B.out⟩
      · have H2 := Lib.hid (prune_again l t t (Nat.le_refl _))
        have H3 := Lib.hid (prune_at l t t (by omega))
        generalize hM : pruneL l t = M at *
        have hlm : decide ((l.length : Int) < (M.length : Int)) = false := by simp; omega
        have hlm2 : decide (l.length < M.length) = false := by simp; omega
        go_enter Try.func5, Try.ntmps5
        go_wp2_with fail
        refine (Hr.out).mono ?_
        rintro e w1 ⟨rfl, b1⟩
        replace B := Lib.hid (B.out.trans (b1.mono (by first | exact Nat.le_refl _ | simp; done | omega | (simp; omega))))
        have hz1 := b1.size
        try simp only [World.size_alloc] at hz1
        replace L := Lib.hid (L.out.below b1)
        clear b1
        go_wp2_with fail
        have hpr := c_vers_Prune _ l t _ L.out (by omega)
        rw [hM] at hpr
        clear hM
        refine hpr.mono ?_
        clear hpr
        rintro e w2 ⟨v2, rfl, o2, b2⟩
        replace B := Lib.hid (B.out.trans (b2.mono (by omega)))
        have hz2 := b2.size
        replace L := Lib.hid (L.out.below b2)
        have S := Lib.hid (o2.slF RCell.flat (A' := fun _ => True) (fun _ _ => trivial))
        obtain ⟨ao2, cap2, rfl, hcap2, _⟩ := o2.len_le
        clear b2 o2
        go_wp2_with fail
        have hri := c_vers_Right _ _ _ S.out
        rw [Hmr.out] at hri
        refine hri.mono ?_
        clear hri
        rintro e w3 ⟨rfl, b3⟩
        replace B := Lib.hid (B.out.trans (b3.mono (by omega)))
        have hz3 := b3.size
        replace L := Lib.hid (L.out.below b3)
        replace S := Lib.hid (S.out.below b3)
        clear b3
        go_wp2_with fail
        have hpr := c_vers_Prune _ M t _ S.out (by omega)
        rw [H1.out] at hpr
        refine hpr.mono ?_
        clear hpr
        rintro e w4 ⟨v4, rfl, o4, b4⟩
        replace B := Lib.hid (B.out.trans (b4.mono (by omega)))
        have hz4 := b4.size
        replace L := Lib.hid (L.out.below b4)
        replace S := Lib.hid (S.out.below b4)
        have P := Lib.hid (o4.slF RCell.flat (A' := fun _ => True) (fun _ _ => trivial))
        clear b4 o4
        go_wp2_with fail
        refine (c_ref_Same _ _ _ _ P.out S.out).mono ?_
        rintro e w5 ⟨rfl, b5⟩
        replace B := Lib.hid (B.out.trans (b5.mono (by first | exact Nat.le_refl _ | simp; done | omega | (simp; omega))))
        have hz5 := b5.size
        try simp only [World.size_alloc] at hz5
        replace L := Lib.hid (L.out.below b5)
        replace S := Lib.hid (S.out.below b5)
        clear b5
        go_wp2_with fail
        have hpr := c_vers_Prune _ M t _ S.out (by omega)
        rw [H2.out] at hpr
        refine hpr.mono ?_
        clear hpr
        rintro e w6 ⟨v6, rfl, o6, b6⟩
        replace B := Lib.hid (B.out.trans (b6.mono (by omega)))
        have hz6 := b6.size
        replace L := Lib.hid (L.out.below b6)
        replace S := Lib.hid (S.out.below b6)
        have P := Lib.hid (o6.slF RCell.flat (A' := fun _ => True) (fun _ _ => trivial))
        clear b6 o6
        go_wp2_with fail
        refine (c_ref_Same _ _ _ _ P.out S.out).mono ?_
        rintro e w7 ⟨rfl, b7⟩
        replace B := Lib.hid (B.out.trans (b7.mono (by first | exact Nat.le_refl _ | simp; done | omega | (simp; omega))))
        have hz7 := b7.size
        try simp only [World.size_alloc] at hz7
        replace L := Lib.hid (L.out.below b7)
        replace S := Lib.hid (S.out.below b7)
        clear b7
        go_wp2_with fail
        refine (c_vers_At _ l t _ L.out).mono ?_
        rintro e w8 ⟨rfl, b8⟩
        replace B := Lib.hid (B.out.trans (b8.mono (by first | exact Nat.le_refl _ | simp; done | omega | (simp; omega))))
        have hz8 := b8.size
        try simp only [World.size_alloc] at hz8
        replace S := Lib.hid (S.out.below b8)
        clear b8
        go_wp2_with fail
        have hat := c_vers_At _ M t _ S.out
        rw [H3.out] at hat
        refine hat.mono ?_
        clear hat
        rintro e w9 ⟨rfl, b9⟩
        replace B := Lib.hid (B.out.trans (b9.mono (by omega)))
        have hz9 := b9.size
        clear b9
        go_wp2_with fail
        refine (c_awake14 _).mono ?_
        rintro e w10 ⟨rfl, b10⟩
        replace B := Lib.hid (B.out.trans (b10.mono (by first | exact Nat.le_refl _ | simp; done | omega | (simp; omega))))
        have hz10 := b10.size
        try simp only [World.size_alloc] at hz10
        clear b10
        go_wp2
        go_ret
        exact ⟨rfl, B.out⟩
      · have H2 := Lib.hid (prune_again l hz hz (Nat.le_refl _))
        have H3 := Lib.hid (prune_at l hz t (by omega))
        generalize hM : pruneL l hz = M at *
        have hlm : decide ((l.length : Int) < (M.length : Int)) = false := by simp; omega
        have hlm2 : decide (l.length < M.length) = false := by simp; omega
        go_enter Try.func5, Try.ntmps5
        go_wp2_with fail
        refine (Hr.out).mono ?_
        rintro e w1 ⟨rfl, b1⟩
        replace B := Lib.hid (B.out.trans (b1.mono (by first | exact Nat.le_refl _ | simp; done | omega | (simp; omega))))
        have hz1 := b1.size
        try simp only [World.size_alloc] at hz1
        replace L := Lib.hid (L.out.below b1)
        clear b1
        go_wp2_with fail
        have hpr := c_vers_Prune _ l hz _ L.out (by omega)
        rw [hM] at hpr
        clear hM
        refine hpr.mono ?_
        clear hpr
        rintro e w2 ⟨v2, rfl, o2, b2⟩
        replace B := Lib.hid (B.out.trans (b2.mono (by omega)))
        have hz2 := b2.size
        replace L := Lib.hid (L.out.below b2)
        have S := Lib.hid (o2.slF RCell.flat (A' := fun _ => True) (fun _ _ => trivial))
        obtain ⟨ao2, cap2, rfl, hcap2, _⟩ := o2.len_le
        clear b2 o2
        go_wp2_with fail
        have hri := c_vers_Right _ _ _ S.out
        rw [Hmr.out] at hri
        refine hri.mono ?_
        clear hri
        rintro e w3 ⟨rfl, b3⟩
        replace B := Lib.hid (B.out.trans (b3.mono (by omega)))
        have hz3 := b3.size
        replace L := Lib.hid (L.out.below b3)
        replace S := Lib.hid (S.out.below b3)
        clear b3
        go_wp2_with fail
        have hpr := c_vers_Prune _ M hz _ S.out (by omega)
        rw [H1.out] at hpr
        refine hpr.mono ?_
        clear hpr
        rintro e w4 ⟨v4, rfl, o4, b4⟩
        replace B := Lib.hid (B.out.trans (b4.mono (by omega)))
        have hz4 := b4.size
        replace L := Lib.hid (L.out.below b4)
        replace S := Lib.hid (S.out.below b4)
        have P := Lib.hid (o4.slF RCell.flat (A' := fun _ => True) (fun _ _ => trivial))
        clear b4 o4
        go_wp2_with fail
        refine (c_ref_Same _ _ _ _ P.out S.out).mono ?_
        rintro e w5 ⟨rfl, b5⟩
        replace B := Lib.hid (B.out.trans (b5.mono (by first | exact Nat.le_refl _ | simp; done | omega | (simp; omega))))
        have hz5 := b5.size
        try simp only [World.size_alloc] at hz5
        replace L := Lib.hid (L.out.below b5)
        replace S := Lib.hid (S.out.below b5)
        clear b5
        go_wp2_with fail
        have hpr := c_vers_Prune _ M hz _ S.out (by omega)
        rw [H2.out] at hpr
        refine hpr.mono ?_
        clear hpr
        rintro e w6 ⟨v6, rfl, o6, b6⟩
        replace B := Lib.hid (B.out.trans (b6.mono (by omega)))
        have hz6 := b6.size
        replace L := Lib.hid (L.out.below b6)
        replace S := Lib.hid (S.out.below b6)
        have P := Lib.hid (o6.slF RCell.flat (A' := fun _ => True) (fun _ _ => trivial))
        clear b6 o6
        go_wp2_with fail
        refine (c_ref_Same _ _ _ _ P.out S.out).mono ?_
        rintro e w7 ⟨rfl, b7⟩
        replace B := Lib.hid (B.out.trans (b7.mono (by first | exact Nat.le_refl _ | simp; done | omega | (simp; omega))))
        have hz7 := b7.size
        try simp only [World.size_alloc] at hz7
        replace L := Lib.hid (L.out.below b7)
        replace S := Lib.hid (S.out.below b7)
        clear b7
        go_wp2_with fail
        refine (c_vers_At _ l t _ L.out).mono ?_
        rintro e w8 ⟨rfl, b8⟩
        replace B := Lib.hid (B.out.trans (b8.mono (by first | exact Nat.le_refl _ | simp; done | omega | (simp; omega))))
        have hz8 := b8.size
        try simp only [World.size_alloc] at hz8
        replace S := Lib.hid (S.out.below b8)
        clear b8
        go_wp2_with fail
        have hat := c_vers_At _ M t _ S.out
        rw [H3.out] at hat
        refine hat.mono ?_
        clear hat
        rintro e w9 ⟨rfl, b9⟩
        replace B := Lib.hid (B.out.trans (b9.mono (by omega)))
        have hz9 := b9.size
        clear b9
        go_wp2_with fail
        refine (c_awake14 _).mono ?_
        rintro e w10 ⟨rfl, b10⟩
        replace B := Lib.hid (B.out.trans (b10.mono (by first | exact Nat.le_refl _ | simp; done | omega | (simp; omega))))
        have hz10 := b10.size
        try simp only [World.size_alloc] at hz10
        clear b10
        go_wp2
        go_ret
        exact ⟨rfl, B.out⟩

end Go.Proofs.Ytnebjcdhbjahoaa
