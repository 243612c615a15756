/- The law LeaseLasts walked: a pin lasts for so many ticks. -/
import Derived.Test.YtabebdompkkhlaaLease7
import Derived.Test.YtabebdompkkhlaaPin2
namespace Go.Proofs.Ytabebdompkkhlaa
open Go.RowKit

theorem any_step {l : List Int} {id : Int} {k : Nat} (h : k < l.length) : (l.take (k + 1)).any (· == id) = ((l.take k).any (· == id) || l[k] == id) := by
  rw [List.take_succ_eq_append_getElem h, List.any_append]
  simp

set_option maxHeartbeats 3200000 in
set_option maxRecDepth 100000 in
theorem law_LeaseLasts {A : Nat → Prop} (v : Value) (l : List Pin) (id : Int) (t n : Nat) (w : World) (hl : slRep RPin A w v l) (hid : i64ok id) (ht : t < 18446744073709551616) (hn : n < 256) :
    Calls Try.prog 4 #[v, .int .i64 id, .int .u64 t, .int .u8 n] w fun e w' => e = .returned (.bool true) ∧ Below w.heap.size w w' := by
  have L := Lib.hid hl
  have B : Hid (Below w.heap.size w w) := Lib.hid (Below.refl _ _)
  have hr0 := c_lease_Right _ l _ hl
  cases hr : mayL l with
  | false =>
    rw [hr] at hr0
    have Hr := Lib.hid hr0
    clear hr0 hr hl
    go_enter Try.func4, Try.ntmps4
    go_wp2_with fail
    refine (Hr.out).mono ?_
    rintro e w1 ⟨rfl, b1⟩
    replace B := Lib.hid (B.out.trans (b1.mono (by first | exact Nat.le_refl _ | simp; done | omega | (simp; omega))))
    have hz1 := b1.size
    try simp only [World.size_alloc] at hz1
    clear b1
    go_wp2_with fail
    refine (c_awake25 _).mono ?_
    rintro e w2 ⟨rfl, b2⟩
    replace B := Lib.hid (B.out.trans (b2.mono (by first | exact Nat.le_refl _ | simp; done | omega | (simp; omega))))
    have hz2 := b2.size
    try simp only [World.size_alloc] at hz2
    clear b2
    go_wp2
    go_ret
    exact ⟨rfl, B.out⟩
  | true =>
    rw [hr] at hr0
    have Hr := Lib.hid hr0
    have hl3 : l.length ≤ 3 := ((may_iff l).1 hr).2.2
    clear hr0 hl
    by_cases he : (grantL l id t).2 = 0
    · obtain ⟨g1, g2, g3⟩ := grant_may hr he
      have Hgr : Hid (∀ w1, slRep RPin A w1 v l → Calls Try.prog 6 #[v, .int .i64 id, .int .u64 t] w1 fun e w' => ∃ v', e = .returned (.tuple #[v', .int .i64 0]) ∧ slRep RPin AnyA w' v' (l ++ [⟨id, t, 8⟩]) ∧ Below w1.heap.size w1 w') := Lib.hid fun w1 h1 => by
        have := c_lease_Grant v l id t w1 h1 hid ht
        rw [g1, he] at this
        exact this.mono fun e w' ⟨v', h1, h2, h3⟩ => ⟨v', h1, h2.slF RPin.isFlat (fun _ _ => trivial), h3⟩
      have hlen4 : (l ++ [(⟨id, t, 8⟩ : Pin)]).length ≤ 4 := by simp; omega
      clear hr he g1
      generalize l ++ [(⟨id, t, 8⟩ : Pin)] = M at *
      have Hg2 := Lib.hid g2
      have Hg3 := Lib.hid g3
      have Htl : Hid (∀ k, (ticks k M).length ≤ 4) := Lib.hid fun k => by
        induction k with
        | zero => exact hlen4
        | succ k ih =>
          have : (tickL (ticks k M)).length ≤ (ticks k M).length := by
            unfold tickL
            rw [List.length_map]
            exact List.length_filter_le _ _
          simp only [ticks]
          omega
      clear g2 g3
      go_enter Try.func4, Try.ntmps4
      go_wp2_with fail
      refine (Hr.out).mono ?_
      rintro e w1 ⟨rfl, b1⟩
      replace B := Lib.hid (B.out.trans (b1.mono (by first | exact Nat.le_refl _ | simp; done | omega | (simp; omega))))
      have hz1 := b1.size
      try simp only [World.size_alloc] at hz1
      replace L := Lib.hid (L.out.below b1)
      clear b1
      go_wp2_with fail
      refine (Hgr.out _ L.out).mono ?_
      rintro e w2 ⟨v2, rfl, s2, b2⟩
      replace B := Lib.hid (B.out.trans (b2.mono (by first | exact Nat.le_refl _ | simp; done | omega | (simp; omega))))
      have hz2 := b2.size
      try simp only [World.size_alloc] at hz2
      clear b2
      have S := Lib.hid s2
      clear s2
      go_wp2_with fail
      have hri := c_lease_Right _ _ _ S.out
      rw [Hg2.out] at hri
      refine hri.mono ?_
      clear hri
      rintro e w3 ⟨rfl, b3⟩
      replace B := Lib.hid (B.out.trans (b3.mono (by omega)))
      have hz3 := b3.size
      replace S := Lib.hid (S.out.below b3)
      clear b3
      have hn8 : n % 8 ≤ 7 := by omega
      go_wp2_with fail
      go_loopw [9, 11] (fun v i wr => ∃ k : Nat, k ≤ n % 8 ∧ i = .int .i64 k ∧ slRep RPin AnyA wr v (ticks k M) ∧ Below w.heap.size w wr) (fun _ i _ => n % 8 - (intOf i).toNat)
      case atStart => exact ⟨0, by omega, rfl, S.out, B.out⟩
      case round =>
        obtain ⟨k, hk, rfl, hs, hb⟩ := hrel
        have S1 := Lib.hid hs
        have B1 := Lib.hid hb
        have hzr := hb.size
        clear hs hb S B
        by_cases hlt : k < n % 8
        · have hlt' : (k : Int) < (n : Int) % 8 := by omega
          go_wp2_with fail
          refine (c_lease_Tick _ _ _ S1.out (by have := Htl.out k; omega)).mono ?_
          rintro e w5 ⟨v5, u5, rfl, o5, _, b5⟩
          have S5 := Lib.hid (o5.slF RPin.isFlat (A' := AnyA) (fun _ _ => trivial))
          have B5 := Lib.hid (B1.out.trans (b5.mono hzr))
          clear o5 b5
          go_wp2
          go_roundw
          case rel => exact ⟨k + 1, by omega, by go_num, S5.out, B5.out⟩
          case measure => first | (simp [intOf]; done) | (simp [intOf]; omega)
        · obtain rfl : k = n % 8 := by omega
          have hge' : ¬ (((n % 8 : Nat) : Int) < (n : Int) % 8) := by omega
          obtain ⟨m1, m2⟩ := ticks_has Hg2.out Hg3.out (n % 8) hn8
          have hfs := find_some m2
          have hlt4 := Htl.out (n % 8)
          generalize ticks (n % 8) M = T at *
          obtain ⟨m3, m4⟩ := renew_may m1 (findN T id) hfs (find_id hfs) (a := T[findN T id].at_)
          have hrn := renew_yes hfs
          have hlenr : (T.set (findN T id) ⟨id, T[findN T id].at_, 8⟩).length ≤ 4 := by simpa using hlt4
          generalize hN : T.set (findN T id) ⟨id, T[findN T id].at_, 8⟩ = N at *
          have Hrn := Lib.hid hrn
          have M3 := Lib.hid m3
          have M4 := Lib.hid m4
          clear hN hrn m1 m2 m3 m4 hfs Hg2 Hg3 Htl Hgr Hr
          go_wp2_with fail
          have hren := c_lease_Renew _ T id _ S1.out hid (by omega)
          rw [Hrn.out] at hren
          refine hren.mono ?_
          clear hren
          rintro e w6 ⟨v6, rfl, o6, b6⟩
          have S6 := Lib.hid (o6.slF RPin.isFlat (A' := AnyA) (fun _ _ => trivial))
          have B6 := Lib.hid (B1.out.trans (b6.mono hzr))
          clear o6 b6 S1 B1 Hrn hge'
          go_wp2_with fail
          go_loopw [9, 12] (fun v i wr => ∃ (k : Nat) (Q : List Pin), 1 ≤ k ∧ k ≤ 9 ∧ i = .int .i64 k ∧ slRep RPin AnyA wr v Q ∧ Below w.heap.size w wr ∧ mayL Q = true ∧ Q.length ≤ 4 ∧ (k ≤ 8 → Has Q id (9 - (k : Int))) ∧ (k = 9 → ∀ p ∈ Q, p.id ≠ id)) (fun _ i _ => 9 - (intOf i).toNat)
          case atStart => exact ⟨1, N, by omega, by omega, rfl, S6.out, B6.out, M3.out, hlenr, fun _ => M4.out, fun h => absurd h (by decide)⟩
          case round =>
            obtain ⟨k, Q, hk1, hk9, rfl, hs, hb, hmay, hQ4, hhas, hno⟩ := hrel
            have S7' := Lib.hid hs
            have B7' := Lib.hid hb
            have hzr' := hb.size
            have MQ := Lib.hid hmay
            have HQ := Lib.hid hhas
            have NQ := Lib.hid hno
            clear hs hb hmay hhas hno S6 B6 M3 M4
            by_cases hk8 : k ≤ 8
            · have htl : (tickL Q).length ≤ 4 := by
                have : (tickL Q).length ≤ Q.length := by
                  unfold tickL
                  rw [List.length_map]
                  exact List.length_filter_le _ _
                omega
              have MT := Lib.hid (tick_may MQ.out)
              have hh := HQ.out hk8
              go_wp2_with fail
              refine (c_lease_Tick _ _ _ S7'.out (by omega)).mono ?_
              rintro e w7 ⟨v7, u7, rfl, o7, q7, b7⟩
              have S7 := Lib.hid (o7.slF RPin.isFlat (A' := AnyA) (fun _ _ => trivial))
              have G7 := Lib.hid (q7.slF RI.isFlat (A' := AnyA) (fun _ _ => trivial))
              have B7 := Lib.hid (B7'.out.trans (b7.mono hzr'))
              have hz7 : w.heap.size ≤ w7.heap.size := Nat.le_trans hzr' b7.size
              clear o7 q7 b7
              by_cases he8 : k = 8
              · subst he8
                have hends := tick_ends MQ.out (by simpa using hh)
                have HA := Lib.hid hends.1
                have HN := Lib.hid hends.2
                clear hends hh
                obtain ⟨ao, b, off, cap, rfl, hc, hm, hbb, hx⟩ := open_RI G7.out
                unfold maxLen at hm
                obtain ⟨wo, rfl⟩ : ∃ wo : World, wo = w7 := ⟨_, rfl⟩
                go_wp2_with fail
                go_loop [15, 16] (fun g j => ∃ q : Nat, q ≤ (goneL Q).length ∧ j = .int .i64 q ∧ g = .bool (((goneL Q).take q).any (· == id))) (fun _ j => (goneL Q).length - (intOf j).toNat)
                case atStart => exact ⟨0, by omega, rfl, by simp⟩
                case round =>
                  obtain ⟨q, hq, rfl, rfl⟩ := hrel
                  by_cases hql : q < (goneL Q).length
                  · obtain ⟨rfl, hblt⟩ := hbb (by omega)
                    obtain ⟨h0, _⟩ := hx q hql
                    have hst := Lib.hid (any_step (id := id) hql)
                    have hq0 : (0 : Int) ≤ (q : Int) := by omega
                    have hq1 : (q : Int) < ((goneL Q).length : Int) := by omega
                    cases hany : ((goneL Q).take q).any (· == id) with
                    | true =>
                      have Hany := Lib.hid hany
                      clear hany
                      go_wp2
                      go_round
                      case rel => exact ⟨q + 1, by omega, by go_num, by rw [hst.out, Hany.out]; rfl⟩
                      case measure => first | (simp [intOf]; done) | (simp [intOf]; omega)
                    | false =>
                      have Hany := Lib.hid hany
                      clear hany
                      cases hd : ((goneL Q)[q] == id) with
                      | true =>
                        have Hd := Lib.hid hd
                        go_wp2
                        go_round
                        case rel => exact ⟨q + 1, by omega, by go_num, by rw [hst.out, Hany.out, Hd.out]; rfl⟩
                        case measure => first | (simp [intOf]; done) | (simp [intOf]; omega)
                      | false =>
                        have Hd := Lib.hid hd
                        go_wp2
                        go_round
                        case rel => exact ⟨q + 1, by omega, by go_num, by rw [hst.out, Hany.out, Hd.out]; rfl⟩
                        case measure => first | (simp [intOf]; done) | (simp [intOf]; omega)
                  · obtain rfl : q = (goneL Q).length := by omega
                    rw [List.take_length, HA.out]
                    clear hx hbb
                    go_wp2_with fail
                    have hri := c_lease_Right _ _ _ S7.out
                    rw [MT.out] at hri
                    refine hri.mono ?_
                    clear hri
                    rintro e w8 ⟨rfl, b8⟩
                    have S8 := Lib.hid (S7.out.below b8)
                    have B8 := Lib.hid (B7.out.trans (b8.mono hz7))
                    clear b8
                    go_wp2
                    go_roundw
                    case rel => exact ⟨8 + 1, tickL Q, by omega, by omega, by go_num, S8.out, B8.out, MT.out, by omega, fun h => absurd h (by omega), fun _ => HN.out⟩
                    case measure => first | (simp [intOf]; done) | (simp [intOf]; omega)
              · have hkeep := tick_keeps MQ.out hh (by omega)
                have HA := Lib.hid hkeep.2
                have HN := Lib.hid hkeep.1
                have hk8b : ((k : Int) == 8) = false := beq_eq_false_iff_ne.2 (by omega)
                clear hkeep hh
                obtain ⟨ao, b, off, cap, rfl, hc, hm, hbb, hx⟩ := open_RI G7.out
                unfold maxLen at hm
                obtain ⟨wo, rfl⟩ : ∃ wo : World, wo = w7 := ⟨_, rfl⟩
                go_wp2_with fail
                go_loop [15, 16] (fun g j => ∃ q : Nat, q ≤ (goneL Q).length ∧ j = .int .i64 q ∧ g = .bool (((goneL Q).take q).any (· == id))) (fun _ j => (goneL Q).length - (intOf j).toNat)
                case atStart => exact ⟨0, by omega, rfl, by simp⟩
                case round =>
                  obtain ⟨q, hq, rfl, rfl⟩ := hrel
                  by_cases hql : q < (goneL Q).length
                  · obtain ⟨rfl, hblt⟩ := hbb (by omega)
                    obtain ⟨h0, _⟩ := hx q hql
                    have hst := Lib.hid (any_step (id := id) hql)
                    have hq0 : (0 : Int) ≤ (q : Int) := by omega
                    have hq1 : (q : Int) < ((goneL Q).length : Int) := by omega
                    cases hany : ((goneL Q).take q).any (· == id) with
                    | true =>
                      have Hany := Lib.hid hany
                      clear hany
                      go_wp2
                      go_round
                      case rel => exact ⟨q + 1, by omega, by go_num, by rw [hst.out, Hany.out]; rfl⟩
                      case measure => first | (simp [intOf]; done) | (simp [intOf]; omega)
                    | false =>
                      have Hany := Lib.hid hany
                      clear hany
                      cases hd : ((goneL Q)[q] == id) with
                      | true =>
                        have Hd := Lib.hid hd
                        go_wp2
                        go_round
                        case rel => exact ⟨q + 1, by omega, by go_num, by rw [hst.out, Hany.out, Hd.out]; rfl⟩
                        case measure => first | (simp [intOf]; done) | (simp [intOf]; omega)
                      | false =>
                        have Hd := Lib.hid hd
                        go_wp2
                        go_round
                        case rel => exact ⟨q + 1, by omega, by go_num, by rw [hst.out, Hany.out, Hd.out]; rfl⟩
                        case measure => first | (simp [intOf]; done) | (simp [intOf]; omega)
                  · obtain rfl : q = (goneL Q).length := by omega
                    rw [List.take_length, HA.out]
                    clear hx hbb
                    go_wp2_with fail
                    have hri := c_lease_Right _ _ _ S7.out
                    rw [MT.out] at hri
                    refine hri.mono ?_
                    clear hri
                    rintro e w8 ⟨rfl, b8⟩
                    have S8 := Lib.hid (S7.out.below b8)
                    have B8 := Lib.hid (B7.out.trans (b8.mono hz7))
                    clear b8
                    go_wp2
                    go_roundw
                    case rel => exact ⟨k + 1, tickL Q, by omega, by omega, by go_num, S8.out, B8.out, MT.out, by omega, fun _ => by rw [show (9 : Int) - ((k + 1 : Nat) : Int) = 9 - k - 1 by omega]; exact HN.out, fun h => absurd h (by omega)⟩
                    case measure => first | (simp [intOf]; done) | (simp [intOf]; omega)
            · obtain rfl : k = 9 := by omega
              have hfr := free_no (find_none (NQ.out rfl))
              have Hfr := Lib.hid hfr
              clear hfr
              go_wp2_with fail
              have hfree := c_lease_Free _ Q id _ S7'.out (by omega)
              rw [Hfr.out] at hfree
              refine hfree.mono ?_
              clear hfree
              rintro e w9 ⟨v9, rfl, _, b9⟩
              have B9 := Lib.hid (B7'.out.trans (b9.mono hzr'))
              have hz9 : w.heap.size ≤ w9.heap.size := Nat.le_trans hzr' b9.size
              clear b9
              go_wp2_with fail
              refine (c_awake25 _).mono ?_
              rintro e w10 ⟨rfl, b10⟩
              go_wp2
              go_ret
              exact ⟨rfl, B9.out.trans (b10.mono hz9)⟩
    · have heb : ((((grantL l id t).2 : Nat) : Int) != 0) = true := by rw [bne_iff_ne]; omega
      have hput : Hid (∀ w1, slRep RPin A w1 v l → Calls Try.prog 6 #[v, .int .i64 id, .int .u64 t] w1 fun e w' => ∃ v' q, e = .returned (.tuple #[v', .int .i64 q]) ∧ (q != 0) = true ∧ Below w1.heap.size w1 w') := Lib.hid fun w1 h1 =>
        (c_lease_Grant _ l id t w1 h1 hid ht).mono fun e w' ⟨v', h1, _, h3⟩ => ⟨v', _, h1, heb, h3⟩
      clear hr he heb
      go_enter Try.func4, Try.ntmps4
      go_wp2_with fail
      refine (Hr.out).mono ?_
      rintro e w1 ⟨rfl, b1⟩
      replace B := Lib.hid (B.out.trans (b1.mono (by first | exact Nat.le_refl _ | simp; done | omega | (simp; omega))))
      have hz1 := b1.size
      try simp only [World.size_alloc] at hz1
      replace L := Lib.hid (L.out.below b1)
      clear b1
      go_wp2_with fail
      refine (hput.out _ L.out).mono ?_
      rintro e w2 ⟨v2, q, rfl, hq, b2⟩
      replace B := Lib.hid (B.out.trans (b2.mono (by first | exact Nat.le_refl _ | simp; done | omega | (simp; omega))))
      have hz2 := b2.size
      try simp only [World.size_alloc] at hz2
      clear b2
      go_wp2_with fail
      refine (c_awake25 _).mono ?_
      rintro e w3 ⟨rfl, b3⟩
      replace B := Lib.hid (B.out.trans (b3.mono (by first | exact Nat.le_refl _ | simp; done | omega | (simp; omega))))
      have hz3 := b3.size
      try simp only [World.size_alloc] at hz3
      clear b3
      go_wp2
      go_ret
      exact ⟨rfl, B.out⟩

end Go.Proofs.Ytabebdompkkhlaa
