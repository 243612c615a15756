/- The laws of layer 25 walked. -/
import Derived.Test.YtabebdompkkhlaaLease7
namespace Go.Proofs.Ytabebdompkkhlaa
open Go.RowKit

set_option maxHeartbeats 1600000 in
set_option maxRecDepth 100000 in
theorem law_LeasePlays {A : Nat → Prop} (v : Value) (l : List Pin) (id : Int) (t : Nat) (w : World) (hl : slRep RPin A w v l) (hid : i64ok id) (ht : t < 18446744073709551616) :
    Calls Try.prog 3 #[v, .int .i64 id, .int .u64 t] w fun e w' => e = .returned (.bool true) ∧ Below w.heap.size w w' := by
  have L := Lib.hid hl
  have B : Hid (Below w.heap.size w w) := Lib.hid (Below.refl _ _)
  obtain ⟨ao, b, off, cap, rfl, hcc, hm, hb, hx⟩ := (_root_.id hl)
  unfold maxLen at hm
  clear hx hb hl
  by_cases hlen : 60 < l.length
  · have hlb : decide ((60 : Int) < (l.length : Int)) = true := by simp; omega
    go_enter Try.func3, Try.ntmps3
    go_wp2_with fail
    refine (c_awake25 _).mono ?_
    rintro e w1 ⟨rfl, b1⟩
    replace B := Lib.hid (B.out.trans (b1.mono (by first | exact Nat.le_refl _ | simp; done | omega | (simp; omega))))
    have hz1 := b1.size
    try simp only [World.size_alloc] at hz1
    clear b1
    go_wp2
    go_ret
    exact ⟨rfl, B.out⟩
  · have hlb : decide ((60 : Int) < (l.length : Int)) = false := by simp; omega
    go_enter Try.func3, Try.ntmps3
    go_wp2_with fail
    refine (c_lease_Grant _ l id t _ L.out hid ht).mono ?_
    rintro e w1 ⟨v1, rfl, o, b1⟩
    replace B := Lib.hid (B.out.trans (b1.mono (by first | exact Nat.le_refl _ | simp; done | omega | (simp; omega))))
    have hz1 := b1.size
    try simp only [World.size_alloc] at hz1
    replace L := Lib.hid (L.out.below b1)
    clear b1
    have S1 := Lib.hid (o.slF RPin.isFlat (A' := AnyA) (fun _ _ => trivial))
    clear o
    go_wp2_with fail
    refine (c_ref_Grant _ l id t _ L.out hid ht).mono ?_
    rintro e w2 ⟨v2, rfl, o, b2⟩
    replace B := Lib.hid (B.out.trans (b2.mono (by first | exact Nat.le_refl _ | simp; done | omega | (simp; omega))))
    have hz2 := b2.size
    try simp only [World.size_alloc] at hz2
    replace L := Lib.hid (L.out.below b2)
    replace S1 := Lib.hid (S1.out.below b2)
    clear b2
    have S2 := Lib.hid (o.slF RPin.isFlat (A' := AnyA) (fun _ _ => trivial))
    clear o
    go_wp2_with fail
    refine (c_lease_Renew _ l id _ L.out hid (by omega)).mono ?_
    rintro e w3 ⟨v3, rfl, o, b3⟩
    replace B := Lib.hid (B.out.trans (b3.mono (by first | exact Nat.le_refl _ | simp; done | omega | (simp; omega))))
    have hz3 := b3.size
    try simp only [World.size_alloc] at hz3
    replace L := Lib.hid (L.out.below b3)
    replace S1 := Lib.hid (S1.out.below b3)
    replace S2 := Lib.hid (S2.out.below b3)
    clear b3
    have S3 := Lib.hid (o.slF RPin.isFlat (A' := AnyA) (fun _ _ => trivial))
    clear o
    go_wp2_with fail
    refine (c_ref_Renew _ l id _ L.out hid (by omega)).mono ?_
    rintro e w4 ⟨v4, rfl, o, b4⟩
    replace B := Lib.hid (B.out.trans (b4.mono (by first | exact Nat.le_refl _ | simp; done | omega | (simp; omega))))
    have hz4 := b4.size
    try simp only [World.size_alloc] at hz4
    replace L := Lib.hid (L.out.below b4)
    replace S1 := Lib.hid (S1.out.below b4)
    replace S2 := Lib.hid (S2.out.below b4)
    replace S3 := Lib.hid (S3.out.below b4)
    clear b4
    have S4 := Lib.hid (o.slF RPin.isFlat (A' := AnyA) (fun _ _ => trivial))
    clear o
    go_wp2_with fail
    refine (c_lease_Free _ l id _ L.out (by omega)).mono ?_
    rintro e w5 ⟨v5, rfl, o, b5⟩
    replace B := Lib.hid (B.out.trans (b5.mono (by first | exact Nat.le_refl _ | simp; done | omega | (simp; omega))))
    have hz5 := b5.size
    try simp only [World.size_alloc] at hz5
    replace L := Lib.hid (L.out.below b5)
    replace S1 := Lib.hid (S1.out.below b5)
    replace S2 := Lib.hid (S2.out.below b5)
    replace S3 := Lib.hid (S3.out.below b5)
    replace S4 := Lib.hid (S4.out.below b5)
    clear b5
    have S5 := Lib.hid (o.slF RPin.isFlat (A' := AnyA) (fun _ _ => trivial))
    clear o
    go_wp2_with fail
    refine (c_ref_Free _ l id _ L.out (by omega)).mono ?_
    rintro e w6 ⟨v6, rfl, o, b6⟩
    replace B := Lib.hid (B.out.trans (b6.mono (by first | exact Nat.le_refl _ | simp; done | omega | (simp; omega))))
    have hz6 := b6.size
    try simp only [World.size_alloc] at hz6
    replace L := Lib.hid (L.out.below b6)
    replace S1 := Lib.hid (S1.out.below b6)
    replace S2 := Lib.hid (S2.out.below b6)
    replace S3 := Lib.hid (S3.out.below b6)
    replace S4 := Lib.hid (S4.out.below b6)
    replace S5 := Lib.hid (S5.out.below b6)
    clear b6
    have S6 := Lib.hid (o.slF RPin.isFlat (A' := AnyA) (fun _ _ => trivial))
    clear o
    go_wp2_with fail
    refine (c_lease_Tick _ l _ L.out (by omega)).mono ?_
    rintro e w7 ⟨v7, g7, rfl, o, q, b7⟩
    replace B := Lib.hid (B.out.trans (b7.mono (by first | exact Nat.le_refl _ | simp; done | omega | (simp; omega))))
    have hz7 := b7.size
    try simp only [World.size_alloc] at hz7
    replace L := Lib.hid (L.out.below b7)
    replace S1 := Lib.hid (S1.out.below b7)
    replace S2 := Lib.hid (S2.out.below b7)
    replace S3 := Lib.hid (S3.out.below b7)
    replace S4 := Lib.hid (S4.out.below b7)
    replace S5 := Lib.hid (S5.out.below b7)
    replace S6 := Lib.hid (S6.out.below b7)
    clear b7
    have S7 := Lib.hid (o.slF RPin.isFlat (A' := AnyA) (fun _ _ => trivial))
    have G7 := Lib.hid (q.slF RI.isFlat (A' := AnyA) (fun _ _ => trivial))
    clear o q
    go_wp2_with fail
    refine (c_ref_Tick _ l _ L.out (by omega)).mono ?_
    rintro e w8 ⟨v8, g8, rfl, o, q, b8⟩
    replace B := Lib.hid (B.out.trans (b8.mono (by first | exact Nat.le_refl _ | simp; done | omega | (simp; omega))))
    have hz8 := b8.size
    try simp only [World.size_alloc] at hz8
    replace L := Lib.hid (L.out.below b8)
    replace S1 := Lib.hid (S1.out.below b8)
    replace S2 := Lib.hid (S2.out.below b8)
    replace S3 := Lib.hid (S3.out.below b8)
    replace S4 := Lib.hid (S4.out.below b8)
    replace S5 := Lib.hid (S5.out.below b8)
    replace S6 := Lib.hid (S6.out.below b8)
    replace S7 := Lib.hid (S7.out.below b8)
    replace G7 := Lib.hid (G7.out.below b8)
    clear b8
    have S8 := Lib.hid (o.slF RPin.isFlat (A' := AnyA) (fun _ _ => trivial))
    have G8 := Lib.hid (q.slF RI.isFlat (A' := AnyA) (fun _ _ => trivial))
    clear o q
    go_wp2_with fail
    refine (c_lease_Min _ l _ L.out).mono ?_
    rintro e w9 ⟨rfl, b9⟩
    replace B := Lib.hid (B.out.trans (b9.mono (by first | exact Nat.le_refl _ | simp; done | omega | (simp; omega))))
    have hz9 := b9.size
    try simp only [World.size_alloc] at hz9
    replace L := Lib.hid (L.out.below b9)
    replace S1 := Lib.hid (S1.out.below b9)
    replace S2 := Lib.hid (S2.out.below b9)
    replace S3 := Lib.hid (S3.out.below b9)
    replace S4 := Lib.hid (S4.out.below b9)
    replace S5 := Lib.hid (S5.out.below b9)
    replace S6 := Lib.hid (S6.out.below b9)
    replace S7 := Lib.hid (S7.out.below b9)
    replace G7 := Lib.hid (G7.out.below b9)
    replace S8 := Lib.hid (S8.out.below b9)
    replace G8 := Lib.hid (G8.out.below b9)
    clear b9
    go_wp2_with fail
    refine (c_ref_Min _ l _ L.out).mono ?_
    rintro e w10 ⟨rfl, rfl⟩
    go_wp2_with fail
    refine (c_Same25 _ _ _ _ S1.out S2.out).mono ?_
    rintro e w11 ⟨rfl, b11⟩
    replace B := Lib.hid (B.out.trans (b11.mono (by first | exact Nat.le_refl _ | simp; done | omega | (simp; omega))))
    have hz11 := b11.size
    try simp only [World.size_alloc] at hz11
    replace L := Lib.hid (L.out.below b11)
    replace S3 := Lib.hid (S3.out.below b11)
    replace S4 := Lib.hid (S4.out.below b11)
    replace S5 := Lib.hid (S5.out.below b11)
    replace S6 := Lib.hid (S6.out.below b11)
    replace S7 := Lib.hid (S7.out.below b11)
    replace G7 := Lib.hid (G7.out.below b11)
    replace S8 := Lib.hid (S8.out.below b11)
    replace G8 := Lib.hid (G8.out.below b11)
    clear b11
    go_wp2_with fail
    refine (c_Same25 _ _ _ _ S3.out S4.out).mono ?_
    rintro e w12 ⟨rfl, b12⟩
    replace B := Lib.hid (B.out.trans (b12.mono (by first | exact Nat.le_refl _ | simp; done | omega | (simp; omega))))
    have hz12 := b12.size
    try simp only [World.size_alloc] at hz12
    replace L := Lib.hid (L.out.below b12)
    replace S5 := Lib.hid (S5.out.below b12)
    replace S6 := Lib.hid (S6.out.below b12)
    replace S7 := Lib.hid (S7.out.below b12)
    replace G7 := Lib.hid (G7.out.below b12)
    replace S8 := Lib.hid (S8.out.below b12)
    replace G8 := Lib.hid (G8.out.below b12)
    clear b12
    go_wp2_with fail
    refine (c_Same25 _ _ _ _ S5.out S6.out).mono ?_
    rintro e w13 ⟨rfl, b13⟩
    replace B := Lib.hid (B.out.trans (b13.mono (by first | exact Nat.le_refl _ | simp; done | omega | (simp; omega))))
    have hz13 := b13.size
    try simp only [World.size_alloc] at hz13
    replace L := Lib.hid (L.out.below b13)
    replace S7 := Lib.hid (S7.out.below b13)
    replace G7 := Lib.hid (G7.out.below b13)
    replace S8 := Lib.hid (S8.out.below b13)
    replace G8 := Lib.hid (G8.out.below b13)
    clear b13
    go_wp2_with fail
    refine (c_Same25 _ _ _ _ S7.out S8.out).mono ?_
    rintro e w14 ⟨rfl, b14⟩
    replace B := Lib.hid (B.out.trans (b14.mono (by first | exact Nat.le_refl _ | simp; done | omega | (simp; omega))))
    have hz14 := b14.size
    try simp only [World.size_alloc] at hz14
    replace L := Lib.hid (L.out.below b14)
    replace G7 := Lib.hid (G7.out.below b14)
    replace G8 := Lib.hid (G8.out.below b14)
    clear b14
    go_wp2_with fail
    refine (c_SameInts _ _ _ _ G7.out G8.out).mono ?_
    rintro e w15 ⟨rfl, b15⟩
    replace B := Lib.hid (B.out.trans (b15.mono (by first | exact Nat.le_refl _ | simp; done | omega | (simp; omega))))
    have hz15 := b15.size
    try simp only [World.size_alloc] at hz15
    replace L := Lib.hid (L.out.below b15)
    clear b15
    go_wp2_with fail
    refine (c_lease_Right _ l _ L.out).mono ?_
    rintro e w16 ⟨rfl, b16⟩
    replace B := Lib.hid (B.out.trans (b16.mono (by first | exact Nat.le_refl _ | simp; done | omega | (simp; omega))))
    have hz16 := b16.size
    try simp only [World.size_alloc] at hz16
    replace L := Lib.hid (L.out.below b16)
    clear b16
    go_wp2_with fail
    refine (c_ref_Right25 _ l _ L.out).mono ?_
    rintro e w17 ⟨rfl, b17⟩
    replace B := Lib.hid (B.out.trans (b17.mono (by first | exact Nat.le_refl _ | simp; done | omega | (simp; omega))))
    have hz17 := b17.size
    try simp only [World.size_alloc] at hz17
    clear b17
    go_wp2_with fail
    refine (c_awake25 _).mono ?_
    rintro e w18 ⟨rfl, b18⟩
    replace B := Lib.hid (B.out.trans (b18.mono (by first | exact Nat.le_refl _ | simp; done | omega | (simp; omega))))
    have hz18 := b18.size
    try simp only [World.size_alloc] at hz18
    clear b18
    go_wp2
    go_ret
    exact ⟨rfl, B.out⟩

end Go.Proofs.Ytabebdompkkhlaa
