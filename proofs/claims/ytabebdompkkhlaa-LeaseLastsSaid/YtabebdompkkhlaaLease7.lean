/- The walks of layer 25: Same, SameInts, awake. -/
import Derived.Test.YtabebdompkkhlaaLease3
import Derived.Test.YtabebdompkkhlaaLease5
import Derived.Test.YtabebdompkkhlaaLease6
namespace Go.Proofs.Ytabebdompkkhlaa
open Go.RowKit

theorem open_RI {A : Nat → Prop} {w : World} {v : Value} {l : List Int} (h : slRep RI A w v l) :
    ∃ (ao : Option Addr) (b off cap : Nat), v = .slice ao l.length cap ∧ l.length ≤ cap ∧ cap ≤ maxLen ∧ (0 < l.length → ao = some ⟨b, off, none⟩ ∧ b < w.heap.size) ∧ ∀ i (h : i < l.length), w.cell? ⟨b, off + i, none⟩ = some (.int .i64 l[i]) ∧ i64ok l[i] := by
  obtain ⟨ao, b, off, cap, hv, hc, hm, hb, hx⟩ := h
  refine ⟨ao, b, off, cap, hv, hc, hm, fun h0 => ⟨(hb h0).1, (hb h0).2.2⟩, fun i hi => ?_⟩
  obtain ⟨cs, ⟨rfl, hok⟩, hcs⟩ := hx i hi
  have := hcs 0 (by simp)
  refine ⟨?_, hok⟩
  simpa [RI, Rp.flat] using this

set_option maxHeartbeats 800000 in
theorem c_Same25 {A A' : Nat → Prop} (v v' : Value) (l : List Pin) (w : World) (hl : slRep RPin A w v l) (hl' : slRep RPin A' w v' l) :
    Calls Try.prog 16 #[v, v'] w fun e w' => e = .returned (.bool true) ∧ Below w.heap.size w w' := by
  obtain ⟨ao, b, off, cap, rfl, hc, hm, hb, hx⟩ := open_Pins hl
  obtain ⟨ao', b', off', cap', rfl, hc', hm', hb', hx'⟩ := open_Pins hl'
  unfold maxLen at hm hm'
  have hne : ((l.length : Int) != (l.length : Int)) = false := by simp
  go_enter Try.func16, Try.ntmps16
  go_wp2
  go_loopw [5] (fun i wr => ∃ k : Nat, k ≤ l.length ∧ i = .int .i64 k ∧ Below w.heap.size w wr) (fun i _ => l.length - (intOf i).toNat)
  case atStart => exact ⟨0, by omega, rfl, Below.refl _ _⟩
  case round =>
    obtain ⟨k, hk, rfl, hbl⟩ := hrel
    by_cases hlt : k < l.length
    · obtain ⟨rfl, hblt⟩ := hb (by omega)
      obtain ⟨rfl, hblt'⟩ := hb' (by omega)
      obtain ⟨⟨h0, h1, h2⟩, _⟩ := hx k hlt
      obtain ⟨⟨g0, g1, g2⟩, _⟩ := hx' k hlt
      have hbc := bcell hbl
      have hk0 : (0 : Int) ≤ (k : Int) := by omega
      have hk1 : (k : Int) < (l.length : Int) := by omega
      go_wp2_with fail
      go_quiet (fail)
      go_wp2
      go_roundw
      case rel => exact ⟨k + 1, by omega, by go_num, below_drewN hbl _⟩
      case measure => simp [intOf]; omega
    · obtain rfl : k = l.length := by omega
      go_wp2
      go_ret
      exact ⟨rfl, hbl⟩

set_option maxHeartbeats 800000 in
theorem c_SameInts {A A' : Nat → Prop} (v v' : Value) (l : List Int) (w : World) (hl : slRep RI A w v l) (hl' : slRep RI A' w v' l) :
    Calls Try.prog 17 #[v, v'] w fun e w' => e = .returned (.bool true) ∧ Below w.heap.size w w' := by
  obtain ⟨ao, b, off, cap, rfl, hc, hm, hb, hx⟩ := open_RI hl
  obtain ⟨ao', b', off', cap', rfl, hc', hm', hb', hx'⟩ := open_RI hl'
  unfold maxLen at hm hm'
  have hne : ((l.length : Int) != (l.length : Int)) = false := by simp
  go_enter Try.func17, Try.ntmps17
  go_wp2
  go_loopw [5] (fun i wr => ∃ k : Nat, k ≤ l.length ∧ i = .int .i64 k ∧ Below w.heap.size w wr) (fun i _ => l.length - (intOf i).toNat)
  case atStart => exact ⟨0, by omega, rfl, Below.refl _ _⟩
  case round =>
    obtain ⟨k, hk, rfl, hbl⟩ := hrel
    by_cases hlt : k < l.length
    · obtain ⟨rfl, hblt⟩ := hb (by omega)
      obtain ⟨rfl, hblt'⟩ := hb' (by omega)
      obtain ⟨h0, _⟩ := hx k hlt
      obtain ⟨g0, _⟩ := hx' k hlt
      have hbc := bcell hbl
      have hk0 : (0 : Int) ≤ (k : Int) := by omega
      have hk1 : (k : Int) < (l.length : Int) := by omega
      go_wp2_with fail
      go_quiet (fail)
      go_wp2
      go_roundw
      case rel => exact ⟨k + 1, by omega, by go_num, below_drewN hbl _⟩
      case measure => simp [intOf]; omega
    · obtain rfl : k = l.length := by omega
      go_wp2
      go_ret
      exact ⟨rfl, hbl⟩

def pA : Pin := ⟨1, 5, 8⟩
def pB : Pin := ⟨2, 3, 8⟩

set_option maxHeartbeats 800000 in
theorem c_awake25 (w : World) : Calls Try.prog 5 #[] w fun e w' => e = .returned (.bool true) ∧ Below w.heap.size w w' := by
  have hg1 := c_lease_Grant (A := AnyA) (.slice none 0 0) [] 1 5 w (slRep.nil _ _ _ _ _ (by decide)) (by constructor <;> decide) (by decide)
  rw [show grantL [] 1 5 = ([pA], 0) by rfl] at hg1
  have Hg1 := Lib.hid hg1
  have hq2 : grantL [pA] 2 3 = ([pA, pB], 0) := by rfl
  have hq3 : minL [pA, pB] = 3 := by rfl
  have Hq2 := Lib.hid hq2
  have Hq3 := Lib.hid hq3
  clear hg1 hq2 hq3
  go_enter Try.func5, Try.ntmps5
  go_wp2_with fail
  refine Hg1.out.mono ?_
  rintro e w1 ⟨v1, rfl, o1, b1⟩
  have B := Lib.hid b1
  have S1 := Lib.hid (o1.slF RPin.isFlat (A' := AnyA) (fun _ _ => trivial))
  have hz1 := b1.size
  clear b1 o1
  go_wp2_with fail
  have hg2 := c_lease_Grant v1 [pA] 2 3 w1 S1.out (by constructor <;> decide) (by decide)
  rw [Hq2.out] at hg2
  refine hg2.mono ?_
  clear hg2
  rintro e w2 ⟨v2, rfl, o2, b2⟩
  replace B := Lib.hid (B.out.trans (b2.mono (by omega)))
  have hz2 := b2.size
  have S2 := Lib.hid (o2.slF RPin.isFlat (A' := AnyA) (fun _ _ => trivial))
  clear b2 o2
  go_wp2_with fail
  have hmn := c_lease_Min v2 [pA, pB] w2 S2.out
  rw [Hq3.out] at hmn
  refine hmn.mono ?_
  clear hmn
  rintro e w3 ⟨rfl, b3⟩
  replace B := Lib.hid (B.out.trans (b3.mono (by omega)))
  have S3 := S2.out.below b3
  clear b3 S1 S2
  obtain ⟨ao, b, off, cap, rfl, hc, hm, hb, hx⟩ := open_Pins S3
  obtain ⟨rfl, hblt⟩ := hb (by decide)
  obtain ⟨⟨h0, h1, h2⟩, _⟩ := hx 0 (by decide)
  simp only [Nat.zero_mul, Nat.add_zero, List.getElem_cons_zero] at h0 h1 h2
  clear hx hb S3
  have hl8 : pA.left = 8 := rfl
  rw [hl8] at h2
  go_wp2
  go_ret
  exact ⟨rfl, B.out⟩

end Go.Proofs.Ytabebdompkkhlaa
