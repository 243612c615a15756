/- The walks of 'lease' and 'catenaref25': Grant. -/
import Derived.Test.YtabebdompkkhlaaLease4
namespace Go.Proofs.Ytabebdompkkhlaa
open Go.RowKit

theorem pahead_last {l : List Pin} (h : 0 < l.length) : paheadL l l.length = l[l.length - 1].id := by
  obtain ⟨m, hm⟩ : ∃ m, l.length = m + 1 := ⟨l.length - 1, by omega⟩
  simp [paheadL, hm]

set_option maxHeartbeats 1600000 in
theorem c_lease_Grant {A : Nat → Prop} (v : Value) (l : List Pin) (id : Int) (t : Nat) (w : World) (hl : slRep RPin A w v l) (hid : i64ok id) (ht : t < 18446744073709551616) :
    Calls Try.prog 6 #[v, .int .i64 id, .int .u64 t] w fun e w' => ∃ v', e = .returned (.tuple #[v', .int .i64 (grantL l id t).2]) ∧ Ow RPin NoA w.heap.size 43 w' v' (grantL l id t).1 ∧ Below w.heap.size w w' := by
  have L := Lib.hid hl
  have hlen := hl.len_le
  obtain ⟨ao, b, off, cap, rfl, hc, hm, hb, hx⟩ := open_Pins hl
  unfold maxLen at hm
  by_cases h3 : 3 ≤ l.length
  · have hp : grantL l id t = ([], 17) := by rw [grantL, if_pos h3]
    rw [hp]
    have h3b : decide ((3 : Int) ≤ (l.length : Int)) = true := by simp; omega
    have h3c : decide (3 ≤ l.length) = true := by simpa using h3
    clear hp hx hb
    go_enter Try.func6, Try.ntmps6
    go_wp2
    go_ret2
    exact ⟨_, rfl, Ow.nil _ _ _ _ _ _, Below.refl _ _⟩
  · have h3b : decide ((3 : Int) ≤ (l.length : Int)) = false := by simp; omega
    have h3c : decide (3 ≤ l.length) = false := by simp; omega
    by_cases h1 : id < 1
    · have hp : grantL l id t = ([], 1) := by rw [grantL, if_neg h3, if_pos (.inl h1)]
      rw [hp]
      have h1b : decide (id < 1) = true := by simpa using h1
      clear hp hx hb
      go_enter Try.func6, Try.ntmps6
      go_wp2
      go_ret2
      exact ⟨_, rfl, Ow.nil _ _ _ _ _ _, Below.refl _ _⟩
    · have h1b : decide (id < 1) = false := by simpa using h1
      by_cases h2 : 1073741824 < id
      · have hp : grantL l id t = ([], 1) := by rw [grantL, if_neg h3, if_pos (.inr h2)]
        rw [hp]
        have h2b : decide (1073741824 < id) = true := by simpa using h2
        clear hp hx hb
        go_enter Try.func6, Try.ntmps6
        go_wp2
        go_ret2
        exact ⟨_, rfl, Ow.nil _ _ _ _ _ _, Below.refl _ _⟩
      · have h2b : decide (1073741824 < id) = false := by simpa using h2
        by_cases hbad : 0 < l.length ∧ id ≤ paheadL l l.length
        · have hp : grantL l id t = ([], 18) := by rw [grantL, if_neg h3, if_neg (by rintro (h | h) <;> omega), if_pos hbad]
          rw [hp]
          obtain ⟨hpos, hle⟩ := hbad
          rw [pahead_last hpos] at hle
          obtain ⟨rfl, hblt⟩ := hb hpos
          obtain ⟨⟨h0, _, _⟩, _⟩ := hx (l.length - 1) (by omega)
          have hposb : decide (0 < l.length) = true := by simpa using hpos
          have hdec : decide (id ≤ (l[l.length - 1]'(by omega)).id) = true := by simpa using hle
          have hl1 : (0 : Int) ≤ (l.length : Int) - 1 := by omega
          have hl2 : (l.length : Int) - 1 < (l.length : Int) := by omega
          clear hp
          go_enter Try.func6, Try.ntmps6
          go_wp2
          go_ret2
          exact ⟨_, rfl, Ow.nil _ _ _ _ _ _, Below.refl _ _⟩
        · have hp : grantL l id t = (l ++ [⟨id, t, 8⟩], 0) := by rw [grantL, if_neg h3, if_neg (by rintro (h | h) <;> omega), if_neg hbad]
          rw [hp]
          clear hp
          have Hsrc : Hid (∀ w1 : World, slRep RPin AnyA (w1.alloc (.cells #[.int .i64 id, .int .u64 t, .int .i64 8] 43)) (.slice (some ⟨w1.heap.size, 0, none⟩) 1 1) [(⟨id, t, 8⟩ : Pin)]) := Lib.hid fun w1 => slRep.made1 (R := RPin) (A := AnyA) (x := (⟨id, t, 8⟩ : Pin)) trivial ⟨rfl, hid, ht, i64ok_8⟩
          have d2 : l.length + [(⟨id, t, 8⟩ : Pin)].length ≤ maxLen := by simp only [List.length_cons, List.length_nil, maxLen]; omega
          have d3 : (l.length + [(⟨id, t, 8⟩ : Pin)].length) * 24 ≤ 140737488355328 := by simp only [List.length_cons, List.length_nil]; omega
          have c2 : ([] : List Pin).length + l.length ≤ maxLen := by simpa using hlen
          have c3 : (([] : List Pin).length + l.length) * 24 ≤ 140737488355328 := by simp only [List.length_nil]; omega
          go_enter Try.func6, Try.ntmps6
          go_upto_region 5 with fail
          go_cut [19] (fun s wx => s = .bool false ∧ w = wx)
          case first =>
            by_cases hpos : 0 < l.length
            · obtain ⟨rfl, hblt⟩ := hb hpos
              obtain ⟨⟨h0, _, _⟩, _⟩ := hx (l.length - 1) (by omega)
              have hgt : ¬ id ≤ (l[l.length - 1]'(by omega)).id := fun h => hbad ⟨hpos, by rw [pahead_last hpos]; exact h⟩
              have hposb : decide (0 < l.length) = true := by simpa using hpos
              have hdec : decide (id ≤ (l[l.length - 1]'(by omega)).id) = false := by simpa using hgt
              have hl1 : (0 : Int) ≤ (l.length : Int) - 1 := by omega
              have hl2 : (l.length : Int) - 1 < (l.length : Int) := by omega
              clear hgt
              go_wp2_with fail
              go_meet
              exact ⟨rfl, rfl⟩
            · have hposb : decide (0 < l.length) = false := by simpa using hpos
              go_wp2_with fail
              go_meet
              exact ⟨rfl, rfl⟩
          case rest =>
            obtain ⟨rfl, rfl⟩ := hcut
            clear hx hb
            go_wp2_with fail
            refine (c_Clone_Pin _ l _ L.out (by omega)).mono ?_
            rintro e w1 ⟨v1, rfl, o1, b1⟩
            have Ho := Lib.hid fun o => (o1.flat RPin.isFlat (A' := NoA)).below ((Below.refl w1.heap.size w1).alloc (Nat.le_refl _) o)
            have hz1 := b1.size
            have Hb := Lib.hid fun o => b1.alloc hz1 o
            have c4 : ∀ o, w.heap.size ≤ (w1.alloc o).heap.size := fun o => by simp; omega
            clear o1 b1
            go_wp2_with (at_builtin; go_must (refine wpList_app rfl _ _ _ rfl RPin NoA w.heap.size E_Pin rfl _ _ l [(⟨id, t, 8⟩ : Pin)] rfl rfl (Ho.out _) AnyA (Hsrc.out _) RPin.isFlat.off d2 d3 (c4 _) ?_))
            rintro v2 w2 o2 b2 -
            go_wp2
            go_ret2
            exact ⟨_, rfl, o2, (Hb.out _).trans b2⟩

set_option maxHeartbeats 1600000 in
theorem c_ref_Grant {A : Nat → Prop} (v : Value) (l : List Pin) (id : Int) (t : Nat) (w : World) (hl : slRep RPin A w v l) (hid : i64ok id) (ht : t < 18446744073709551616) :
    Calls Try.prog 7 #[v, .int .i64 id, .int .u64 t] w fun e w' => ∃ v', e = .returned (.tuple #[v', .int .i64 (grantL l id t).2]) ∧ Ow RPin NoA w.heap.size 43 w' v' (grantL l id t).1 ∧ Below w.heap.size w w' := by
  have L := Lib.hid hl
  have hlen := hl.len_le
  obtain ⟨ao, b, off, cap, rfl, hc, hm, hb, hx⟩ := open_Pins hl
  unfold maxLen at hm
  by_cases h3 : 3 ≤ l.length
  · have hp : grantL l id t = ([], 17) := by rw [grantL, if_pos h3]
    rw [hp]
    have h3b : decide ((3 : Int) ≤ (l.length : Int)) = true := by simp; omega
    have h3c : decide (3 ≤ l.length) = true := by simpa using h3
    clear hp hx hb
    go_enter Try.func7, Try.ntmps7
    go_wp2
    go_ret2
    exact ⟨_, rfl, Ow.nil _ _ _ _ _ _, Below.refl _ _⟩
  · have h3b : decide ((3 : Int) ≤ (l.length : Int)) = false := by simp; omega
    have h3c : decide (3 ≤ l.length) = false := by simp; omega
    by_cases h1 : id < 1
    · have hp : grantL l id t = ([], 1) := by rw [grantL, if_neg h3, if_pos (.inl h1)]
      rw [hp]
      have h1b : decide (id < 1) = true := by simpa using h1
      clear hp hx hb
      go_enter Try.func7, Try.ntmps7
      go_wp2
      go_ret2
      exact ⟨_, rfl, Ow.nil _ _ _ _ _ _, Below.refl _ _⟩
    · have h1b : decide (id < 1) = false := by simpa using h1
      by_cases h2 : 1073741824 < id
      · have hp : grantL l id t = ([], 1) := by rw [grantL, if_neg h3, if_pos (.inr h2)]
        rw [hp]
        have h2b : decide (1073741824 < id) = true := by simpa using h2
        clear hp hx hb
        go_enter Try.func7, Try.ntmps7
        go_wp2
        go_ret2
        exact ⟨_, rfl, Ow.nil _ _ _ _ _ _, Below.refl _ _⟩
      · have h2b : decide (1073741824 < id) = false := by simpa using h2
        by_cases hbad : 0 < l.length ∧ id ≤ paheadL l l.length
        · have hp : grantL l id t = ([], 18) := by rw [grantL, if_neg h3, if_neg (by rintro (h | h) <;> omega), if_pos hbad]
          rw [hp]
          obtain ⟨hpos, hle⟩ := hbad
          rw [pahead_last hpos] at hle
          obtain ⟨rfl, hblt⟩ := hb hpos
          obtain ⟨⟨h0, _, _⟩, _⟩ := hx (l.length - 1) (by omega)
          have hposb : decide (0 < l.length) = true := by simpa using hpos
          have hdec : decide (id ≤ (l[l.length - 1]'(by omega)).id) = true := by simpa using hle
          have hl1 : (0 : Int) ≤ (l.length : Int) - 1 := by omega
          have hl2 : (l.length : Int) - 1 < (l.length : Int) := by omega
          clear hp
          go_enter Try.func7, Try.ntmps7
          go_wp2
          go_ret2
          exact ⟨_, rfl, Ow.nil _ _ _ _ _ _, Below.refl _ _⟩
        · have hp : grantL l id t = (l ++ [⟨id, t, 8⟩], 0) := by rw [grantL, if_neg h3, if_neg (by rintro (h | h) <;> omega), if_neg hbad]
          rw [hp]
          clear hp
          have Hsrc : Hid (∀ w1 : World, slRep RPin AnyA (w1.alloc (.cells #[.int .i64 id, .int .u64 t, .int .i64 8] 43)) (.slice (some ⟨w1.heap.size, 0, none⟩) 1 1) [(⟨id, t, 8⟩ : Pin)]) := Lib.hid fun w1 => slRep.made1 (R := RPin) (A := AnyA) (x := (⟨id, t, 8⟩ : Pin)) trivial ⟨rfl, hid, ht, i64ok_8⟩
          have d2 : l.length + [(⟨id, t, 8⟩ : Pin)].length ≤ maxLen := by simp only [List.length_cons, List.length_nil, maxLen]; omega
          have d3 : (l.length + [(⟨id, t, 8⟩ : Pin)].length) * 24 ≤ 140737488355328 := by simp only [List.length_cons, List.length_nil]; omega
          have c2 : ([] : List Pin).length + l.length ≤ maxLen := by simpa using hlen
          have c3 : (([] : List Pin).length + l.length) * 24 ≤ 140737488355328 := by simp only [List.length_nil]; omega
          go_enter Try.func7, Try.ntmps7
          go_upto_region 5 with fail
          go_cut [30] (fun s wx => s = .bool false ∧ w = wx)
          case first =>
            by_cases hpos : 0 < l.length
            · obtain ⟨rfl, hblt⟩ := hb hpos
              obtain ⟨⟨h0, _, _⟩, _⟩ := hx (l.length - 1) (by omega)
              have hgt : ¬ id ≤ (l[l.length - 1]'(by omega)).id := fun h => hbad ⟨hpos, by rw [pahead_last hpos]; exact h⟩
              have hposb : decide (0 < l.length) = true := by simpa using hpos
              have hdec : decide (id ≤ (l[l.length - 1]'(by omega)).id) = false := by simpa using hgt
              have hl1 : (0 : Int) ≤ (l.length : Int) - 1 := by omega
              have hl2 : (l.length : Int) - 1 < (l.length : Int) := by omega
              clear hgt
              go_wp2_with fail
              go_meet
              exact ⟨rfl, rfl⟩
            · have hposb : decide (0 < l.length) = false := by simpa using hpos
              go_wp2_with fail
              go_meet
              exact ⟨rfl, rfl⟩
          case rest =>
            obtain ⟨rfl, rfl⟩ := hcut
            clear hx hb
            have Hw1 : Hid (∀ o, slRep RPin A (w.alloc o) (.slice ao l.length cap) l) := Lib.hid fun o => L.out.below ((Below.refl _ _).alloc (Nat.le_refl _) _)
            have c4 : ∀ o, w.heap.size ≤ (w.alloc o).heap.size := fun o => by simp
            have Hb0 := Lib.hid fun o => (Below.refl w.heap.size w).alloc (Nat.le_refl _) o
            go_wp2_with (at_builtin; go_must (refine wpList_app rfl _ _ _ rfl RPin NoA w.heap.size E_Pin rfl _ _ [] l rfl rfl (Ow.nil _ _ _ _ _ _) A (Hw1.out _) RPin.isFlat.off c2 c3 (c4 _) ?_))
            rintro v1 w1 o1 b1 -
            have Ho := Lib.hid fun o => o1.below ((Below.refl w1.heap.size w1).alloc (Nat.le_refl _) o)
            have hz1 : w.heap.size ≤ w1.heap.size := by have := b1.size; simp at this; omega
            have Hb := Lib.hid fun o => ((Hb0.out _).trans b1).alloc hz1 o
            have c5 : ∀ o, w.heap.size ≤ (w1.alloc o).heap.size := fun o => by simp; omega
            clear o1 b1
            go_wp2_with (at_builtin; go_must (refine wpList_app rfl _ _ _ rfl RPin NoA w.heap.size E_Pin rfl _ _ l [(⟨id, t, 8⟩ : Pin)] rfl rfl (Ho.out _) AnyA (Hsrc.out _) RPin.isFlat.off d2 d3 (c5 _) ?_))
            rintro v2 w2 o2 b2 -
            go_wp2
            go_ret2
            exact ⟨_, rfl, o2, (Hb.out _).trans b2⟩

end Go.Proofs.Ytabebdompkkhlaa
