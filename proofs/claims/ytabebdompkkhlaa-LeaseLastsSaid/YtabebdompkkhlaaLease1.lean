/- The walks of 'lease' and 'catenaref25': Right, find, Min. -/
import Derived.Test.YtabebdompkkhlaaPin
import Derived.Test.YtabebdompkkhlaaRegion
import Derived.Test.YtabebdompkkhlaaProg
import Derived.Lib.LazyBuf
import Derived.BigQuiet
import Derived.Deep.QuietTactic
namespace Go.Proofs.Ytabebdompkkhlaa
open Go.RowKit

theorem E_Pin : Elem Try.prog 22 43 3 24 := ⟨Try.underlying22, by
  have h : (Try.prog.info? 43).map (fun i => (i.zero, i.size, i.bytes)) = some (some (.agg #[.int .i64 0, .int .u64 0, .int .i64 0]), 3, 24) := by kernel_rfl
  obtain ⟨i, h1, h2, h3, h4⟩ := info_parts h
  exact ⟨i, _, h1, h2, h3, h4, rfl⟩, by decide⟩

set_option maxHeartbeats 400000 in
theorem c_Clone_Pin {A : Nat → Prop} (v : Value) (l : List Pin) (w : World) (hl : slRep RPin A w v l) (hm : l.length * 24 ≤ 140737488355328) :
    Calls Try.prog 20 #[v] w fun e w' => ∃ v', e = .returned v' ∧ Ow RPin A w.heap.size 43 w' v' l ∧ Below w.heap.size w w' := by
  have hl0 := hl
  have hlen := hl.len_le
  obtain ⟨ao, b, off, cap, rfl, hc, hmx, hb, hx⟩ := hl
  have hq : ∀ w : World, (binOp .eql 22 (.slice ao l.length cap) (.slice none 0 0)).run Try.prog w = .ok (.bool ao.isNone) w := fun w => Go.Lib.run_eql_slice_nil w _ _ _ _ _ _ _ Try.underlying22
  cases ao with
  | none =>
    have hz : l = [] := by
      cases l with
      | nil => rfl
      | cons c l => exact absurd (hb (by simp)).1 (by simp)
    subst hz
    simp only [List.length_nil] at hq ⊢
    go_enter Try.func20, Try.ntmps20
    go_wp2
    go_ret
    exact ⟨_, rfl, Ow.nil _ _ _ _ _ _, Below.refl _ _⟩
  | some ad =>
    go_enter Try.func20, Try.ntmps20
    have Hw1 : Hid (∀ o, slRep RPin (fun k => A k ∧ k < w.heap.size) (w.alloc o) (.slice (some ad) l.length cap) l) := Lib.hid fun o => hl0.bound.below ((Below.refl _ _).alloc (Nat.le_refl _) _)
    have c2 : ([] : List Pin).length + l.length ≤ maxLen := by simpa using hlen
    have c3 : (([] : List Pin).length + l.length) * 24 ≤ 140737488355328 := by simpa using hm
    have c4 : ∀ o, w.heap.size ≤ (w.alloc o).heap.size := fun o => by simp
    clear hx hb hl0
    go_wp2_with (at_builtin; go_must (refine wpList_app rfl _ _ _ rfl RPin A w.heap.size E_Pin rfl _ _ [] l rfl rfl (Ow.nil _ _ _ _ _ _) _ (Hw1.out _) (Rp.offNew _ _ _) c2 c3 (c4 _) ?_))
    rintro v' w1 hown hbel -
    go_wp2
    go_ret
    exact ⟨_, rfl, hown, ((Below.refl _ _).alloc (Nat.le_refl _) _).trans hbel⟩

set_option maxHeartbeats 400000 in
theorem c_lease_Right {A : Nat → Prop} (v : Value) (l : List Pin) (w : World) (hl : slRep RPin A w v l) :
    Calls Try.prog 18 #[v] w fun e w' => e = .returned (.bool (mayL l)) ∧ Below w.heap.size w w' := by
  obtain ⟨ao, b, off, cap, rfl, hc, hm, hb, hx⟩ := open_Pins hl
  unfold maxLen at hm
  go_enter Try.func18, Try.ntmps18
  go_wp2
  go_loopw [3, 8] (fun a i wr => ∃ k : Nat, k ≤ l.length ∧ i = .int .i64 k ∧ a = .int .i64 (paheadL l k) ∧ mayL l = (prightL (paheadL l k) (l.drop k) && decide (l.length ≤ 3)) ∧ Below w.heap.size w wr) (fun _ i _ => l.length - (intOf i).toNat)
  case atStart => exact ⟨0, by omega, rfl, rfl, by simp [mayL, paheadL], Below.refl _ _⟩
  case round =>
    obtain ⟨k, hk, rfl, rfl, hr, hbl⟩ := hrel
    have Hr := Lib.hid hr
    clear hr
    by_cases hlt : k < l.length
    · obtain ⟨rfl, hblt⟩ := hb (by omega)
      obtain ⟨⟨h0, h1, h2⟩, _⟩ := hx k hlt
      have hbc := bcell hbl
      have hstep := Lib.hid (pright_step l k hlt)
      have hn : paheadL l (k + 1) = l[k].id := by simp [paheadL, List.getElem?_eq_getElem hlt]
      have Hn := Lib.hid hn
      clear hn
      by_cases hbad : l[k].id ≤ paheadL l k ∨ l[k].left < 1 ∨ 8 < l[k].left
      · have Hbad := Lib.hid hbad
        go_wp2
        all_goals go_ret
        all_goals exact ⟨ret_bool (a := false) (by rw [Hr.out, hstep.out, if_pos Hbad.out]; rfl), hbl.alloc hbl.size _⟩
      · have Hok := Lib.hid hbad
        go_wp2
        go_roundw
        case rel => exact ⟨k + 1, by omega, by go_num, by rw [Hn.out], by rw [Hr.out, hstep.out, if_neg Hok.out], hbl.alloc hbl.size _⟩
        case measure => simp [intOf]; omega
    · obtain rfl : k = l.length := by omega
      go_wp2
      go_ret
      exact ⟨ret_bool (b := mayL l) (by rw [Hr.out, List.drop_length]; simp [prightL]; omega), hbl⟩

set_option maxHeartbeats 1600000 in
theorem c_ref_Right25 {A : Nat → Prop} (v : Value) (l : List Pin) (w : World) (hl : slRep RPin A w v l) :
    Calls Try.prog 19 #[v] w fun e w' => e = .returned (.bool (mayL l)) ∧ Below w.heap.size w w' := by
  obtain ⟨ao, b, off, cap, rfl, hc, hm, hb, hx⟩ := open_Pins hl
  unfold maxLen at hm
  go_enter Try.func19, Try.ntmps19
  go_wp2
  go_loopw [3] (fun i wr => ∃ k : Nat, k ≤ l.length ∧ i = .int .i64 k ∧ mayL l = (prightL (paheadL l k) (l.drop k) && decide (l.length ≤ 3)) ∧ 0 ≤ paheadL l k ∧ Below w.heap.size w wr) (fun i _ => l.length - (intOf i).toNat)
  case atStart => exact ⟨0, by omega, rfl, by simp [mayL, paheadL], by simp [paheadL], Below.refl _ _⟩
  case round =>
    obtain ⟨k, hk, rfl, hr, ha0, hbl⟩ := hrel
    have Hr := Lib.hid hr
    clear hr
    by_cases hlt : k < l.length
    · obtain ⟨rfl, hblt⟩ := hb (by omega)
      obtain ⟨⟨h0, _, h2⟩, _⟩ := hx k hlt
      have hbc := bcell hbl
      have hstep := Lib.hid (pright_step l k hlt)
      have hn : paheadL l (k + 1) = l[k].id := by simp [paheadL, List.getElem?_eq_getElem hlt]
      have Hn := Lib.hid hn
      clear hn
      have hlt' : (k : Int) < (l.length : Int) := by omega
      have hk0 : (0 : Int) ≤ (k : Int) := by omega
      by_cases h1 : l[k].id < 1
      · have h1b : decide (l[k].id < 1) = true := by simpa using h1
        have hbad : l[k].id ≤ paheadL l k := by omega
        go_wp2_with fail
        go_quiet (fail)
        go_wp2
        go_ret
        exact ⟨ret_bool (a := false) (by rw [Hr.out, hstep.out, if_pos (.inl hbad)]; rfl), Below.trans hbl (below_drewN (Below.refl _ _) _)⟩
      · have h1b : decide (l[k].id < 1) = false := by simpa using h1
        by_cases hk1 : k = 0
        · have hkb : decide (0 < k) = false := by simp; omega
          have hgood : ¬ l[k].id ≤ paheadL l k := by
            rw [show paheadL l k = 0 by rw [hk1]; rfl]; omega
          clear hk1
          by_cases h4 : l[k].left < 1
          · have h4b : decide (l[k].left < 1) = true := by simpa using h4
            go_wp2_with fail
            go_quiet (fail)
            go_wp2
            go_ret
            exact ⟨ret_bool (a := false) (by rw [Hr.out, hstep.out, if_pos (.inr (.inl h4))]; rfl), Below.trans hbl (below_drewN (Below.refl _ _) _)⟩
          · have h4b : decide (l[k].left < 1) = false := by simpa using h4
            by_cases h5 : 8 < l[k].left
            · have h5b : decide (8 < l[k].left) = true := by simpa using h5
              go_wp2_with fail
              go_quiet (fail)
              go_wp2
              go_ret
              exact ⟨ret_bool (a := false) (by rw [Hr.out, hstep.out, if_pos (.inr (.inr h5))]; rfl), Below.trans hbl (below_drewN (Below.refl _ _) _)⟩
            · have h5b : decide (8 < l[k].left) = false := by simpa using h5
              go_wp2_with fail
              go_quiet (fail)
              go_wp2
              go_roundw
              case rel => exact ⟨k + 1, by omega, by go_num, by rw [Hr.out, hstep.out, if_neg (by rintro (h | h | h) <;> omega)], by rw [Hn.out]; omega, Below.trans hbl (below_drewN (Below.refl _ _) _)⟩
              case measure => simp [intOf]; omega
        · have hkb : decide (0 < k) = true := by simp; omega
          obtain ⟨⟨g0, _, _⟩, _⟩ := hx (k - 1) (by omega)
          have ha : paheadL l k = (l[k - 1]'(by omega)).id := by
            obtain ⟨m, rfl⟩ : ∃ m, k = m + 1 := ⟨k - 1, by omega⟩
            simp [paheadL, List.getElem?_eq_getElem (show m < l.length by omega)]
          have Ha := Lib.hid ha
          clear ha
          have hk2 : (0 : Int) < (k : Int) := by omega
          have hk3 : (k : Int) - 1 < (l.length : Int) := by omega
          have hk4 : (0 : Int) ≤ (k : Int) - 1 := by omega
          clear hk1
          by_cases h3 : l[k].id ≤ (l[k - 1]'(by omega)).id
          · have h3b : decide (l[k].id ≤ (l[k - 1]'(by omega)).id) = true := by simpa using h3
            go_wp2_with fail
            go_quiet (fail)
            go_wp2
            go_ret
            exact ⟨ret_bool (a := false) (by rw [Hr.out, hstep.out, if_pos (.inl (by rw [Ha.out]; exact h3))]; rfl), Below.trans hbl (below_drewN (Below.refl _ _) _)⟩
          · have h3b : decide (l[k].id ≤ (l[k - 1]'(by omega)).id) = false := by simpa using h3
            have hgood : ¬ l[k].id ≤ paheadL l k := by rw [Ha.out]; exact h3
            have Hgood := Lib.hid hgood
            clear hgood
            by_cases h4 : l[k].left < 1
            · have h4b : decide (l[k].left < 1) = true := by simpa using h4
              go_wp2_with fail
              go_quiet (fail)
              go_wp2
              go_ret
              exact ⟨ret_bool (a := false) (by rw [Hr.out, hstep.out, if_pos (.inr (.inl h4))]; rfl), Below.trans hbl (below_drewN (Below.refl _ _) _)⟩
            · have h4b : decide (l[k].left < 1) = false := by simpa using h4
              by_cases h5 : 8 < l[k].left
              · have h5b : decide (8 < l[k].left) = true := by simpa using h5
                go_wp2_with fail
                go_quiet (fail)
                go_wp2
                go_ret
                exact ⟨ret_bool (a := false) (by rw [Hr.out, hstep.out, if_pos (.inr (.inr h5))]; rfl), Below.trans hbl (below_drewN (Below.refl _ _) _)⟩
              · have h5b : decide (8 < l[k].left) = false := by simpa using h5
                go_wp2_with fail
                go_quiet (fail)
                go_wp2
                go_roundw
                case rel => exact ⟨k + 1, by omega, by go_num, by rw [Hr.out, hstep.out, if_neg (by have hg := Hgood.out; rintro (h | h | h) <;> omega)], by rw [Hn.out]; omega, Below.trans hbl (below_drewN (Below.refl _ _) _)⟩
                case measure => simp [intOf]; omega
    · obtain rfl : k = l.length := by omega
      go_wp2
      go_ret
      exact ⟨ret_bool (b := mayL l) (by rw [Hr.out, List.drop_length]; simp [prightL]; omega), hbl⟩

end Go.Proofs.Ytabebdompkkhlaa
