/- The walks of 'vers' and 'catenaref14'. -/
import Derived.Test.YtnebjcdhbjahoaaCell
import Derived.Test.YtnebjcdhbjahoaaProg
import Derived.Test.YtnebjcdhbjahoaaRegion
import Derived.Lib.LazyBuf
import Derived.ScopeJumps
import Derived.BigQuiet
import Derived.Deep.QuietTactic
namespace Go.Proofs.Ytnebjcdhbjahoaa
open Go.RowKit

set_option maxHeartbeats 400000 in
theorem c_vers_Right {A : Nat → Prop} (v : Value) (l : List Cell) (w : World) (hl : slRep RCell A w v l) :
    Calls Try.prog 11 #[v] w fun e w' => e = .returned (.bool (rightL 0 l)) ∧ Below w.heap.size w w' := by
  obtain ⟨ao, b, off, cap, rfl, hc, hm, hb, hx⟩ := open_cells hl
  unfold maxLen at hm
  go_enter Try.func11, Try.ntmps11
  go_wp2
  go_loopw [3, 8] (fun a i wr => ∃ k : Nat, k ≤ l.length ∧ i = .int .i64 k ∧ a = .int .u64 (aheadL l k) ∧ rightL 0 l = rightL (aheadL l k) (l.drop k) ∧ Below w.heap.size w wr) (fun _ i _ => l.length - (intOf i).toNat)
  case atStart => exact ⟨0, by omega, rfl, rfl, by simp [aheadL], Below.refl _ _⟩
  case round =>
    obtain ⟨k, hk, rfl, rfl, hr, hbl⟩ := hrel
    have Hr := Lib.hid hr
    clear hr
    by_cases hlt : k < l.length
    · obtain ⟨rfl, hblt⟩ := hb (by omega)
      obtain ⟨⟨h0, h1, h2⟩, _, _⟩ := hx k hlt
      have hbc := bcell hbl
      have hstep := Lib.hid (right_step l k hlt)
      have hn : aheadL l (k + 1) = l[k].ts := by simp [aheadL, List.getElem?_eq_getElem hlt]
      have Hn := Lib.hid hn
      clear hn
      by_cases ht : l[k].ts ≤ aheadL l k
      · go_wp2
        go_ret
        exact ⟨ret_bool (a := false) (by rw [Hr.out, hstep.out, if_pos ht]), hbl.alloc hbl.size _⟩
      · go_wp2
        go_roundw
        case rel => exact ⟨k + 1, by omega, by go_num, by rw [Hn.out], by rw [Hr.out, hstep.out, if_neg ht], hbl.alloc hbl.size _⟩
        case measure => simp [intOf]; omega
    · obtain rfl : k = l.length := by omega
      go_wp2
      go_ret
      exact ⟨ret_bool (a := true) (by rw [Hr.out, List.drop_length]; rfl), hbl⟩

/-! ### append's facts on the element's type -/
theorem E_Cell : Elem Try.prog 22 25 3 32 := ⟨Try.underlying22, by
  have h : (Try.prog.info? 25).map (fun i => (i.zero, i.size, i.bytes)) = some (some (.agg #[.int .u64 0, .string ByteArray.empty, .bool false]), 3, 32) := by kernel_rfl
  obtain ⟨i, h1, h2, h3, h4⟩ := info_parts h
  exact ⟨i, _, h1, h2, h3, h4, rfl⟩, by decide⟩

set_option maxHeartbeats 400000 in
theorem c_Clone_Cell {A : Nat → Prop} (v : Value) (l : List Cell) (w : World) (hl : slRep RCell A w v l) (hm : l.length * 32 ≤ 140737488355328) :
    Calls Try.prog 16 #[v] w fun e w' => ∃ v', e = .returned v' ∧ Ow RCell A w.heap.size 25 w' v' l ∧ Below w.heap.size w w' := by
  have hl0 := hl
  have hlen := hl.len_le
  obtain ⟨ao, b, off, cap, rfl, hc, hmx, hb, hx⟩ := hl
  have hq : ∀ w : World, (binOp .eql 22 (.slice ao l.length cap) (.slice none 0 0)).run Try.prog w = .ok (.bool ao.isNone) w := fun w => Go.Lib.run_eql_slice_nil w _ _ _ _ _ _ _ Try.underlying22
  cases ao with
  | none =>
    have hz : l = [] := by
      cases l with
      | nil => rfl
      | cons c l => exact absurd (hb (by simp)).1 (by simp)
    subst hz
    simp only [List.length_nil] at hq ⊢
    go_enter Try.func16, Try.ntmps16
    go_wp2
    go_ret
    exact ⟨_, rfl, Ow.nil _ _ _ _ _ _, Below.refl _ _⟩
  | some ad =>
    go_enter Try.func16, Try.ntmps16
    have Hw1 : Hid (∀ o, slRep RCell (fun k => A k ∧ k < w.heap.size) (w.alloc o) (.slice (some ad) l.length cap) l) := Lib.hid fun o => hl0.bound.below ((Below.refl _ _).alloc (Nat.le_refl _) _)
    have c2 : ([] : List Cell).length + l.length ≤ maxLen := by simpa using hlen
    have c3 : (([] : List Cell).length + l.length) * 32 ≤ 140737488355328 := by simpa using hm
    have c4 : ∀ o, w.heap.size ≤ (w.alloc o).heap.size := fun o => by simp
    clear hx hb hl0
    go_wp2_with (at_builtin; go_must (refine wpList_app rfl _ _ _ rfl RCell A w.heap.size E_Cell rfl _ _ [] l rfl rfl (Ow.nil _ _ _ _ _ _) _ (Hw1.out _) (Rp.offNew _ _ _) c2 c3 (c4 _) ?_))
    intro v' w1 hown hbel _
    go_wp2
    go_ret
    exact ⟨_, rfl, hown, ((Below.refl _ _).alloc (Nat.le_refl _) _).trans hbel⟩

set_option maxHeartbeats 400000 in
theorem c_vers_scan {A : Nat → Prop} (v : Value) (l : List Cell) (t : Nat) (w : World) (hl : slRep RCell A w v l) :
    Calls Try.prog 19 #[v, .int .u64 t] w fun e w' => e = .returned (.int .i64 (uptoL l t)) ∧ w = w' := by
  obtain ⟨ao, b, off, cap, rfl, hc, hm, hb, hx⟩ := open_cells hl
  unfold maxLen at hm
  go_enter Try.func19, Try.ntmps19
  go_wp2
  go_loop [5] (fun n => ∃ k : Nat, k ≤ l.length ∧ n = .int .i64 k ∧ uptoL l t = scanL l t k) (fun n => (intOf n).toNat)
  case atStart => exact ⟨l.length, Nat.le_refl _, rfl, rfl⟩
  case round =>
    obtain ⟨k, hk, rfl, hr⟩ := hrel
    have Hr := Lib.hid hr
    clear hr
    cases k with
    | zero =>
      go_wp2
      go_ret
      exact ⟨ret_int (a := 0) (by rw [Hr.out]; rfl), rfl⟩
    | succ m =>
      obtain ⟨rfl, hblt⟩ := hb (by omega)
      obtain ⟨⟨h0, _, _⟩, _, _⟩ := hx m (by omega)
      have hstep := Lib.hid (scan_step l t m (by omega))
      by_cases ht : t < l[m].ts
      · go_wp2
        go_round
        case rel => exact ⟨m, by omega, by go_num, by rw [Hr.out, hstep.out, if_pos ht]⟩
        case measure => simp [intOf]
      · go_wp2
        go_ret
        exact ⟨ret_int (a := ((m + 1 : Nat) : Int)) (by rw [Hr.out, hstep.out, if_neg ht]), rfl⟩

set_option maxHeartbeats 400000 in
theorem c_ref_last {A : Nat → Prop} (v : Value) (l : List Cell) (t : Nat) (w : World) (hl : slRep RCell A w v l) :
    Calls Try.prog 18 #[v, .int .u64 t] w fun e w' => e = .returned (.int .i64 ((uptoL l t : Int) - 1)) ∧ w = w' := by
  obtain ⟨ao, b, off, cap, rfl, hc, hm, hb, hx⟩ := open_cells hl
  unfold maxLen at hm
  go_enter Try.func18, Try.ntmps18
  go_wp2
  go_loop [5] (fun n => ∃ k : Nat, k ≤ l.length ∧ n = .int .i64 ((k : Int) - 1) ∧ uptoL l t = scanL l t k) (fun n => (intOf n + 1).toNat)
  case atStart => exact ⟨l.length, Nat.le_refl _, rfl, rfl⟩
  case round =>
    obtain ⟨k, hk, rfl, hr⟩ := hrel
    have Hr := Lib.hid hr
    clear hr
    cases k with
    | zero =>
      go_wp2
      go_ret
      exact ⟨ret_int (a := -1) (by rw [Hr.out]; rfl), rfl⟩
    | succ m =>
      obtain ⟨rfl, hblt⟩ := hb (by omega)
      obtain ⟨⟨h0, _, _⟩, _, _⟩ := hx m (by omega)
      have hstep := Lib.hid (scan_step l t m (by omega))
      rw [show (((m + 1 : Nat) : Int) - 1) = (m : Int) by omega]
      by_cases ht : t < l[m].ts
      · go_wp2
        go_round
        case rel => exact ⟨m, by omega, by go_num, by rw [Hr.out, hstep.out, if_pos ht]⟩
        case measure => simp [intOf]
      · go_wp2
        go_ret
        exact ⟨ret_int (a := (m : Int)) (by rw [Hr.out, hstep.out, if_neg ht]; omega), rfl⟩

set_option maxHeartbeats 800000 in
set_option maxRecDepth 100000 in
theorem c_vers_upto {A : Nat → Prop} (v : Value) (l : List Cell) (t : Nat) (w : World) (hl : slRep RCell A w v l) :
    Calls Try.prog 17 #[v, .int .u64 t] w fun e w' => e = .returned (.int .i64 (uptoL l t)) ∧ Below w.heap.size w w' := by
  have hl0 := hl
  obtain ⟨ao, b, off, cap, rfl, hc, hm, hb, hx⟩ := open_cells hl
  unfold maxLen at hm
  cases hr : rightL 0 l with
  | false =>
    go_enter Try.func17, Try.ntmps17
    go_wp2
    go_step3
    go_wp2_with fail
    refine (c_vers_Right _ l _ hl0).mono ?_
    rintro e w1 ⟨rfl, hb1⟩
    have hl1 := hl0.below hb1
    go_wp2_with fail
    refine (c_vers_scan _ l t _ hl1).mono ?_
    rintro e w2 ⟨rfl, rfl⟩
    go_wp2
    rw [Exit.noGoto_ret]
    go_ret
    exact ⟨rfl, hb1⟩
  | true =>
    obtain ⟨_, hs⟩ := right_sorted l 0 hr
    go_enter Try.func17, Try.ntmps17
    go_wp2
    refine wp_scope_jumps 0 (fun a' w' => Below w.heap.size w w' ∧ ∃ (lo hi : Nat) (u7 u11 u12 u13 u16 u17 u18 u19 u20 u21 u22 u23 u24 u25 u26 u27 u28 u29 u30 u31 u32 u33 u34 u35 : Value), a' = { tmps := #[.slice ao l.length cap, .int .u64 t, undef, undef, .int .i64 0, .int .i64 lo, .int .i64 hi, u7, .slice ao l.length cap, .bool true, .bool false, u11, u12, u13, .slice ao l.length cap, .int .i64 l.length, u16, u17, u18, u19, u20, u21, u22, u23, u24, u25, u26, u27, u28, u29, u30, u31, u32, u33, u34, u35], defers := [] } ∧ lo ≤ hi ∧ hi ≤ l.length ∧ (∀ j (h : j < l.length), j < lo → ¬ t < l[j].ts) ∧ (∀ j (h : j < l.length), hi ≤ j → t < l[j].ts)) (fun a' _ => (intOf (a'.tmps.getD 6 undef) - intOf (a'.tmps.getD 5 undef)).toNat) rfl ?_ ?_
    · go_wp2_with fail
      refine (c_vers_Right _ l _ hl0).mono ?_
      rintro e w1 ⟨rfl, hb1⟩
      go_wp2
      go_step3
      by_cases h0 : l.length = 0
      · have hz : l = [] := List.eq_nil_of_length_eq_zero h0
        subst hz
        simp only [List.length_nil]
        go_wp2
        simp only [Exit.jump]
        go_ret
        exact ⟨rfl, hb1⟩
      · obtain ⟨rfl, hblt⟩ := hb (by omega)
        obtain ⟨⟨hc0, _, _⟩, _, _⟩ := hx (l.length / 2) (by omega)
        have hbc := bcell hb1
        have hne : (((0 : Int) == (l.length : Int))) = false := by simp; omega
        by_cases ht : t < (l[l.length / 2]'(by omega)).ts
        · go_wp2
          go_step3
          refine ⟨rfl, hb1, 0, l.length / 2, _, _, _, _, _, _, _, _, _, _, _, _, _, _, _, _, _, _, _, _, _, _, _, _, rfl, by omega, by omega, fun j _ hj => by omega, fun j hj hij => ?_⟩
          by_cases he : j = l.length / 2
          · subst he; exact ht
          · have := hs (l.length / 2) j (by omega) hj (by omega); omega
        · go_wp2
          go_step3
          refine ⟨rfl, hb1, l.length / 2 + 1, l.length, _, _, _, _, _, _, _, _, _, _, _, _, _, _, _, _, _, _, _, _, _, _, _, _, rfl, by omega, by omega, fun j hj hij => ?_, fun j hj hij => by omega⟩
          by_cases he : j = l.length / 2
          · subst he; exact ht
          · have := hs j (l.length / 2) hj (by omega) (by omega); omega
    · rintro a' w1 ⟨hb1, lo, hi, u7, u11, u12, u13, u16, u17, u18, u19, u20, u21, u22, u23, u24, u25, u26, u27, u28, u29, u30, u31, u32, u33, u34, u35, rfl, hlh, hhl, hlow, hhigh⟩
      by_cases h0 : lo = hi
      · subst h0
        have hf := Lib.hid (upto_of l t lo hhl (fun j h hj => hhigh j h hj) (fun h => hlow (lo - 1) (by omega) (by omega)))
        clear hlow hhigh hs
        go_wp2
        simp only [Exit.jump]
        go_ret
        exact ⟨ret_int (a := (lo : Int)) (by rw [hf.out]), hb1⟩
      · obtain ⟨rfl, hblt⟩ := hb (by omega)
        obtain ⟨⟨hc0, _, _⟩, _, _⟩ := hx (lo + (hi - lo) / 2) (by omega)
        have hbc := bcell hb1
        have hne : (((lo : Int) == (hi : Int))) = false := by simp; omega
        have HL := Lib.hid hlow
        have HH := Lib.hid hhigh
        have HS := Lib.hid hs
        clear hlow hhigh hs
        have hmid : ((lo : Int) + ((hi : Int) - (lo : Int)) / 2) = ((lo + (hi - lo) / 2 : Nat) : Int) := by omega
        have Hmid := Lib.hid hmid
        clear hmid
        by_cases ht : t < (l[lo + (hi - lo) / 2]'(by omega)).ts
        · go_wp2
          go_step3
          rw [Hmid.out]
          refine ⟨rfl, ⟨hb1, lo, lo + (hi - lo) / 2, _, _, _, _, _, _, _, _, _, _, _, _, _, _, _, _, _, _, _, _, _, _, _, _, rfl, by omega, by omega, fun j hj hij => HL.out j hj hij, fun j hj hij => ?_⟩, ?_⟩
          · by_cases he : j = lo + (hi - lo) / 2
            · subst he; exact ht
            · have := HS.out (lo + (hi - lo) / 2) j (by omega) hj (by omega); omega
          · simp [intOf]; omega
        · go_wp2
          go_step3
          rw [Hmid.out]
          refine ⟨rfl, ⟨hb1, lo + (hi - lo) / 2 + 1, hi, _, _, _, _, _, _, _, _, _, _, _, _, _, _, _, _, _, _, _, _, _, _, _, _, rfl, by omega, by omega, fun j hj hij => ?_, fun j hj hij => HH.out j hj hij⟩, ?_⟩
          · by_cases he : j = lo + (hi - lo) / 2
            · subst he; exact ht
            · have := HS.out j (lo + (hi - lo) / 2) hj (by omega) (by omega); omega
          · simp [intOf]; omega

end Go.Proofs.Ytnebjcdhbjahoaa
