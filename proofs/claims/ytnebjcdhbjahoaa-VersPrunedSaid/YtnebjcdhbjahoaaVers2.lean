/- The walks of 'vers' and 'catenaref14', the rest. -/
import Derived.Test.YtnebjcdhbjahoaaVers
namespace Go.Proofs.Ytnebjcdhbjahoaa
open Go.RowKit

set_option maxHeartbeats 800000 in
theorem c_ref_Right {A : Nat → Prop} (v : Value) (l : List Cell) (w : World) (hl : slRep RCell A w v l) :
    Calls Try.prog 12 #[v] w fun e w' => e = .returned (.bool (rightL 0 l)) ∧ Below w.heap.size w w' := by
  obtain ⟨ao, b, off, cap, rfl, hc, hm, hb, hx⟩ := open_cells hl
  unfold maxLen at hm
  go_enter Try.func12, Try.ntmps12
  go_wp2
  go_loopw [3] (fun i wr => ∃ k : Nat, k ≤ l.length ∧ i = .int .i64 k ∧ rightL 0 l = rightL (aheadL l k) (l.drop k) ∧ Below w.heap.size w wr) (fun i _ => l.length - (intOf i).toNat)
  case atStart => exact ⟨0, by omega, rfl, by simp [aheadL], Below.refl _ _⟩
  case round =>
    obtain ⟨k, hk, rfl, hr, hbl⟩ := hrel
    have Hr := Lib.hid hr
    clear hr
    by_cases hlt : k < l.length
    · obtain ⟨rfl, hblt⟩ := hb (by omega)
      obtain ⟨⟨h0, _, _⟩, _, _⟩ := hx k hlt
      have hbc := bcell hbl
      have hstep := Lib.hid (right_step l k hlt)
      have hlt' : (k : Int) < (l.length : Int) := by omega
      have hk0 : (0 : Int) ≤ (k : Int) := by omega
      by_cases hz : l[k].ts = 0
      · have hzb : ((l[k].ts : Int) == 0) = true := by simp [hz]
        have Hz := Lib.hid hz
        clear hz
        go_wp2_with fail
        go_quiet (fail)
        go_wp2
        go_ret
        exact ⟨ret_bool (a := false) (by rw [Hr.out, hstep.out, if_pos (by rw [Hz.out]; omega)]), Below.trans hbl (below_drewN (Below.refl _ _) _)⟩
      · have hzb : ((l[k].ts : Int) == 0) = false := by simp; omega
        clear hz
        by_cases hk1 : k = 0
        · have hkb : decide (0 < k) = false := by simp; omega
          have hcon : ¬ l[k].ts ≤ aheadL l k := by
            rw [show aheadL l k = 0 by rw [hk1]; rfl]
            simp at hzb; omega
          have Hn := Lib.hid (right_step l k hlt)
          clear hk1
          go_wp2_with fail
          go_quiet (fail)
          go_wp2
          go_roundw
          case rel => exact ⟨k + 1, by omega, by go_num, by rw [Hr.out, hstep.out, if_neg hcon], Below.trans hbl (below_drewN (Below.refl _ _) _)⟩
          case measure => simp [intOf]; omega
        · have hkb : decide (0 < k) = true := by simp; omega
          obtain ⟨⟨g0, _, _⟩, _, _⟩ := hx (k - 1) (by omega)
          have ha : aheadL l k = (l[k - 1]'(by omega)).ts := by
            obtain ⟨m, rfl⟩ : ∃ m, k = m + 1 := ⟨k - 1, by omega⟩
            simp [aheadL, List.getElem?_eq_getElem (show m < l.length by omega)]
          have Ha := Lib.hid ha
          clear ha
          have hk2 : (0 : Int) < (k : Int) := by omega
          have hk3 : (k : Int) - 1 < (l.length : Int) := by omega
          have hk4 : (0 : Int) ≤ (k : Int) - 1 := by omega
          clear hk1
          by_cases ht : l[k].ts ≤ (l[k - 1]'(by omega)).ts
          · have htb : decide (l[k].ts ≤ (l[k - 1]'(by omega)).ts) = true := by simpa using ht
            go_wp2_with fail
            go_quiet (fail)
            go_wp2
            go_ret
            exact ⟨ret_bool (a := false) (by rw [Hr.out, hstep.out, if_pos (by rw [Ha.out]; exact ht)]), Below.trans hbl (below_drewN (Below.refl _ _) _)⟩
          · have htb : decide (l[k].ts ≤ (l[k - 1]'(by omega)).ts) = false := by simpa using ht
            go_wp2_with fail
            go_quiet (fail)
            go_wp2
            go_roundw
            case rel => exact ⟨k + 1, by omega, by go_num, by rw [Hr.out, hstep.out, if_neg (by rw [Ha.out]; exact ht)], Below.trans hbl (below_drewN (Below.refl _ _) _)⟩
            case measure => simp [intOf]; omega
    · obtain rfl : k = l.length := by omega
      go_wp2
      go_ret
      exact ⟨ret_bool (a := true) (by rw [Hr.out, List.drop_length]; rfl), hbl⟩

theorem at_zero {l : List Cell} {t : Nat} (h : uptoL l t = 0) : atL l t = (ByteArray.empty, false) := by unfold atL; rw [h]
theorem at_del {l : List Cell} {t m : Nat} (h : uptoL l t = m + 1) (hm : m < l.length) (hd : l[m].del = true) : atL l t = (ByteArray.empty, false) := by unfold atL; rw [h]; simp [List.getElem?_eq_getElem hm, hd]
theorem at_val {l : List Cell} {t m : Nat} (h : uptoL l t = m + 1) (hm : m < l.length) (hd : l[m].del = false) : atL l t = (l[m].val, true) := by unfold atL; rw [h]; simp [List.getElem?_eq_getElem hm, hd]

set_option maxHeartbeats 400000 in
theorem c_vers_At {A : Nat → Prop} (v : Value) (l : List Cell) (t : Nat) (w : World) (hl : slRep RCell A w v l) :
    Calls Try.prog 9 #[v, .int .u64 t] w fun e w' => e = .returned (.tuple #[.string (atL l t).1, .bool (atL l t).2]) ∧ Below w.heap.size w w' := by
  have hu := c_vers_upto v l t w hl
  have hle := upto_le l t
  obtain ⟨ao, b, off, cap, rfl, hc, hm, hb, hx⟩ := open_cells hl
  unfold maxLen at hm
  cases hn : uptoL l t with
  | zero =>
    have Hat := Lib.hid (at_zero hn)
    rw [hn] at hu
    have Hu := Lib.hid hu
    clear hu hn
    go_enter Try.func9, Try.ntmps9
    go_wp2_with fail
    refine Hu.out.mono ?_
    rintro e w1 ⟨rfl, hb1⟩
    go_wp2
    go_ret2
    exact ⟨ret_pair (f := Value.string) (g := Value.bool) (a := ByteArray.empty) (b := false) _ Hat.out, hb1⟩
  | succ m =>
    have hml : m < l.length := by omega
    obtain ⟨rfl, hblt⟩ := hb (by omega)
    obtain ⟨⟨h0, h1, h2⟩, _, _⟩ := hx m hml
    rw [hn] at hu
    have Hu := Lib.hid hu
    clear hu
    cases hd : (l[m]'hml).del with
    | true =>
      have Hat := Lib.hid (at_del hn hml hd)
      clear hn
      go_enter Try.func9, Try.ntmps9
      go_wp2_with fail
      refine Hu.out.mono ?_
      rintro e w1 ⟨rfl, hb1⟩
      have hbc := bcell hb1
      go_wp2
      go_ret2
      exact ⟨ret_pair (f := Value.string) (g := Value.bool) (a := ByteArray.empty) (b := false) _ Hat.out, hb1⟩
    | false =>
      have Hat := Lib.hid (at_val hn hml hd)
      clear hn
      go_enter Try.func9, Try.ntmps9
      go_wp2_with fail
      refine Hu.out.mono ?_
      rintro e w1 ⟨rfl, hb1⟩
      have hbc := bcell hb1
      go_wp2
      go_ret2
      exact ⟨ret_pair (f := Value.string) (g := Value.bool) (a := (l[m]'hml).val) (b := true) _ Hat.out, hb1⟩

set_option maxHeartbeats 400000 in
theorem c_ref_At {A : Nat → Prop} (v : Value) (l : List Cell) (t : Nat) (w : World) (hl : slRep RCell A w v l) :
    Calls Try.prog 10 #[v, .int .u64 t] w fun e w' => e = .returned (.tuple #[.string (atL l t).1, .bool (atL l t).2]) ∧ Below w.heap.size w w' := by
  have hu := c_ref_last v l t w hl
  have hle := upto_le l t
  obtain ⟨ao, b, off, cap, rfl, hc, hm, hb, hx⟩ := open_cells hl
  unfold maxLen at hm
  cases hn : uptoL l t with
  | zero =>
    have Hat := Lib.hid (at_zero hn)
    rw [hn] at hu
    have Hu := Lib.hid hu
    clear hu hn
    go_enter Try.func10, Try.ntmps10
    go_wp2_with fail
    refine Hu.out.mono ?_
    rintro e w1 ⟨rfl, rfl⟩
    go_wp2
    go_ret2
    exact ⟨ret_pair (f := Value.string) (g := Value.bool) (a := ByteArray.empty) (b := false) _ Hat.out, Below.refl _ _⟩
  | succ m =>
    have hml : m < l.length := by omega
    obtain ⟨rfl, hblt⟩ := hb (by omega)
    obtain ⟨⟨h0, h1, h2⟩, _, _⟩ := hx m hml
    rw [hn, show (((m + 1 : Nat) : Int) - 1) = (m : Int) by omega] at hu
    have Hu := Lib.hid hu
    clear hu
    cases hd : (l[m]'hml).del with
    | true =>
      have Hat := Lib.hid (at_del hn hml hd)
      clear hn
      go_enter Try.func10, Try.ntmps10
      go_wp2_with fail
      refine Hu.out.mono ?_
      rintro e w1 ⟨rfl, rfl⟩
      go_wp2
      go_ret2
      exact ⟨ret_pair (f := Value.string) (g := Value.bool) (a := ByteArray.empty) (b := false) _ Hat.out, Below.refl _ _⟩
    | false =>
      have Hat := Lib.hid (at_val hn hml hd)
      clear hn
      go_enter Try.func10, Try.ntmps10
      go_wp2_with fail
      refine Hu.out.mono ?_
      rintro e w1 ⟨rfl, rfl⟩
      go_wp2
      go_ret2
      exact ⟨ret_pair (f := Value.string) (g := Value.bool) (a := (l[m]'hml).val) (b := true) _ Hat.out, Below.refl _ _⟩

theorem prune_zero {l : List Cell} {t : Nat} (h : uptoL l t = 0) : pruneL l t = l := by unfold pruneL pruneN; rw [h]; rfl
theorem prune_del {l : List Cell} {t m : Nat} (h : uptoL l t = m + 1) (hm : m < l.length) (hd : l[m].del = true) : pruneL l t = (l.take l.length).drop (m + 1) := by unfold pruneL pruneN; rw [h]; simp [List.getElem?_eq_getElem hm, hd]
theorem prune_val {l : List Cell} {t m : Nat} (h : uptoL l t = m + 1) (hm : m < l.length) (hd : l[m].del = false) : pruneL l t = (l.take l.length).drop m := by unfold pruneL pruneN; rw [h]; simp [List.getElem?_eq_getElem hm, hd]

set_option maxHeartbeats 400000 in
theorem c_vers_Prune {A : Nat → Prop} (v : Value) (l : List Cell) (t : Nat) (w : World) (hl : slRep RCell A w v l) (hm0 : l.length * 32 ≤ 140737488355328) :
    Calls Try.prog 14 #[v, .int .u64 t] w fun e w' => ∃ v', e = .returned v' ∧ Ow RCell A w.heap.size 25 w' v' (pruneL l t) ∧ Below w.heap.size w w' := by
  have hu := c_vers_upto v l t w hl
  have hle := upto_le l t
  have hl0 := hl
  obtain ⟨ao, b, off, cap, rfl, hc, hm, hb, hx⟩ := open_cells hl
  unfold maxLen at hm
  cases hn : uptoL l t with
  | zero =>
    have hp := prune_zero hn
    rw [hn] at hu
    have Hu := Lib.hid hu
    clear hu hn
    rw [hp]
    clear hp
    go_enter Try.func14, Try.ntmps14
    go_wp2_with fail
    refine Hu.out.mono ?_
    rintro e w1 ⟨rfl, hb1⟩
    have hl1 := hl0.below hb1
    go_wp2_with fail
    refine (c_Clone_Cell _ l _ hl1 hm0).mono ?_
    rintro e w2 ⟨v', rfl, ho, hb2⟩
    go_wp2
    go_ret
    exact ⟨_, rfl, ho.mono (fun _ h => h) hb1.size (Keep.refl _ _) (Keep.refl _ _), hb1.trans (hb2.mono hb1.size)⟩
  | succ m =>
    have hml : m < l.length := by omega
    obtain ⟨rfl, hblt⟩ := hb (by omega)
    obtain ⟨⟨h0, h1, h2⟩, _, _⟩ := hx m hml
    rw [hn] at hu
    have Hu := Lib.hid hu
    clear hu
    cases hd : (l[m]'hml).del with
    | true =>
      have hp := prune_del hn hml hd
      clear hn
      rw [hp]
      clear hp
      have hl2 := Lib.hid (hl0.sub 3 (m + 1) l.length rfl (by omega) (Nat.le_refl _))
      have hsub := run_sub_from (P := Try.prog) Try.underlying22 (k := 3) (by kernel_rfl) (some ⟨b, off, none⟩) l.length cap (m + 1) ((m : Int) + 1) (by omega) (by omega) hc
      go_enter Try.func14, Try.ntmps14
      go_wp2_with fail
      refine Hu.out.mono ?_
      rintro e w1 ⟨rfl, hb1⟩
      have hbc := bcell hb1
      have hl1 := hl2.out.below hb1
      have Hl1 := Lib.hid hl1
      clear hl1
      go_wp2_with fail
      refine (c_Clone_Cell _ _ _ Hl1.out (by simp; omega)).mono ?_
      rintro e w2 ⟨v', rfl, ho, hb2⟩
      go_wp2
      go_ret
      exact ⟨_, rfl, ho.mono (fun _ h => h) hb1.size (Keep.refl _ _) (Keep.refl _ _), hb1.trans (hb2.mono hb1.size)⟩
    | false =>
      have hp := prune_val hn hml hd
      clear hn
      rw [hp]
      clear hp
      have hl2 := Lib.hid (hl0.sub 3 (m) l.length rfl (by omega) (Nat.le_refl _))
      have hsub := run_sub_from (P := Try.prog) Try.underlying22 (k := 3) (by kernel_rfl) (some ⟨b, off, none⟩) l.length cap (m) ((m : Int)) (by omega) (by omega) hc
      go_enter Try.func14, Try.ntmps14
      go_wp2_with fail
      refine Hu.out.mono ?_
      rintro e w1 ⟨rfl, hb1⟩
      have hbc := bcell hb1
      have hl1 := hl2.out.below hb1
      have Hl1 := Lib.hid hl1
      clear hl1
      go_wp2_with fail
      refine (c_Clone_Cell _ _ _ Hl1.out (by simp; omega)).mono ?_
      rintro e w2 ⟨v', rfl, ho, hb2⟩
      go_wp2
      go_ret
      exact ⟨_, rfl, ho.mono (fun _ h => h) hb1.size (Keep.refl _ _) (Keep.refl _ _), hb1.trans (hb2.mono hb1.size)⟩

set_option maxHeartbeats 400000 in
theorem c_ref_Prune {A : Nat → Prop} (v : Value) (l : List Cell) (t : Nat) (w : World) (hl : slRep RCell A w v l) (hm0 : l.length * 32 ≤ 140737488355328) :
    Calls Try.prog 15 #[v, .int .u64 t] w fun e w' => ∃ v', e = .returned v' ∧ Ow RCell A w.heap.size 25 w' v' (pruneL l t) ∧ Below w.heap.size w w' := by
  have hu := c_ref_last v l t w hl
  have hle := upto_le l t
  have hl0 := hl
  have hlen := hl.len_le
  obtain ⟨ao, b, off, cap, rfl, hc, hm, hb, hx⟩ := open_cells hl
  unfold maxLen at hm
  cases hn : uptoL l t with
  | zero =>
    have hp := prune_zero hn
    rw [hn] at hu
    have Hu := Lib.hid hu
    clear hu hn
    rw [hp]
    clear hp
    have Hw1 : Hid (∀ o, slRep RCell A (w.alloc o) (.slice (subA ao cap 0 3) l.length cap) l) := Lib.hid fun o => by
      have := (hl0.sub 3 0 l.length rfl (by omega) (Nat.le_refl _)).below ((Below.refl _ _).alloc (Nat.le_refl _) o)
      simpa using this
    have hsub := run_sub_from (P := Try.prog) Try.underlying22 (k := 3) (by kernel_rfl) ao l.length cap 0 0 rfl (by omega) hc
    go_enter Try.func15, Try.ntmps15
    go_wp2_with fail
    refine Hu.out.mono ?_
    rintro e w1 ⟨rfl, rfl⟩
    go_wp2_with (at_builtin; refine wpList_app rfl _ _ _ rfl RCell A w.heap.size E_Cell rfl _ _ [] l rfl rfl (Ow.nil _ _ _ _ _ _) A (Hw1.out _) ?c1 ?c2 ?c3 ?c4 ?next)
    case c1 => exact RCell.flat.off
    case c2 => simpa using hlen
    case c3 => simpa using hm0
    case c4 => simp
    case next =>
      intro v' w1 hown hbel _
      go_wp2
      go_ret
      exact ⟨_, rfl, hown, ((Below.refl _ _).alloc (Nat.le_refl _) _).trans hbel⟩
  | succ m =>
    have hml : m < l.length := by omega
    obtain ⟨rfl, hblt⟩ := hb (by omega)
    obtain ⟨⟨h0, h1, h2⟩, _, _⟩ := hx m hml
    rw [hn, show (((m + 1 : Nat) : Int) - 1) = (m : Int) by omega] at hu
    have Hu := Lib.hid hu
    clear hu
    cases hd : (l[m]'hml).del with
    | true =>
      have hp := prune_del hn hml hd
      clear hn
      rw [hp]
      clear hp
      have Hw1 : Hid (∀ o, slRep RCell A (w.alloc o) (.slice (subA (some ⟨b, off, none⟩) cap (m + 1) 3) (l.length - (m + 1)) (cap - (m + 1))) ((l.take l.length).drop (m + 1))) := Lib.hid fun o =>
        (hl0.sub 3 (m + 1) l.length rfl (by omega) (Nat.le_refl _)).below ((Below.refl _ _).alloc (Nat.le_refl _) o)
      have hsub := run_sub_from (P := Try.prog) Try.underlying22 (k := 3) (by kernel_rfl) (some ⟨b, off, none⟩) l.length cap (m + 1) ((m : Int) + 1) (by omega) (by omega) hc
      go_enter Try.func15, Try.ntmps15
      go_wp2_with fail
      refine Hu.out.mono ?_
      rintro e w1 ⟨rfl, rfl⟩
      go_wp2_with (at_builtin; refine wpList_app rfl _ _ _ rfl RCell A w.heap.size E_Cell rfl _ _ [] ((l.take l.length).drop (m + 1)) rfl rfl (Ow.nil _ _ _ _ _ _) A (Hw1.out _) ?c1 ?c2 ?c3 ?c4 ?next)
      case c1 => exact RCell.flat.off
      case c2 => simp; omega
      case c3 => simp; omega
      case c4 => simp
      case next =>
        intro v' w1 hown hbel _
        go_wp2
        go_ret
        exact ⟨_, rfl, by rw [List.take_length]; exact hown, ((Below.refl _ _).alloc (Nat.le_refl _) _).trans hbel⟩
    | false =>
      have hp := prune_val hn hml hd
      clear hn
      rw [hp]
      clear hp
      have Hw1 : Hid (∀ o, slRep RCell A (w.alloc o) (.slice (subA (some ⟨b, off, none⟩) cap m 3) (l.length - m) (cap - m)) ((l.take l.length).drop m)) := Lib.hid fun o =>
        (hl0.sub 3 m l.length rfl (by omega) (Nat.le_refl _)).below ((Below.refl _ _).alloc (Nat.le_refl _) o)
      have hsub := run_sub_from (P := Try.prog) Try.underlying22 (k := 3) (by kernel_rfl) (some ⟨b, off, none⟩) l.length cap m (m : Int) (by omega) (by omega) hc
      go_enter Try.func15, Try.ntmps15
      go_wp2_with fail
      refine Hu.out.mono ?_
      rintro e w1 ⟨rfl, rfl⟩
      go_wp2_with (at_builtin; refine wpList_app rfl _ _ _ rfl RCell A w.heap.size E_Cell rfl _ _ [] ((l.take l.length).drop m) rfl rfl (Ow.nil _ _ _ _ _ _) A (Hw1.out _) ?c1 ?c2 ?c3 ?c4 ?next)
      case c1 => exact RCell.flat.off
      case c2 => simp; omega
      case c3 => simp; omega
      case c4 => simp
      case next =>
        intro v' w1 hown hbel _
        go_wp2
        go_ret
        exact ⟨_, rfl, by rw [List.take_length]; exact hown, ((Below.refl _ _).alloc (Nat.le_refl _) _).trans hbel⟩

end Go.Proofs.Ytnebjcdhbjahoaa
