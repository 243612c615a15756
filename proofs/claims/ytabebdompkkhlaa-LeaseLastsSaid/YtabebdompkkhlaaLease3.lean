/- The walks of 'lease' and 'catenaref25': Tick. -/
import Derived.Test.YtabebdompkkhlaaLease2
namespace Go.Proofs.Ytabebdompkkhlaa
open Go.RowKit

theorem E_int : Elem Try.prog 32 3 1 8 := ⟨Try.underlying32, by
  have h : (Try.prog.info? 3).map (fun i => (i.zero, i.size, i.bytes)) = some (some (.int .i64 0), 1, 8) := by kernel_rfl
  obtain ⟨i, h1, h2, h3, h4⟩ := info_parts h
  exact ⟨i, _, h1, h2, h3, h4, rfl⟩, by decide⟩

theorem tick_out {l : List Pin} {k : Nat} (h : k < l.length) (hl : 1 < l[k].left) : tickL (l.take (k + 1)) = tickL (l.take k) ++ [{ l[k] with left := l[k].left - 1 }] ∧ goneL (l.take (k + 1)) = goneL (l.take k) := by
  unfold tickL goneL
  rw [List.take_succ_eq_append_getElem h, List.filter_append, List.filter_append, List.map_append, List.map_append]
  simp [hl]
theorem tick_gone {l : List Pin} {k : Nat} (h : k < l.length) (hl : ¬ 1 < l[k].left) : tickL (l.take (k + 1)) = tickL (l.take k) ∧ goneL (l.take (k + 1)) = goneL (l.take k) ++ [l[k].id] := by
  unfold tickL goneL
  rw [List.take_succ_eq_append_getElem h, List.filter_append, List.filter_append, List.map_append, List.map_append]
  simp [hl]
theorem tick_len (l : List Pin) (k : Nat) : (tickL (l.take k)).length ≤ l.length := by
  unfold tickL
  rw [List.length_map]
  exact Nat.le_trans (List.length_filter_le _ _) (by simp; omega)
theorem gone_len (l : List Pin) (k : Nat) : (goneL (l.take k)).length ≤ l.length := by
  unfold goneL
  rw [List.length_map]
  exact Nat.le_trans (List.length_filter_le _ _) (by simp; omega)

set_option maxHeartbeats 1600000 in
theorem c_lease_Tick {A : Nat → Prop} (v : Value) (l : List Pin) (w : World) (hl : slRep RPin A w v l) (hm0 : l.length ≤ 4294967296) :
    Calls Try.prog 12 #[v] w fun e w' => ∃ v1 v2, e = .returned (.tuple #[v1, v2]) ∧ Ow RPin NoA w.heap.size 43 w' v1 (tickL l) ∧ Ow RI NoA w.heap.size 3 w' v2 (goneL l) ∧ Below w.heap.size w w' := by
  obtain ⟨ao, b, off, cap, rfl, hc, hm, hb, hx⟩ := open_Pins hl
  unfold maxLen at hm
  go_enter Try.func12, Try.ntmps12
  go_wp2
  go_loopw [4, 5, 10] (fun v1 v2 i wr => ∃ k : Nat, k ≤ l.length ∧ i = .int .i64 k ∧ Ow RPin NoA w.heap.size 43 wr v1 (tickL (l.take k)) ∧ Ow RI NoA w.heap.size 3 wr v2 (goneL (l.take k)) ∧ Below w.heap.size w wr) (fun _ _ i _ => l.length - (intOf i).toNat)
  case atStart => exact ⟨0, by omega, rfl, Ow.nil _ _ _ _ _ _, Ow.nil _ _ _ _ _ _, Below.refl _ _⟩
  case round =>
    obtain ⟨k, hk, rfl, ho1, ho2, hbl⟩ := hrel
    by_cases hlt : k < l.length
    · obtain ⟨rfl, hblt⟩ := hb (by omega)
      obtain ⟨⟨h0, h1, h2⟩, hok⟩ := hx k hlt
      have hbc := bcell hbl
      have hbs := hbl.size
      have Hbl := Lib.hid hbl
      obtain ⟨⟨i1, i2⟩, hat, j1, j2⟩ := id hok
      have hlen1 := tick_len l k
      have hlen2 := gone_len l k
      have Ho1 : Hid (∀ o o', Ow RPin NoA w.heap.size 43 ((wr.alloc o).alloc o') _ (tickL (l.take k))) := Lib.hid fun o o' => (ho1.below ((Below.refl _ _).alloc (Nat.le_refl _) o)).below ((Below.refl _ _).alloc (Nat.le_refl _) o')
      have Ho2 : Hid (∀ o o', Ow RI NoA w.heap.size 3 ((wr.alloc o).alloc o') _ (goneL (l.take k))) := Lib.hid fun o o' => (ho2.below ((Below.refl _ _).alloc (Nat.le_refl _) o)).below ((Below.refl _ _).alloc (Nat.le_refl _) o')
      have Hbase : Hid (∀ o o', w.heap.size ≤ ((wr.alloc o).alloc o').heap.size) := Lib.hid fun o o' => by simp; omega
      have Hb2 : Hid (∀ o o', Below w.heap.size w ((wr.alloc o).alloc o')) := Lib.hid fun o o' => (hbl.alloc hbl.size o).alloc (by simp; omega) o'
      clear ho1 ho2 hbl
      by_cases hleft : 1 < l[k].left
      · have Ht := Lib.hid (tick_out hlt hleft)
        have d2 : (tickL (l.take k)).length + [({ l[k] with left := l[k].left - 1 } : Pin)].length ≤ maxLen := by simp only [List.length_cons, List.length_nil, maxLen]; omega
        have d3 : ((tickL (l.take k)).length + [({ l[k] with left := l[k].left - 1 } : Pin)].length) * 24 ≤ 140737488355328 := by simp only [List.length_cons, List.length_nil]; omega
        have Hsrc : Hid (∀ o, slRep RPin AnyA ((wr.alloc o).alloc (.cells #[.int .i64 l[k].id, .int .u64 l[k].at_, .int .i64 (l[k].left - 1)] 43)) (.slice (some ⟨wr.heap.size + 1, 0, none⟩) 1 1) [({ l[k] with left := l[k].left - 1 } : Pin)]) := Lib.hid fun o => by
          have := slRep.made1 (R := RPin) (A := AnyA) (w := wr.alloc o) (e := 43) (x := ({ l[k] with left := l[k].left - 1 } : Pin)) trivial ⟨rfl, hok.1, hok.2.1, by constructor <;> (simp only; omega)⟩
          simpa using this
        go_wp2_with (at_builtin; go_must (refine wpList_app rfl _ _ _ rfl RPin NoA w.heap.size E_Pin rfl _ _ (tickL (l.take k)) [({ l[k] with left := l[k].left - 1 } : Pin)] rfl rfl (Ho1.out _ _) AnyA (Hsrc.out _) RPin.isFlat.off d2 d3 (Hbase.out _ _) ?_))
        rintro v' w1 hown hbel hfr
        have ho2' := (Ho2.out _ _).other RI.isFlat hfr.typ (by decide)
        have hbl' := (Hb2.out _ _).trans hbel
        clear hfr hbel
        go_wp2
        go_roundw
        case rel => exact ⟨k + 1, by omega, by go_num, by rw [Ht.out.1]; exact hown, by rw [Ht.out.2]; exact ho2', hbl'⟩
        case measure => simp [intOf]; omega
      · have Ht := Lib.hid (tick_gone hlt hleft)
        have d2 : (goneL (l.take k)).length + [l[k].id].length ≤ maxLen := by simp only [List.length_cons, List.length_nil, maxLen]; omega
        have d3 : ((goneL (l.take k)).length + [l[k].id].length) * 8 ≤ 140737488355328 := by simp only [List.length_cons, List.length_nil]; omega
        have Hsrc : Hid (∀ o, slRep RI AnyA ((wr.alloc o).alloc (.cells #[.int .i64 l[k].id] 3)) (.slice (some ⟨wr.heap.size + 1, 0, none⟩) 1 1) [l[k].id]) := Lib.hid fun o => by
          have := slRep.made1 (R := RI) (A := AnyA) (w := wr.alloc o) (e := 3) (x := l[k].id) trivial ⟨rfl, hok.1⟩
          simpa using this
        go_wp2_with (at_builtin; go_must (refine wpList_app rfl _ _ _ rfl RI NoA w.heap.size E_int rfl _ _ (goneL (l.take k)) [l[k].id] rfl rfl (Ho2.out _ _) AnyA (Hsrc.out _) RI.isFlat.off d2 d3 (Hbase.out _ _) ?_))
        rintro v' w1 hown hbel hfr
        have ho1' := (Ho1.out _ _).other RPin.isFlat hfr.typ (by decide)
        have hbl' := (Hb2.out _ _).trans hbel
        clear hfr hbel
        go_wp2
        go_roundw
        case rel => exact ⟨k + 1, by omega, by go_num, by rw [Ht.out.1]; exact ho1', by rw [Ht.out.2]; exact hown, hbl'⟩
        case measure => simp [intOf]; omega
    · obtain rfl : k = l.length := by omega
      rw [List.take_length] at ho1 ho2
      go_wp2
      go_ret2
      exact ⟨_, _, rfl, ho1, ho2, hbl⟩

set_option maxHeartbeats 1600000 in
theorem c_ref_Tick {A : Nat → Prop} (v : Value) (l : List Pin) (w : World) (hl : slRep RPin A w v l) (hm0 : l.length ≤ 4294967296) :
    Calls Try.prog 13 #[v] w fun e w' => ∃ v1 v2, e = .returned (.tuple #[v1, v2]) ∧ Ow RPin NoA w.heap.size 43 w' v1 (tickL l) ∧ Ow RI NoA w.heap.size 3 w' v2 (goneL l) ∧ Below w.heap.size w w' := by
  obtain ⟨ao, b, off, cap, rfl, hc, hm, hb, hx⟩ := open_Pins hl
  unfold maxLen at hm
  go_enter Try.func13, Try.ntmps13
  go_wp2
  go_loopw [4, 5, 6] (fun v1 v2 i wr => ∃ k : Nat, k ≤ l.length ∧ i = .int .i64 k ∧ Ow RPin NoA w.heap.size 43 wr v1 (tickL (l.take k)) ∧ Ow RI NoA w.heap.size 3 wr v2 (goneL (l.take k)) ∧ Below w.heap.size w wr) (fun _ _ i _ => l.length - (intOf i).toNat)
  case atStart => exact ⟨0, by omega, rfl, Ow.nil _ _ _ _ _ _, Ow.nil _ _ _ _ _ _, Below.refl _ _⟩
  case round =>
    obtain ⟨k, hk, rfl, ho1, ho2, hbl⟩ := hrel
    by_cases hlt : k < l.length
    · obtain ⟨rfl, hblt⟩ := hb (by omega)
      obtain ⟨⟨h0, h1, h2⟩, hok⟩ := hx k hlt
      have hbc := bcell hbl
      have hbs := hbl.size
      have Hbl := Lib.hid hbl
      obtain ⟨⟨i1, i2⟩, hat, j1, j2⟩ := id hok
      have hlen1 := tick_len l k
      have hlen2 := gone_len l k
      have Ho1 : Hid (∀ o o', Ow RPin NoA w.heap.size 43 ((wr.alloc o).alloc o') _ (tickL (l.take k))) := Lib.hid fun o o' => (ho1.below ((Below.refl _ _).alloc (Nat.le_refl _) o)).below ((Below.refl _ _).alloc (Nat.le_refl _) o')
      have Ho2 : Hid (∀ o o', Ow RI NoA w.heap.size 3 ((wr.alloc o).alloc o') _ (goneL (l.take k))) := Lib.hid fun o o' => (ho2.below ((Below.refl _ _).alloc (Nat.le_refl _) o)).below ((Below.refl _ _).alloc (Nat.le_refl _) o')
      have Hbase : Hid (∀ o o', w.heap.size ≤ ((wr.alloc o).alloc o').heap.size) := Lib.hid fun o o' => by simp; omega
      have Hb2 : Hid (∀ o o', Below w.heap.size w ((wr.alloc o).alloc o')) := Lib.hid fun o o' => (hbl.alloc hbl.size o).alloc (by simp; omega) o'
      clear ho1 ho2 hbl
      by_cases hleft : 1 < l[k].left
      · have Ht := Lib.hid (tick_out hlt hleft)
        have d2 : (tickL (l.take k)).length + [({ l[k] with left := l[k].left - 1 } : Pin)].length ≤ maxLen := by simp only [List.length_cons, List.length_nil, maxLen]; omega
        have d3 : ((tickL (l.take k)).length + [({ l[k] with left := l[k].left - 1 } : Pin)].length) * 24 ≤ 140737488355328 := by simp only [List.length_cons, List.length_nil]; omega
        have Hsrc : Hid (∀ o, slRep RPin AnyA ((wr.alloc o).alloc (.cells #[.int .i64 l[k].id, .int .u64 l[k].at_, .int .i64 (l[k].left - 1)] 43)) (.slice (some ⟨wr.heap.size + 1, 0, none⟩) 1 1) [({ l[k] with left := l[k].left - 1 } : Pin)]) := Lib.hid fun o => by
          have := slRep.made1 (R := RPin) (A := AnyA) (w := wr.alloc o) (e := 43) (x := ({ l[k] with left := l[k].left - 1 } : Pin)) trivial ⟨rfl, hok.1, hok.2.1, by constructor <;> (simp only; omega)⟩
          simpa using this
        go_wp2_with (at_builtin; go_must (refine wpList_app rfl _ _ _ rfl RPin NoA w.heap.size E_Pin rfl _ _ (tickL (l.take k)) [({ l[k] with left := l[k].left - 1 } : Pin)] rfl rfl (Ho1.out _ _) AnyA (Hsrc.out _) RPin.isFlat.off d2 d3 (Hbase.out _ _) ?_))
        rintro v' w1 hown hbel hfr
        have ho2' := (Ho2.out _ _).other RI.isFlat hfr.typ (by decide)
        have hbl' := (Hb2.out _ _).trans hbel
        clear hfr hbel
        go_wp2
        go_roundw
        case rel => exact ⟨k + 1, by omega, by go_num, by rw [Ht.out.1]; exact hown, by rw [Ht.out.2]; exact ho2', hbl'⟩
        case measure => simp [intOf]; omega
      · have Ht := Lib.hid (tick_gone hlt hleft)
        have d2 : (goneL (l.take k)).length + [l[k].id].length ≤ maxLen := by simp only [List.length_cons, List.length_nil, maxLen]; omega
        have d3 : ((goneL (l.take k)).length + [l[k].id].length) * 8 ≤ 140737488355328 := by simp only [List.length_cons, List.length_nil]; omega
        have Hsrc : Hid (∀ o, slRep RI AnyA ((wr.alloc o).alloc (.cells #[.int .i64 l[k].id] 3)) (.slice (some ⟨wr.heap.size + 1, 0, none⟩) 1 1) [l[k].id]) := Lib.hid fun o => by
          have := slRep.made1 (R := RI) (A := AnyA) (w := wr.alloc o) (e := 3) (x := l[k].id) trivial ⟨rfl, hok.1⟩
          simpa using this
        go_wp2_with (at_builtin; go_must (refine wpList_app rfl _ _ _ rfl RI NoA w.heap.size E_int rfl _ _ (goneL (l.take k)) [l[k].id] rfl rfl (Ho2.out _ _) AnyA (Hsrc.out _) RI.isFlat.off d2 d3 (Hbase.out _ _) ?_))
        rintro v' w1 hown hbel hfr
        have ho1' := (Ho1.out _ _).other RPin.isFlat hfr.typ (by decide)
        have hbl' := (Hb2.out _ _).trans hbel
        clear hfr hbel
        go_wp2
        go_roundw
        case rel => exact ⟨k + 1, by omega, by go_num, by rw [Ht.out.1]; exact ho1', by rw [Ht.out.2]; exact hown, hbl'⟩
        case measure => simp [intOf]; omega
    · obtain rfl : k = l.length := by omega
      rw [List.take_length] at ho1 ho2
      go_wp2
      go_ret2
      exact ⟨_, _, rfl, ho1, ho2, hbl⟩

end Go.Proofs.Ytabebdompkkhlaa
