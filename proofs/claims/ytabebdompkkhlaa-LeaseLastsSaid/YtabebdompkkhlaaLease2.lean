/- The walks of 'lease' and 'catenaref25': find, Min, Tick. -/
import Derived.Test.YtabebdompkkhlaaLease1
namespace Go.Proofs.Ytabebdompkkhlaa
open Go.RowKit

theorem c_whose (id : Int) (w : World) : Calls Try.prog 22 #[.int .i64 id] w fun e w' => e = .returned (.func (.func 26) #[] #[.pointer (some ⟨w.heap.size, 0, none⟩)]) ∧ w' = w.alloc (.cells #[.int .i64 id] 3) := by
  have hmf : ∀ (fn : Fn) (first cap : Array Value) (w : World), (Instr.makeFunc fn first cap).run Try.prog w = .ok (.func fn first cap) w := fun _ _ _ _ => rfl
  go_enter Try.func22, Try.ntmps22
  go_wp2
  go_ret
  exact ⟨rfl, rfl⟩

theorem c_whose1 (p : Pin) (id : Int) (a : Addr) (w : World) (ha : w.cell? a = some (.int .i64 id)) : Calls Try.prog 26 #[.agg #[.int .i64 p.id, .int .u64 p.at_, .int .i64 p.left], .pointer (some a)] w fun e w' => e = .returned (.bool (p.id == id)) ∧ Below w.heap.size w w' := by
  have hb := World.block_lt_of_cell? w a ha
  obtain ⟨b, o, s⟩ := a
  have hs : s = none := by simpa using World.cell?_spot ha
  subst hs
  go_enter Try.func26, Try.ntmps26
  go_wp2
  go_ret
  exact ⟨rfl, (Below.refl _ _).alloc (Nat.le_refl _) _⟩

set_option maxHeartbeats 400000 in
theorem c_IndexFunc {A : Nat → Prop} (v : Value) (l : List Pin) (id : Int) (a : Addr) (w : World) (hl : slRep RPin A w v l) (ha : w.cell? a = some (.int .i64 id)) :
    Calls Try.prog 25 #[v, .func (.func 26) #[] #[.pointer (some a)]] w fun e w' => e = .returned (.int .i64 (findI l id)) ∧ Below w.heap.size w w' := by
  have hab := World.block_lt_of_cell? w a ha
  obtain ⟨ao, b, off, cap, rfl, hc, hm, hb, hx⟩ := open_Pins hl
  unfold maxLen at hm
  go_enter Try.func25, Try.ntmps25
  go_wp2
  go_loopw [8] (fun i wr => ∃ k : Nat, k ≤ l.length ∧ i = .int .i64 k ∧ findN l id = k + findN (l.drop k) id ∧ Below w.heap.size w wr) (fun i _ => l.length - (intOf i).toNat)
  case atStart => exact ⟨0, by omega, rfl, by simp, Below.refl _ _⟩
  case round =>
    obtain ⟨k, hk, rfl, hr, hbl⟩ := hrel
    have Hr := Lib.hid hr
    clear hr
    by_cases hlt : k < l.length
    · obtain ⟨rfl, hblt⟩ := hb (by omega)
      obtain ⟨⟨h0, h1, h2⟩, _⟩ := hx k hlt
      have hbc := bcell hbl
      have hstep := Lib.hid (find_step l id k hlt)
      have hca := c_whose1 l[k] id a wr ((hbl.cell hab).trans ha)
      cases hd : (l[k].id == id) with
      | true =>
        rw [hd] at hca
        have Hca := Lib.hid hca
        have Hd := Lib.hid hd
        clear hca hd
        go_wp2_with fail
        refine Hca.out.mono ?_
        rintro e w1 ⟨rfl, b1⟩
        go_wp2
        go_ret
        have hf : findN l id = k := by rw [Hr.out, hstep.out, if_pos Hd.out]; rfl
        exact ⟨ret_int (a := (k : Int)) (by rw [findI, hf, if_pos hlt]), hbl.trans (b1.mono hbl.size)⟩
      | false =>
        rw [hd] at hca
        have Hca := Lib.hid hca
        have Hd := Lib.hid hd
        clear hca hd
        go_wp2_with fail
        refine Hca.out.mono ?_
        rintro e w1 ⟨rfl, b1⟩
        go_wp2
        go_roundw
        case rel => exact ⟨k + 1, by omega, by go_num, by rw [Hr.out, hstep.out, if_neg (by rw [Hd.out]; exact Bool.false_ne_true)]; omega, hbl.trans (b1.mono hbl.size)⟩
        case measure => simp [intOf]; omega
    · obtain rfl : k = l.length := by omega
      go_wp2
      go_ret
      have hf : findN l id = l.length := by rw [Hr.out, List.drop_length]; rfl
      exact ⟨ret_int (a := -1) (by rw [findI, hf, if_neg (Nat.lt_irrefl _)]), hbl⟩

set_option maxHeartbeats 400000 in
theorem c_find {A : Nat → Prop} (v : Value) (l : List Pin) (id : Int) (a : Addr) (w : World) (hl : slRep RPin A w v l) (ha : w.cell? a = some (.int .i64 id)) :
    Calls Try.prog 21 #[v, .func (.func 26) #[] #[.pointer (some a)]] w fun e w' => e = .returned (.tuple #[.int .i64 (findI l id), .bool (decide (0 ≤ findI l id))]) ∧ Below w.heap.size w w' := by
  go_enter Try.func21, Try.ntmps21
  go_wp2_with fail
  refine (c_IndexFunc _ l id a _ hl ha).mono ?_
  rintro e w1 ⟨rfl, b1⟩
  go_wp2
  go_ret2
  exact ⟨rfl, b1⟩

set_option maxHeartbeats 400000 in
theorem c_ref_find {A : Nat → Prop} (v : Value) (l : List Pin) (id : Int) (w : World) (hl : slRep RPin A w v l) :
    Calls Try.prog 23 #[v, .int .i64 id] w fun e w' => e = .returned (.int .i64 (findI l id)) ∧ w = w' := by
  obtain ⟨ao, b, off, cap, rfl, hc, hm, hb, hx⟩ := open_Pins hl
  unfold maxLen at hm
  go_enter Try.func23, Try.ntmps23
  go_wp2
  go_loop [5] (fun i => ∃ k : Nat, k ≤ l.length ∧ i = .int .i64 k ∧ findN l id = k + findN (l.drop k) id) (fun i => l.length - (intOf i).toNat)
  case atStart => exact ⟨0, by omega, rfl, by simp⟩
  case round =>
    obtain ⟨k, hk, rfl, hr⟩ := hrel
    have Hr := Lib.hid hr
    clear hr
    by_cases hlt : k < l.length
    · obtain ⟨rfl, hblt⟩ := hb (by omega)
      obtain ⟨⟨h0, h1, h2⟩, _⟩ := hx k hlt
      have hstep := Lib.hid (find_step l id k hlt)
      cases hd : (l[k].id == id) with
      | true =>
        have Hd := Lib.hid hd
        go_wp2
        go_ret
        have hf : findN l id = k := by rw [Hr.out, hstep.out, if_pos Hd.out]; rfl
        exact ⟨ret_int (a := (k : Int)) (by rw [findI, hf, if_pos hlt]), rfl⟩
      | false =>
        have Hd := Lib.hid hd
        go_wp2
        go_round
        case rel => exact ⟨k + 1, by omega, by go_num, by rw [Hr.out, hstep.out, if_neg (by rw [Hd.out]; exact Bool.false_ne_true)]; omega⟩
        case measure => simp [intOf]; omega
    · obtain rfl : k = l.length := by omega
      go_wp2
      go_ret
      have hf : findN l id = l.length := by rw [Hr.out, List.drop_length]; rfl
      exact ⟨ret_int (a := -1) (by rw [findI, hf, if_neg (Nat.lt_irrefl _)]), rfl⟩

/-- the least time so far -/
def minTo (l : List Pin) (k : Nat) : Nat := match l with | [] => 0 | p :: _ => (l.take k).foldl (fun n q => min n q.at_) p.at_
theorem minTo_all (l : List Pin) : minTo l l.length = minL l := by unfold minTo minL; cases l <;> simp
theorem minTo_zero (l : List Pin) (h : 0 < l.length) : minTo l 0 = l[0].at_ := by cases l with | nil => simp at h | cons p l => simp [minTo]
theorem minTo_step (l : List Pin) (k : Nat) (h : k < l.length) : minTo l (k + 1) = min (minTo l k) l[k].at_ := by
  cases l with
  | nil => simp at h
  | cons p l => simp only [minTo, List.take_succ_eq_append_getElem h, List.foldl_append, List.foldl_cons, List.foldl_nil]
theorem minTo_one (l : List Pin) (h : 0 < l.length) : minTo l 1 = l[0].at_ := by rw [minTo_step l 0 h, minTo_zero l h, Nat.min_self]

set_option maxHeartbeats 400000 in
theorem c_lease_Min {A : Nat → Prop} (v : Value) (l : List Pin) (w : World) (hl : slRep RPin A w v l) :
    Calls Try.prog 14 #[v] w fun e w' => e = .returned (.tuple #[.int .u64 (minL l), .bool (decide (0 < l.length))]) ∧ Below w.heap.size w w' := by
  obtain ⟨ao, b, off, cap, rfl, hc, hm, hb, hx⟩ := open_Pins hl
  unfold maxLen at hm
  by_cases hz : l.length = 0
  · have hl0 : l = [] := List.eq_nil_of_length_eq_zero hz
    subst hl0
    simp only [List.length_nil]
    go_enter Try.func14, Try.ntmps14
    go_wp2
    go_ret2
    exact ⟨rfl, Below.refl _ _⟩
  · obtain ⟨rfl, hblt⟩ := hb (by omega)
    obtain ⟨⟨h0, h1, h2⟩, _⟩ := hx 0 (by omega)
    have hzb : ((l.length : Int) == 0) = false := beq_eq_false_iff_ne.2 (by omega)
    have hpos : 0 < l.length := by omega
    have hf0 := Lib.hid (minTo_zero l hpos)
    have hres : decide (0 < l.length) = true := by simpa using hpos
    simp only [Nat.zero_mul, Nat.add_zero] at h0 h1 h2
    rw [hres]
    go_enter Try.func14, Try.ntmps14
    go_wp2
    go_loopw [4, 16] (fun n i wr => ∃ k : Nat, k ≤ l.length ∧ i = .int .i64 k ∧ n = .int .u64 (minTo l k) ∧ Below w.heap.size w wr) (fun _ i _ => l.length - (intOf i).toNat)
    case atStart => exact ⟨0, by omega, rfl, by rw [hf0.out], Below.refl _ _⟩
    case round =>
      obtain ⟨k, hk, rfl, rfl, hbl⟩ := hrel
      by_cases hlt : k < l.length
      · obtain ⟨⟨h0, h1, h2⟩, _⟩ := hx k hlt
        have hbc := bcell hbl
        have hstep := Lib.hid (minTo_step l k hlt)
        rcases Nat.lt_or_ge l[k].at_ (minTo l k) with hc1 | hc1
        · go_wp2
          go_roundw
          case rel => exact ⟨k + 1, by omega, by go_num, by rw [hstep.out, Nat.min_eq_right (by omega)], hbl.alloc hbl.size _⟩
          case measure => simp [intOf]; omega
        · go_wp2
          go_roundw
          case rel => exact ⟨k + 1, by omega, by go_num, by rw [hstep.out, Nat.min_eq_left (by omega)], hbl.alloc hbl.size _⟩
          case measure => simp [intOf]; omega
      · obtain rfl : k = l.length := by omega
        go_wp2
        go_ret2
        exact ⟨by rw [← minTo_all]; rfl, hbl⟩

theorem minTo_one' (l : List Pin) (h : 0 < l.length) : minTo l (0 + 1) = l[0].at_ := minTo_one l h

set_option maxHeartbeats 800000 in
theorem c_ref_Min {A : Nat → Prop} (v : Value) (l : List Pin) (w : World) (hl : slRep RPin A w v l) :
    Calls Try.prog 15 #[v] w fun e w' => e = .returned (.tuple #[.int .u64 (minL l), .bool (decide (0 < l.length))]) ∧ w = w' := by
  obtain ⟨ao, b, off, cap, rfl, hc, hm, hb, hx⟩ := open_Pins hl
  unfold maxLen at hm
  go_enter Try.func15, Try.ntmps15
  go_wp2
  go_loop [4, 5] (fun n i => ∃ k : Nat, k ≤ l.length ∧ i = .int .i64 k ∧ n = .int .u64 ((if k = 0 then 0 else minTo l k : Nat) : Int)) (fun _ i => l.length - (intOf i).toNat)
  case atStart => exact ⟨0, by omega, rfl, rfl⟩
  case round =>
    obtain ⟨k, hk, rfl, rfl⟩ := hrel
    by_cases hlt : k < l.length
    · obtain ⟨rfl, hblt⟩ := hb (by omega)
      obtain ⟨⟨h0, h1, h2⟩, _⟩ := hx k hlt
      have hstep := Lib.hid (minTo_step l k hlt)
      by_cases hk0 : k = 0
      · subst hk0
        have hone := Lib.hid (minTo_one' l hlt)
        simp only [Nat.zero_mul, Nat.add_zero, if_true] at h0 h1 h2 ⊢
        go_wp2
        go_round
        case rel => exact ⟨0 + 1, by omega, by go_num, by rw [if_neg (by omega), hone.out]⟩
        case measure => simp [intOf]; omega
      · have hkb : ((k : Int) == 0) = false := beq_eq_false_iff_ne.2 (by omega)
        rw [if_neg hk0]
        have Hk := Lib.hid hk0
        clear hk0
        rcases Nat.lt_or_ge l[k].at_ (minTo l k) with hc1 | hc1
        · go_wp2
          go_round
          case rel => exact ⟨k + 1, by omega, by go_num, by rw [if_neg (by omega), hstep.out, Nat.min_eq_right (by omega)]⟩
          case measure => simp [intOf]; omega
        · go_wp2
          go_round
          case rel => exact ⟨k + 1, by omega, by go_num, by rw [if_neg (by omega), hstep.out, Nat.min_eq_left (by omega)]⟩
          case measure => simp [intOf]; omega
    · obtain rfl : k = l.length := by omega
      have hfin : (if l.length = 0 then 0 else minTo l l.length) = minL l := by
        rw [minTo_all]
        split
        · rename_i h; rw [List.eq_nil_of_length_eq_zero h]; rfl
        · rfl
      rw [hfin]
      clear hfin
      go_wp2
      go_ret2
      exact ⟨rfl, rfl⟩

end Go.Proofs.Ytabebdompkkhlaa
