/- The walks of 'vers' and 'catenaref14': Put, Same, awake. -/
import Derived.Test.YtnebjcdhbjahoaaVers2
namespace Go.Proofs.Ytnebjcdhbjahoaa
open Go.RowKit

set_option maxHeartbeats 800000 in
theorem c_ref_Same {A A' : Nat → Prop} (v v' : Value) (l : List Cell) (w : World) (hl : slRep RCell A w v l) (hl' : slRep RCell A' w v' l) :
    Calls Try.prog 13 #[v, v'] w fun e w' => e = .returned (.bool true) ∧ Below w.heap.size w w' := by
  obtain ⟨ao, b, off, cap, rfl, hc, hm, hb, hx⟩ := open_cells hl
  obtain ⟨ao', b', off', cap', rfl, hc', hm', hb', hx'⟩ := open_cells hl'
  unfold maxLen at hm hm'
  have hne : ((l.length : Int) != (l.length : Int)) = false := by simp
  go_enter Try.func13, Try.ntmps13
  go_wp2
  go_loopw [5] (fun i wr => ∃ k : Nat, k ≤ l.length ∧ i = .int .i64 k ∧ Below w.heap.size w wr) (fun i _ => l.length - (intOf i).toNat)
  case atStart => exact ⟨0, by omega, rfl, Below.refl _ _⟩
  case round =>
    obtain ⟨k, hk, rfl, hbl⟩ := hrel
    by_cases hlt : k < l.length
    · obtain ⟨rfl, hblt⟩ := hb (by omega)
      obtain ⟨rfl, hblt'⟩ := hb' (by omega)
      obtain ⟨⟨h0, h1, h2⟩, _, _⟩ := hx k hlt
      obtain ⟨⟨g0, g1, g2⟩, _, _⟩ := hx' k hlt
      have hbc := bcell hbl
      have hk0 : (0 : Int) ≤ (k : Int) := by omega
      have hk1 : (k : Int) < (l.length : Int) := by omega
      go_wp2_with fail
      go_quiet (fail)
      go_wp2
      go_roundw
      case rel => exact ⟨k + 1, by omega, by go_num, below_drewN hbl _⟩
      case measure => simp [intOf]; omega
    · obtain rfl : k = l.length := by omega
      go_wp2
      go_ret
      exact ⟨rfl, hbl⟩

set_option maxHeartbeats 800000 in
theorem c_vers_Put {A : Nat → Prop} (v : Value) (l : List Cell) (c : Cell) (w : World) (hl : slRep RCell A w v l) (hc : c.ts < 18446744073709551616 ∧ c.val.size ≤ maxLen) (hm0 : l.length ≤ 4294967296) :
    Calls Try.prog 7 #[v, .agg #[.int .u64 c.ts, .string c.val, .bool c.del]] w fun e w' => ∃ v', e = .returned (.tuple #[v', .int .i64 (putL l c).2]) ∧ slRep RCell (fun k => w.heap.size ≤ k) w' v' (putL l c).1 ∧ Below w.heap.size w w' := by
  have hl0 := hl
  obtain ⟨ao, b, off, cap, rfl, hcc, hm, hb, hx⟩ := open_cells hl
  unfold maxLen at hm
  by_cases hz : c.ts = 0
  · have hzb : ((c.ts : Int) == 0) = true := by simp [hz]
    have hp : putL l c = ([], 5) := by unfold putL; rw [if_pos hz]
    rw [hp]
    clear hp hz
    go_enter Try.func7, Try.ntmps7
    go_wp2
    go_ret2
    exact ⟨_, rfl, slRep.nil _ _ _ _ _ (by decide), (Below.refl _ _).alloc (Nat.le_refl _) _⟩
  · have hzb : ((c.ts : Int) == 0) = false := by simp; omega
    by_cases hbad : 0 < l.length ∧ c.ts ≤ aheadL l l.length
    · have hp : putL l c = ([], 18) := by unfold putL; rw [if_neg hz, if_pos hbad]
      rw [hp]
      clear hp hz
      obtain ⟨hpos, hle⟩ := hbad
      obtain ⟨rfl, hblt⟩ := hb hpos
      obtain ⟨⟨h0, _, _⟩, _, _⟩ := hx (l.length - 1) (by omega)
      have ha : aheadL l l.length = (l[l.length - 1]'(by omega)).ts := by
        obtain ⟨m, hm⟩ : ∃ m, l.length = m + 1 := ⟨l.length - 1, by omega⟩
        simp [aheadL, hm]
      have htb : c.ts ≤ (l[l.length - 1]'(by omega)).ts := by rw [← ha]; exact hle
      clear ha hle
      have hposb : decide (0 < l.length) = true := by simpa using hpos
      have hdec : decide (c.ts ≤ (l[l.length - 1]'(by omega)).ts) = true := by simpa using htb
      have hl1 : (0 : Int) ≤ (l.length : Int) - 1 := by omega
      have hl2 : (l.length : Int) - 1 < (l.length : Int) := by omega
      go_enter Try.func7, Try.ntmps7
      go_wp2
      go_quiet (fail)
      go_wp2
      go_ret2
      exact ⟨_, rfl, slRep.nil _ _ _ _ _ (by decide), below_drewN ((Below.refl _ _).alloc (Nat.le_refl _) _) _⟩
    · have hp : putL l c = (l ++ [c], 0) := by unfold putL; rw [if_neg hz, if_neg hbad]
      rw [hp]
      clear hp hz
      have hW : Hid (∀ nq, Below w.heap.size w ((w.alloc (.cells #[.int .u64 c.ts, .string c.val, .bool c.del] 25)).drewN nq)) := Lib.hid fun nq => below_drewN ((Below.refl _ _).alloc (Nat.le_refl _) _) _
      have hbox : Hid (∀ nq j, ((w.alloc (.cells #[.int .u64 c.ts, .string c.val, .bool c.del] 25)).drewN nq).cell? ⟨w.heap.size, j, none⟩ = (#[.int .u64 c.ts, .string c.val, .bool c.del] : Array Value)[j]?) := Lib.hid fun nq j => World.cell?_alloc_at _ _ _ _ rfl
      have hsz0 : Hid (∀ nq, w.heap.size + 1 ≤ ((w.alloc (.cells #[.int .u64 c.ts, .string c.val, .bool c.del] 25)).drewN nq).heap.size) := Lib.hid fun nq => by simp
      have c2 : l.length + [c].length ≤ maxLen := by simp only [List.length_cons, List.length_nil, maxLen]; omega
      have c3 : (l.length + [c].length) * 32 ≤ 140737488355328 := by simp only [List.length_cons, List.length_nil]; omega
      go_enter Try.func7, Try.ntmps7
      go_upto_region 3 with fail
      go_cut [10] (fun s wx => s = .bool false ∧ ∃ nq, wx = (w.alloc (.cells #[.int .u64 c.ts, .string c.val, .bool c.del] 25)).drewN nq)
      case first =>
        by_cases hpos : 0 < l.length
        · obtain ⟨rfl, hblt⟩ := hb hpos
          obtain ⟨⟨h0, _, _⟩, _, _⟩ := hx (l.length - 1) (by omega)
          have ha : aheadL l l.length = (l[l.length - 1]'(by omega)).ts := by
            obtain ⟨m, hm⟩ : ∃ m, l.length = m + 1 := ⟨l.length - 1, by omega⟩
            simp [aheadL, hm]
          have htb : ¬ c.ts ≤ (l[l.length - 1]'(by omega)).ts := fun h => hbad ⟨hpos, ha ▸ h⟩
          clear ha
          have hposb : decide (0 < l.length) = true := by simpa using hpos
          have hdec : decide (c.ts ≤ (l[l.length - 1]'(by omega)).ts) = false := by simpa using htb
          have hl1 : (0 : Int) ≤ (l.length : Int) - 1 := by omega
          have hl2 : (l.length : Int) - 1 < (l.length : Int) := by omega
          go_quiet (fail)
          go_wp2_with fail
          go_meet
          exact ⟨rfl, _, rfl⟩
        · have hposb : decide (0 < l.length) = false := by simpa using hpos
          go_quiet (fail)
          go_wp2_with fail
          go_meet
          exact ⟨rfl, _, rfl⟩
      case rest =>
        obtain ⟨rfl, nq, rfl⟩ := hcut
        go_wp2
        have hW := hW.out nq
        have hbox := Lib.hid (hbox.out nq)
        have hsz := hsz0.out nq
        generalize ((w.alloc (.cells #[.int .u64 c.ts, .string c.val, .bool c.del] 25)).drewN nq) = wr at *
        have Hls : Hid (∀ w', GB (w.heap.size + 1) wr w' → slRep RCell A w' (.slice ao l.length cap) l) := Lib.hid fun w' hg => hl0.below (hW.trans ((hg hsz).mono (by omega)))
        clear hx hl hb
        refine wp_region_facts (by kernel_rfl) (by kernel_rfl) (by decide) (GB (w.heap.size + 1)) [4] [0, 2, 6] (by kernel_rfl) (fun j v x => match j with
          | 0 => v = .slice ao l.length cap
          | 1 => Ow RCell NoA (w.heap.size + 1) 25 x v l
          | 2 => v = .agg #[.int .u64 c.ts, .string c.val, .bool c.del]
          | 3 => slRep RCell (fun k => w.heap.size ≤ k) x v [c]
          | 4 => Ow RCell NoA (w.heap.size + 1) 25 x v (l ++ [c])
          | 5 => Ow RCell NoA (w.heap.size + 1) 25 x v (l ++ [c])
          | _ => v = .int .i64 0) (GB.of _) (GB.trans _) ?_ ?_ ?_ ?_
        · intro j hj v x y h
          simp only [List.mem_cons, List.not_mem_nil, or_false] at hj
          rcases hj with rfl | rfl | rfl <;> exact h
        · intro j v x y h hb
          match j, h with
          | 0, h => exact h
          | 1, h => exact Ow.below h hb
          | 2, h => exact h
          | 3, h => exact slRep.below h hb
          | 4, h => exact Ow.below h hb
          | 5, h => exact Ow.below h hb
          | _ + 6, h => exact h
        · simp only [owes]
          refine ⟨fun vals w' hg hf => ?_, fun vals w' hg hf => ?_, fun vals w' hg hf => ?_, fun vals w' hg hf => ?_, fun vals w' hg hf => ?_, fun vals w' hg hf => ?_, fun vals w' hg hf => ?_, trivial⟩
          · clear hf
            simp only [putAll]
            go_simp
            go_wp2
            exact OpPost.mk _ (by first | rfl | go_simp) (Below.refl _ _) rfl
          · have f0 := hf 0 (by decide)
            clear hf
            have hs' : w.heap.size + 1 ≤ w'.heap.size := Nat.le_trans hsz (hg hsz).size
            simp only [putAll]
            go_simp
            go_wp2_with fail
            refine (c_Clone_Cell _ l _ (Hls.out _ hg) (by omega)).mono ?_
            rintro e w2 ⟨v', rfl, ho, hb2⟩
            go_wp2
            exact OpPost.mk _ (by go_simp) hb2 ((ho.flat RCell.flat).mono (fun _ h => h) hs' (Keep.refl _ _) (Keep.refl _ _))
          · clear hf
            have hbc := bcellB (hg hsz)
            have hb0 := (hbc w.heap.size 0 (by omega)).trans (hbox.out 0)
            have hb1 := (hbc w.heap.size 1 (by omega)).trans (hbox.out 1)
            have hb2 := (hbc w.heap.size 2 (by omega)).trans (hbox.out 2)
            clear hbc
            simp at hb0 hb1 hb2
            simp only [putAll]
            go_simp
            go_wp2
            exact OpPost.mk _ rfl (Below.refl _ _) rfl
          · have f2 := hf 2 (by decide)
            clear hf
            have hs' : w.heap.size + 1 ≤ w'.heap.size := Nat.le_trans hsz (hg hsz).size
            simp only [putAll]
            go_simp
            go_wp2
            exact OpPost.mk _ (by go_simp) ((Below.refl _ _).alloc (Nat.le_refl _) _) (slRep.made1 (by omega) ⟨rfl, hc⟩)
          · have f1 := hf 1 (by decide)
            have f3 := hf 3 (by decide)
            clear hf
            have hs' : w.heap.size + 1 ≤ w'.heap.size := Nat.le_trans hsz (hg hsz).size
            simp only [putAll]
            go_simp
            refine wpList_app rfl _ _ _ rfl RCell NoA (w.heap.size + 1) E_Cell rfl _ _ l [c] rfl rfl f1 _ f3 RCell.flat.off c2 c3 hs' ?_
            intro v' w1 hown hbel hblk
            go_wp2
            exact OpPost.mk _ rfl (fun _ => hbel) hown
          · have f4 := hf 4 (by decide)
            clear hf
            simp only [putAll]
            go_simp
            go_wp2
            exact OpPost.mk _ (by first | rfl | go_simp) (Below.refl _ _) f4
          · clear hf
            simp only [putAll]
            go_simp
            go_wp2
            exact OpPost.mk _ (by first | rfl | go_simp) (Below.refl _ _) rfl
        · intro vals w' hg hf
          have f5 := hf 5 (by decide) (by kernel_rfl)
          have f6 := hf 6 (by decide) (by kernel_rfl)
          clear hf
          simp only [putAll]
          go_simp
          go_wp2
          go_ret2
          exact ⟨_, rfl, f5.slF RCell.flat (fun k hk => by omega), hW.trans ((hg hsz).mono (by omega))⟩

set_option maxHeartbeats 800000 in
theorem c_ref_Put {A : Nat → Prop} (v : Value) (l : List Cell) (c : Cell) (w : World) (hl : slRep RCell A w v l) (hc : c.ts < 18446744073709551616 ∧ c.val.size ≤ maxLen) (hm0 : l.length ≤ 4294967296) :
    Calls Try.prog 8 #[v, .agg #[.int .u64 c.ts, .string c.val, .bool c.del]] w fun e w' => ∃ v', e = .returned (.tuple #[v', .int .i64 (putL l c).2]) ∧ slRep RCell (fun k => w.heap.size ≤ k) w' v' (putL l c).1 ∧ Below w.heap.size w w' := by
  have hl0 := hl
  obtain ⟨ao, b, off, cap, rfl, hcc, hm, hb, hx⟩ := open_cells hl
  unfold maxLen at hm
  by_cases hz : c.ts = 0
  · have hzb : ((c.ts : Int) == 0) = true := by simp [hz]
    have hp : putL l c = ([], 5) := by unfold putL; rw [if_pos hz]
    rw [hp]
    clear hp hz
    go_enter Try.func8, Try.ntmps8
    go_wp2
    go_ret2
    exact ⟨_, rfl, slRep.nil _ _ _ _ _ (by decide), (Below.refl _ _).alloc (Nat.le_refl _) _⟩
  · have hzb : ((c.ts : Int) == 0) = false := by simp; omega
    by_cases hbad : 0 < l.length ∧ c.ts ≤ aheadL l l.length
    · have hp : putL l c = ([], 18) := by unfold putL; rw [if_neg hz, if_pos hbad]
      rw [hp]
      clear hp hz
      obtain ⟨hpos, hle⟩ := hbad
      obtain ⟨rfl, hblt⟩ := hb hpos
      obtain ⟨⟨h0, _, _⟩, _, _⟩ := hx (l.length - 1) (by omega)
      have ha : aheadL l l.length = (l[l.length - 1]'(by omega)).ts := by
        obtain ⟨m, hm⟩ : ∃ m, l.length = m + 1 := ⟨l.length - 1, by omega⟩
        simp [aheadL, hm]
      have htb : c.ts ≤ (l[l.length - 1]'(by omega)).ts := by rw [← ha]; exact hle
      clear ha hle
      have hposb : decide (0 < l.length) = true := by simpa using hpos
      have hdec : decide (c.ts ≤ (l[l.length - 1]'(by omega)).ts) = true := by simpa using htb
      have hl1 : (0 : Int) ≤ (l.length : Int) - 1 := by omega
      have hl2 : (l.length : Int) - 1 < (l.length : Int) := by omega
      go_enter Try.func8, Try.ntmps8
      go_wp2
      go_quiet (fail)
      go_wp2
      go_ret2
      exact ⟨_, rfl, slRep.nil _ _ _ _ _ (by decide), below_drewN ((Below.refl _ _).alloc (Nat.le_refl _) _) _⟩
    · have hp : putL l c = (l ++ [c], 0) := by unfold putL; rw [if_neg hz, if_neg hbad]
      rw [hp]
      clear hp hz
      have hW : Hid (∀ nq, Below w.heap.size w ((w.alloc (.cells #[.int .u64 c.ts, .string c.val, .bool c.del] 25)).drewN nq)) := Lib.hid fun nq => below_drewN ((Below.refl _ _).alloc (Nat.le_refl _) _) _
      have hbox : Hid (∀ nq j, ((w.alloc (.cells #[.int .u64 c.ts, .string c.val, .bool c.del] 25)).drewN nq).cell? ⟨w.heap.size, j, none⟩ = (#[.int .u64 c.ts, .string c.val, .bool c.del] : Array Value)[j]?) := Lib.hid fun nq j => World.cell?_alloc_at _ _ _ _ rfl
      have hsz0 : Hid (∀ nq, w.heap.size + 1 ≤ ((w.alloc (.cells #[.int .u64 c.ts, .string c.val, .bool c.del] 25)).drewN nq).heap.size) := Lib.hid fun nq => by simp
      have c2 : l.length + [c].length ≤ maxLen := by simp only [List.length_cons, List.length_nil, maxLen]; omega
      have c3 : (l.length + [c].length) * 32 ≤ 140737488355328 := by simp only [List.length_cons, List.length_nil]; omega
      go_enter Try.func8, Try.ntmps8
      go_upto_region 3 with fail
      go_cut [23] (fun s wx => s = .bool false ∧ ∃ nq, wx = (w.alloc (.cells #[.int .u64 c.ts, .string c.val, .bool c.del] 25)).drewN nq)
      case first =>
        by_cases hpos : 0 < l.length
        · obtain ⟨rfl, hblt⟩ := hb hpos
          obtain ⟨⟨h0, _, _⟩, _, _⟩ := hx (l.length - 1) (by omega)
          have ha : aheadL l l.length = (l[l.length - 1]'(by omega)).ts := by
            obtain ⟨m, hm⟩ : ∃ m, l.length = m + 1 := ⟨l.length - 1, by omega⟩
            simp [aheadL, hm]
          have htb : ¬ c.ts ≤ (l[l.length - 1]'(by omega)).ts := fun h => hbad ⟨hpos, ha ▸ h⟩
          clear ha
          have hposb : decide (0 < l.length) = true := by simpa using hpos
          have hdec : decide (c.ts ≤ (l[l.length - 1]'(by omega)).ts) = false := by simpa using htb
          have hl1 : (0 : Int) ≤ (l.length : Int) - 1 := by omega
          have hl2 : (l.length : Int) - 1 < (l.length : Int) := by omega
          go_quiet (fail)
          go_wp2_with fail
          go_meet
          exact ⟨rfl, _, rfl⟩
        · have hposb : decide (0 < l.length) = false := by simpa using hpos
          go_quiet (fail)
          go_wp2_with fail
          go_meet
          exact ⟨rfl, _, rfl⟩
      case rest =>
        obtain ⟨rfl, nq, rfl⟩ := hcut
        go_wp2
        have hW := hW.out nq
        have hbox := Lib.hid (hbox.out nq)
        have hsz := hsz0.out nq
        generalize ((w.alloc (.cells #[.int .u64 c.ts, .string c.val, .bool c.del] 25)).drewN nq) = wr at *
        have Hls : Hid (∀ w', GB (w.heap.size + 1) wr w' → slRep RCell A w' (.slice ao l.length cap) l) := Lib.hid fun w' hg => hl0.below (hW.trans ((hg hsz).mono (by omega)))
        clear hx hl hb
        refine wp_region_facts (by kernel_rfl) (by kernel_rfl) (by decide) (GB (w.heap.size + 1)) [5] [1, 3, 7] (by kernel_rfl) (fun j v x => match j with
          | 0 => ∃ g, v = .slice (some ⟨g, 0, none⟩) 0 0
          | 1 => v = .slice ao l.length cap
          | 2 => Ow RCell NoA (w.heap.size + 1) 25 x v l
          | 3 => v = .agg #[.int .u64 c.ts, .string c.val, .bool c.del]
          | 4 => slRep RCell (fun k => w.heap.size ≤ k) x v [c]
          | 5 => Ow RCell NoA (w.heap.size + 1) 25 x v (l ++ [c])
          | 6 => Ow RCell NoA (w.heap.size + 1) 25 x v (l ++ [c])
          | _ => v = .int .i64 0) (GB.of _) (GB.trans _) ?_ ?_ ?_ ?_
        · intro j hj v x y h
          simp only [List.mem_cons, List.not_mem_nil, or_false] at hj
          rcases hj with rfl | rfl | rfl <;> exact h
        · intro j v x y h hb
          match j, h with
          | 0, h => exact (by first | exact h | exact h.below hb | exact ⟨h.1, h.2.below hb⟩)
          | 1, h => exact h
          | 2, h => exact Ow.below h hb
          | 3, h => exact h
          | 4, h => exact slRep.below h hb
          | 5, h => exact Ow.below h hb
          | 6, h => exact Ow.below h hb
          | _ + 7, h => exact h
        · simp only [owes]
          refine ⟨fun vals w' hg hf => ?_, fun vals w' hg hf => ?_, fun vals w' hg hf => ?_, fun vals w' hg hf => ?_, fun vals w' hg hf => ?_, fun vals w' hg hf => ?_, fun vals w' hg hf => ?_, fun vals w' hg hf => ?_, trivial⟩
          · clear hf
            simp only [putAll]
            go_simp
            go_wp2
            exact OpPost.mk _ rfl ((Below.refl _ _).alloc (Nat.le_refl _) _) ⟨_, rfl⟩
          · clear hf
            simp only [putAll]
            go_simp
            go_wp2
            exact OpPost.mk _ (by first | rfl | go_simp) (Below.refl _ _) rfl
          · have f0 := hf 0 (by decide)
            have f1 := hf 1 (by decide)
            clear hf
            have hs' : w.heap.size + 1 ≤ w'.heap.size := Nat.le_trans hsz (hg hsz).size
            obtain ⟨g0, f0⟩ := f0
            have hnil : Ow RCell NoA w'.heap.size 25 w' (.slice (some ⟨g0, 0, none⟩) 0 0) [] := Ow.nil _ _ _ _ _ _
            have hsrc := Hls.out _ hg
            rw [← f0] at hnil
            rw [← f1] at hsrc
            have Hnil := Lib.hid hnil
            have Hsrc := Lib.hid hsrc
            have d2 : ([] : List Cell).length + l.length ≤ maxLen := by simp only [List.length_nil, maxLen]; omega
            have d3 : (([] : List Cell).length + l.length) * 32 ≤ 140737488355328 := by simp only [List.length_nil]; omega
            clear f0 f1 hnil hsrc
            simp only [putAll]
            go_simp
            refine wpList_app rfl _ _ _ rfl RCell NoA w'.heap.size E_Cell rfl _ _ [] l rfl rfl Hnil.out A Hsrc.out RCell.flat.off d2 d3 (Nat.le_refl _) ?_
            intro v' w1 hown hbel hblk
            go_wp2
            exact OpPost.mk _ rfl hbel (hown.mono (fun _ h => h) hs' (Keep.refl _ _) (Keep.refl _ _))
          · clear hf
            have hbc := bcellB (hg hsz)
            have hb0 := (hbc w.heap.size 0 (by omega)).trans (hbox.out 0)
            have hb1 := (hbc w.heap.size 1 (by omega)).trans (hbox.out 1)
            have hb2 := (hbc w.heap.size 2 (by omega)).trans (hbox.out 2)
            clear hbc
            simp at hb0 hb1 hb2
            simp only [putAll]
            go_simp
            go_wp2
            exact OpPost.mk _ rfl (Below.refl _ _) rfl
          · have f3 := hf 3 (by decide)
            clear hf
            have hs' : w.heap.size + 1 ≤ w'.heap.size := Nat.le_trans hsz (hg hsz).size
            simp only [putAll]
            go_simp
            go_wp2
            exact OpPost.mk _ (by go_simp) ((Below.refl _ _).alloc (Nat.le_refl _) _) (slRep.made1 (by omega) ⟨rfl, hc⟩)
          · have f2 := hf 2 (by decide)
            have f4 := hf 4 (by decide)
            clear hf
            have hs' : w.heap.size + 1 ≤ w'.heap.size := Nat.le_trans hsz (hg hsz).size
            simp only [putAll]
            go_simp
            refine wpList_app rfl _ _ _ rfl RCell NoA (w.heap.size + 1) E_Cell rfl _ _ l [c] rfl rfl f2 _ f4 RCell.flat.off c2 c3 hs' ?_
            intro v' w1 hown hbel hblk
            go_wp2
            exact OpPost.mk _ rfl (fun _ => hbel) hown
          · have f5 := hf 5 (by decide)
            clear hf
            simp only [putAll]
            go_simp
            go_wp2
            exact OpPost.mk _ (by first | rfl | go_simp) (Below.refl _ _) f5
          · clear hf
            simp only [putAll]
            go_simp
            go_wp2
            exact OpPost.mk _ (by first | rfl | go_simp) (Below.refl _ _) rfl
        · intro vals w' hg hf
          have f5 := hf 6 (by decide) (by kernel_rfl)
          have f6 := hf 7 (by decide) (by kernel_rfl)
          clear hf
          simp only [putAll]
          go_simp
          go_wp2
          go_ret2
          exact ⟨_, rfl, f5.slF RCell.flat (fun k hk => by omega), hW.trans ((hg hsz).mono (by omega))⟩

end Go.Proofs.Ytnebjcdhbjahoaa
