/- The walks of 'lease' and 'catenaref25': Renew of the reference, Delete, Free. -/
import Derived.Test.YtabebdompkkhlaaLease4
namespace Go.Proofs.Ytabebdompkkhlaa
open Go.RowKit

set_option maxHeartbeats 1600000 in
theorem c_ref_Renew {A : Nat → Prop} (v : Value) (l : List Pin) (id : Int) (w : World) (hl : slRep RPin A w v l) (hid : i64ok id) (hm0 : l.length ≤ 4294967296) :
    Calls Try.prog 9 #[v, .int .i64 id] w fun e w' => ∃ v', e = .returned (.tuple #[v', .int .i64 (renewL l id).2]) ∧ Ow RPin NoA w.heap.size 43 w' v' (renewL l id).1 ∧ Below w.heap.size w w' := by
  have L := Lib.hid hl
  have hlen := hl.len_le
  obtain ⟨ao, b, off, cap, rfl, hc, hm, hb, hx⟩ := open_Pins hl
  unfold maxLen at hm
  have hfind := c_ref_find _ l id w L.out
  by_cases hf : findN l id < l.length
  · have hi := Lib.hid (find_id hf)
    rw [findI_yes hf] at hfind
    rw [renew_yes hf]
    generalize findN l id = i at *
    have Hfind := Lib.hid hfind
    obtain ⟨rfl, hblt⟩ := hb (by omega)
    have Hw1 : Hid (∀ o, slRep RPin A (w.alloc o) (.slice (some ⟨b, off, none⟩) l.length cap) l) := Lib.hid fun o => L.out.below ((Below.refl _ _).alloc (Nat.le_refl _) _)
    have c2 : ([] : List Pin).length + l.length ≤ maxLen := by simpa using hlen
    have c3 : (([] : List Pin).length + l.length) * 24 ≤ 140737488355328 := by simp only [List.length_nil]; omega
    have c4 : ∀ o, w.heap.size ≤ (w.alloc o).heap.size := fun o => by simp
    obtain ⟨_, hok⟩ := hx i hf
    clear hfind hx hb
    go_enter Try.func9, Try.ntmps9
    go_wp2_with fail
    refine Hfind.out.mono ?_
    rintro e w1 ⟨rfl, rfl⟩
    go_wp2_with (at_builtin; go_must (refine wpList_app rfl _ _ _ rfl RPin NoA w.heap.size E_Pin rfl _ _ [] l rfl rfl (Ow.nil _ _ _ _ _ _) A (Hw1.out _) RPin.isFlat.off c2 c3 (c4 _) ?_))
    rintro v2 w2 o2 b2 -
    have B := Lib.hid (((Below.refl w.heap.size w).alloc (Nat.le_refl _) _).trans b2)
    clear b2
    obtain ⟨g, cap2, rfl, hbg, hgs, hc2, hm2⟩ := o2.shape (by omega)
    have hfz := o2.frozen (by omega) (i * 3 + 2)
    have s2 := o2.slF RPin.isFlat (A' := AnyA) (fun _ _ => trivial)
    obtain ⟨ao', b', off', cap', hv', _, _, hb', hx'⟩ := open_Pins s2
    obtain ⟨he', _⟩ := hb' (by omega)
    subst he'
    injection hv' with e1 e2 e3
    injection e1 with e1
    injection e1 with e1 e4
    subst e1; subst e4; subst e3
    obtain ⟨⟨k0, k1, k2⟩, _⟩ := hx' i hf
    simp only [Nat.zero_add] at k0 k1 k2
    clear s2 hx' hb' e2
    have O := Lib.hid o2
    clear o2
    unfold maxLen at hm2
    have hi0 : (0 : Int) ≤ (i : Int) := by omega
    have hi1 : (i : Int) < (l.length : Int) := by omega
    have hge : decide ((i : Int) < 0) = false := by simp
    go_wp2
    go_ret2
    obtain ⟨q1, q2, _⟩ := Ow.cell RPin.isFlat O.out i 2 hf (by decide) (.int .i64 8) ⟨id, l[i].at_, 8⟩ (fun cs hcs => by
      obtain ⟨rfl, h1, h2, h3⟩ := hcs
      refine ⟨?_, hid, h2, i64ok_8⟩
      have := hi.out
      simp only [List.set_cons_succ, List.set_cons_zero]
      rw [this])
    exact ⟨_, rfl, q1, B.out.trans q2⟩
  · rw [findI_no hf] at hfind
    rw [renew_no hf]
    have Hfind := Lib.hid hfind
    clear hfind hx hb
    go_enter Try.func9, Try.ntmps9
    go_wp2_with fail
    refine Hfind.out.mono ?_
    rintro e w1 ⟨rfl, rfl⟩
    go_wp2
    go_ret2
    exact ⟨_, rfl, Ow.nil _ _ _ _ _ _, Below.refl _ _⟩

theorem one_Pin : ∀ i z, Try.prog.info? 43 = some i → i.zero = some z → ∀ c ∈ z.cells, c.oneCell' = true := by
  intro i z hi hz c hc
  have hzz : (Try.prog.info? 43).map (fun i => i.zero) = some (some (.agg #[.int .i64 0, .int .u64 0, .int .i64 0])) := by kernel_rfl
  rw [hi] at hzz
  simp only [Option.map_some, Option.some.injEq] at hzz
  rw [hz] at hzz
  injection hzz with hzz
  subst hzz
  simp [Value.cells] at hc
  rcases hc with rfl | rfl | rfl <;> rfl

set_option maxHeartbeats 1600000 in
theorem c_Delete (g cap : Nat) (l : List Pin) (i : Nat) (base : Nat) (w : World) (ho : Ow RPin NoA base 43 w (.slice (some ⟨g, 0, none⟩) l.length cap) l) (hi : i < l.length) (hbase : base ≤ w.heap.size) (hm0 : l.length ≤ 4294967296) :
    Calls Try.prog 24 #[.slice (some ⟨g, 0, none⟩) l.length cap, .int .i64 i, .int .i64 ((i : Int) + 1)] w fun e w' => ∃ v', e = .returned v' ∧ Ow RPin NoA base 43 w' v' (l.take i ++ l.drop (i + 1)) ∧ Below base w w' := by
  obtain ⟨_, _, hv, hbg, hgs, hcap, hmx⟩ := ho.shape (by omega)
  injection hv with e1 _ e3
  injection e1 with e1
  injection e1 with e1
  subst e1; subst e3
  unfold maxLen at hmx
  have hs1 : ∀ w, (Instr.slice 22 (.slice (some ⟨g, 0, none⟩) l.length cap) none (some (.int .i64 (i : Int))) none).run Try.prog w = .ok (.slice (some ⟨g, 0, none⟩) i cap) w := fun w => by
    have := run_sub_to (P := Try.prog) Try.underlying22 (k := 3) (by kernel_rfl) (some ⟨g, 0, none⟩) l.length cap i (i : Int) rfl (by omega) w
    rwa [subA_zero] at this
  have hs2 := run_sub_from (P := Try.prog) Try.underlying22 (k := 3) (by kernel_rfl) (some ⟨g, 0, none⟩) l.length cap (i + 1) ((i : Int) + 1) (by omega) (by omega) hcap
  have hne : ((i : Int) == (i : Int) + 1) = false := beq_eq_false_iff_ne.2 (by omega)
  have htk := ho.take i (by omega)
  have hsl := ((ho.slF RPin.isFlat (A' := AnyA) (fun _ _ => trivial)).sub 3 (i + 1) l.length rfl (by omega) (Nat.le_refl _))
  rw [List.take_length] at hsl
  have Hs1 := Lib.hid hs1
  have Hs2 := Lib.hid hs2
  clear hs1 hs2
  go_enter Try.func24, Try.ntmps24
  go_wp2
  have c2 : (l.take i).length + (l.drop (i + 1)).length ≤ maxLen := by simp only [List.length_take, List.length_drop, maxLen]; omega
  have c3 : ((l.take i).length + (l.drop (i + 1)).length) * 24 ≤ 140737488355328 := by simp only [List.length_take, List.length_drop]; omega
  have c4 : (l.take i).length + (l.drop (i + 1)).length ≤ cap := by simp only [List.length_take, List.length_drop]; omega
  have E1 : Hid ((l.take i).length + (l.drop (i + 1)).length = l.length - 1) := Lib.hid (by simp only [List.length_take, List.length_drop]; omega)
  have Htk := Lib.hid htk
  have Hsl := Lib.hid hsl
  clear htk hsl
  refine wp_region_facts (by kernel_rfl) (by kernel_rfl) (by decide) (GB base) [6] [0, 1, 2, 3, 4, 5] (by kernel_rfl) (fun x => Ow RPin NoA base 43 x (.slice (some ⟨g, 0, none⟩) l.length cap) l ∧ base ≤ x.heap.size) (fun j v x => match j with
    | 0 => v = .slice (some ⟨g, 0, none⟩) l.length cap
    | 1 => v = .int .i64 i
    | 2 => v = .slice (some ⟨g, 0, none⟩) i cap
    | 3 => v = .slice (some ⟨g, 0, none⟩) l.length cap
    | 4 => v = .int .i64 ((i : Int) + 1)
    | 5 => v = .slice (subA (some ⟨g, 0, none⟩) cap (i + 1) 3) (l.length - (i + 1)) (cap - (i + 1))
    | 6 => v = .slice (some ⟨g, 0, none⟩) (l.length - 1) cap ∧ Ow RPin NoA base 43 x v (l.take i ++ l.drop (i + 1))
    | _ => v = .slice (some ⟨g, 0, none⟩) (l.length - 1) cap ∧ Ow RPin NoA base 43 x v (l.take i ++ l.drop (i + 1))) (GB.of _) (GB.trans _) ?_ ?_ (⟨ho, hbase⟩) (fun _ _ h hb => ⟨h.1.below hb, Nat.le_trans h.2 hb.size⟩) ?_ ?_
  · intro j hj v x y h
    simp only [List.mem_cons, List.not_mem_nil, or_false] at hj
    rcases hj with rfl | rfl | rfl | rfl | rfl | rfl <;> exact h
  · intro j v x y h hb
    match j, h with
    | 0, h => exact h
    | 1, h => exact h
    | 2, h => exact h
    | 3, h => exact h
    | 4, h => exact h
    | 5, h => exact h
    | 6, h => exact (by first | exact h | exact h.below hb | exact ⟨h.1, h.2.below hb⟩)
    | _ + 7, h => exact (by first | exact h | exact h.below hb | exact ⟨h.1, h.2.below hb⟩)
  · simp only [owes]
    refine ⟨fun vals w' hg hf hl hI => ?_, fun vals w' hg hf hl hI => ?_, fun vals w' hg hf hl hI => ?_, fun vals w' hg hf hl hI => ?_, fun vals w' hg hf hl hI => ?_, fun vals w' hg hf hl hI => ?_, fun vals w' hg hf hl hI => ?_, fun vals w' hg hf hl hI => ?_, trivial⟩
    · clear hf
      have l7 := hl 7 (by kernel_rfl)
      simp [orig] at l7
      clear hl hI
      simp only [putAll]
      go_simp
      go_wp2
      exact OpPost.mk _ (by first | rfl | go_simp) (Below.refl _ _) rfl
    · clear hf
      clear hl hI
      simp only [putAll]
      go_simp
      go_wp2
      exact OpPost.mk _ (by first | rfl | go_simp) (Below.refl _ _) rfl
    · have f0 : vals 0 = .slice (some ⟨g, 0, none⟩) l.length cap := hf 0 (by decide)
      have f1 : vals 1 = .int .i64 i := hf 1 (by decide)
      clear hf hl hI
      have hs1 := Hs1.out
      simp only [putAll]
      go_simp
      go_wp2
      exact OpPost.mk _ (by first | rfl | go_simp) (Below.refl _ _) rfl
    · clear hf
      have l7 := hl 7 (by kernel_rfl)
      simp [orig] at l7
      clear hl hI
      simp only [putAll]
      go_simp
      go_wp2
      exact OpPost.mk _ (by first | rfl | go_simp) (Below.refl _ _) rfl
    · clear hf
      clear hl hI
      simp only [putAll]
      go_simp
      go_wp2
      exact OpPost.mk _ (by first | rfl | go_simp) (Below.refl _ _) rfl
    · have f3 : vals 3 = .slice (some ⟨g, 0, none⟩) l.length cap := hf 3 (by decide)
      have f4 : vals 4 = .int .i64 ((i : Int) + 1) := hf 4 (by decide)
      clear hf hl hI
      have hs2 := Hs2.out
      simp only [putAll]
      go_simp
      go_wp2
      exact OpPost.mk _ (by first | rfl | go_simp) (Below.refl _ _) rfl
    · have f2 : vals 2 = .slice (some ⟨g, 0, none⟩) i cap := hf 2 (by decide)
      have f5 : vals 5 = .slice (subA (some ⟨g, 0, none⟩) cap (i + 1) 3) (l.length - (i + 1)) (cap - (i + 1)) := hf 5 (by decide)
      have hini := hI (by kernel_rfl)
      clear hf hl hI
      have htk := hini.1.take i (by omega)
      have hsl := ((hini.1.slF RPin.isFlat (A' := AnyA) (fun _ _ => trivial)).sub 3 (i + 1) l.length rfl (by omega) (Nat.le_refl _))
      rw [List.take_length] at hsl
      have hbs := hini.2
      clear hini
      simp only [putAll]
      go_simp
      refine wpList_app_room rfl _ _ _ rfl RPin NoA base E_Pin rfl g i cap _ (l.take i) (l.drop (i + 1)) (by simp [Act.eval, f2]) rfl htk AnyA (by simpa [Act.eval, f5] using hsl) RPin.isFlat.off c4 c2 c3 hbs ?_
      rintro w1 hown hbel -
      rw [E1.out] at hown ⊢
      go_wp2
      exact OpPost.mk _ (by first | rfl | go_simp) (fun _ => hbel) ⟨rfl, hown⟩
    · have f6 := hf 6 (by decide)
      clear hf hl hI
      simp only [putAll]
      go_simp
      go_wp2
      exact OpPost.mk _ (by first | rfl | go_simp) (Below.refl _ _) f6
  · intro vals w' hg hf
    have f7 : vals 7 = .slice (some ⟨g, 0, none⟩) (l.length - 1) cap ∧ Ow RPin NoA base 43 w' (vals 7) (l.take i ++ l.drop (i + 1)) := hf 7 (by decide) (by kernel_rfl)
    clear hf
    obtain ⟨f7, o7⟩ := f7
    rw [f7] at o7
    have hgb := hg hbase
    have hlt2 : (0 : Int) ≤ (l.length : Int) - 1 := by omega
    have hs3 := run_sub_of (P := Try.prog) Try.underlying22 (k := 3) (by kernel_rfl) (some ⟨g, 0, none⟩) (l.length - 1) cap (l.length - 1) l.length ((l.length - 1 : Nat) : Int) (l.length : Int) rfl rfl (by omega) hcap
    have hcap1 : l.length - (l.length - 1) = 1 := by omega
    rw [hcap1] at hs3
    have hsub : subA (some ⟨g, 0, none⟩) cap (l.length - 1) 3 = some ⟨g, (l.length - 1) * 3, none⟩ := by
      unfold subA
      rw [if_neg (by omega)]
      simp only [Option.map_some, Addr.add]
      split
      · simp
      · simp
    rw [hsub] at hs3
    have O7 := Lib.hid o7
    have Hg := Lib.hid hgb
    clear o7 hgb hg
    simp only [putAll]
    go_simp
    have hlen7 : (l.take i ++ l.drop (i + 1)).length = l.length - 1 := by rw [List.length_append]; exact E1.out
    have Hc : Hid (∀ (w : World), Ow RPin NoA base 43 w (.slice (some ⟨g, 0, none⟩) (l.length - 1) cap) (l.take i ++ l.drop (i + 1)) → ∃ w1, (Builtin.clear_ #[22] 0 #[.slice (some ⟨g, (l.length - 1) * 3, none⟩) 1 (cap - (l.length - 1))]).run Try.prog w = .ok (.tuple #[]) w1 ∧ Ow RPin NoA base 43 w1 (.slice (some ⟨g, 0, none⟩) (l.length - 1) cap) (l.take i ++ l.drop (i + 1)) ∧ Below base w w1) := Lib.hid fun w h => by
      obtain ⟨w1, h1, h2, h3, _⟩ := run_clear RPin.isFlat 0 E_Pin rfl one_Pin h hbg (k := 1) (c := cap - (l.length - 1)) (by omega) (by rw [hlen7]; omega) ((l.length - 1) * 3) (by rw [hlen7])
      exact ⟨w1, h1, h2, h3⟩
    obtain ⟨w1, hrun, hO, hB⟩ := Hc.out w' O7.out
    have HO := Lib.hid hO
    have HB := Lib.hid hB
    clear hO hB
    go_wp2
    go_ret
    exact ⟨_, rfl, HO.out, Hg.out.trans HB.out⟩

theorem free_yes {l : List Pin} {id : Int} (h : findN l id < l.length) : freeL l id = (l.take (findN l id) ++ l.drop (findN l id + 1), 0) := by rw [freeL, if_pos h]
theorem free_no {l : List Pin} {id : Int} (h : ¬ findN l id < l.length) : freeL l id = ([], 7) := by rw [freeL, if_neg h]

set_option maxHeartbeats 800000 in
theorem c_lease_Free {A : Nat → Prop} (v : Value) (l : List Pin) (id : Int) (w : World) (hl : slRep RPin A w v l) (hm0 : l.length ≤ 4294967296) :
    Calls Try.prog 10 #[v, .int .i64 id] w fun e w' => ∃ v', e = .returned (.tuple #[v', .int .i64 (freeL l id).2]) ∧ Ow RPin NoA w.heap.size 43 w' v' (freeL l id).1 ∧ Below w.heap.size w w' := by
  have L := Lib.hid hl
  obtain ⟨ao, b, off, cap, rfl, hc, hm, hb, hx⟩ := open_Pins hl
  unfold maxLen at hm
  have hcell : (w.alloc (.cells #[.int .i64 id] 3)).cell? ⟨w.heap.size, 0, none⟩ = some (.int .i64 id) := World.cell?_alloc_at _ _ _ _ rfl
  have hfind := c_find _ l id ⟨w.heap.size, 0, none⟩ (w.alloc (.cells #[.int .i64 id] 3)) (L.out.below ((Below.refl _ _).alloc (Nat.le_refl _) _)) hcell
  clear hx hb
  by_cases hf : findN l id < l.length
  · rw [findI_yes hf] at hfind
    rw [free_yes hf]
    generalize findN l id = i at *
    have hge : decide ((0 : Int) ≤ (i : Int)) = true := by simp
    rw [hge] at hfind
    have Hfind := Lib.hid hfind
    clear hfind hcell
    have hi1 : (i : Int) < (l.length : Int) := by omega
    go_enter Try.func10, Try.ntmps10
    go_wp2_with fail
    refine (c_whose id _).mono ?_
    rintro e w1 ⟨rfl, rfl⟩
    go_wp2_with fail
    refine Hfind.out.mono ?_
    rintro e w1 ⟨rfl, b1⟩
    have B := Lib.hid (((Below.refl w.heap.size w).alloc (Nat.le_refl _) _).trans (b1.mono (by simp)))
    have hz1 : w.heap.size + 1 ≤ w1.heap.size := by have := b1.size; simpa using this
    clear b1
    have L1 := Lib.hid (L.out.below B.out)
    go_wp2_with fail
    refine (c_Clone_Pin _ l _ L1.out (by omega)).mono ?_
    rintro e w2 ⟨v2, rfl, o2, b2⟩
    replace B := Lib.hid (B.out.trans (b2.mono (by omega)))
    have hz2 := b2.size
    clear b2
    obtain ⟨g, cap2, rfl, hbg, hgs, hc2, hm2⟩ := o2.shape (by omega)
    have O := Lib.hid ((o2.flat RPin.isFlat (A' := NoA)).mono (A' := NoA) (base' := w.heap.size) (fun _ h => h) (by omega) (Keep.refl _ _) (Keep.refl _ _))
    clear o2
    go_wp2_with fail
    refine (c_Delete g cap2 l i w.heap.size w2 O.out hf (by omega) hm0).mono ?_
    rintro e w3 ⟨v3, rfl, o3, b3⟩
    go_wp2
    go_ret2
    exact ⟨_, rfl, o3, B.out.trans b3⟩
  · rw [findI_no hf] at hfind
    rw [free_no hf]
    have hge : decide ((0 : Int) ≤ -1) = false := by decide
    rw [hge] at hfind
    have Hfind := Lib.hid hfind
    clear hfind hcell
    go_enter Try.func10, Try.ntmps10
    go_wp2_with fail
    refine (c_whose id _).mono ?_
    rintro e w1 ⟨rfl, rfl⟩
    go_wp2_with fail
    refine Hfind.out.mono ?_
    rintro e w1 ⟨rfl, b1⟩
    have B := Lib.hid (((Below.refl w.heap.size w).alloc (Nat.le_refl _) _).trans (b1.mono (by simp)))
    clear b1
    go_wp2
    go_ret2
    exact ⟨_, rfl, Ow.nil _ _ _ _ _ _, B.out⟩

set_option maxHeartbeats 1600000 in
theorem c_ref_Free {A : Nat → Prop} (v : Value) (l : List Pin) (id : Int) (w : World) (hl : slRep RPin A w v l) (hm0 : l.length ≤ 4294967296) :
    Calls Try.prog 11 #[v, .int .i64 id] w fun e w' => ∃ v', e = .returned (.tuple #[v', .int .i64 (freeL l id).2]) ∧ Ow RPin NoA w.heap.size 43 w' v' (freeL l id).1 ∧ Below w.heap.size w w' := by
  have L := Lib.hid hl
  obtain ⟨ao, b, off, cap, rfl, hc, hm, hb, hx⟩ := open_Pins hl
  unfold maxLen at hm
  have hfind := c_ref_find _ l id w L.out
  clear hx hb
  by_cases hf : findN l id < l.length
  · rw [findI_yes hf] at hfind
    rw [free_yes hf]
    generalize findN l id = i at *
    have Hfind := Lib.hid hfind
    clear hfind
    have hge : decide ((i : Int) < 0) = false := by simp
    have Hs1 := Lib.hid (run_sub_to (P := Try.prog) Try.underlying22 (k := 3) (by kernel_rfl) ao l.length cap i (i : Int) rfl (by omega))
    have Hs2 := Lib.hid (run_sub_from (P := Try.prog) Try.underlying22 (k := 3) (by kernel_rfl) ao l.length cap (i + 1) ((i : Int) + 1) (by omega) (by omega) hc)
    have hp1 := L.out.sub 3 0 i rfl (by omega) (by omega)
    have hp2 := L.out.sub 3 (i + 1) l.length rfl (by omega) (Nat.le_refl _)
    simp only [List.drop_zero, Nat.sub_zero, List.take_length] at hp1 hp2
    have Hp1 : Hid (∀ w', Below w.heap.size w w' → slRep RPin A w' (.slice (subA ao cap 0 3) i cap) (l.take i)) := Lib.hid fun w' h => hp1.below h
    have Hp2 : Hid (∀ w', Below w.heap.size w w' → slRep RPin A w' (.slice (subA ao cap (i + 1) 3) (l.length - (i + 1)) (cap - (i + 1))) (l.drop (i + 1))) := Lib.hid fun w' h => hp2.below h
    have d2 : ([] : List Pin).length + (l.take i).length ≤ maxLen := by simp only [List.length_take, List.length_nil, maxLen]; omega
    have d3 : (([] : List Pin).length + (l.take i).length) * 24 ≤ 140737488355328 := by simp only [List.length_take, List.length_nil]; omega
    have c2 : (l.take i).length + (l.drop (i + 1)).length ≤ maxLen := by simp only [List.length_take, List.length_drop, maxLen]; omega
    have c3 : ((l.take i).length + (l.drop (i + 1)).length) * 24 ≤ 140737488355328 := by simp only [List.length_take, List.length_drop]; omega
    clear hp1 hp2 hl
    go_enter Try.func11, Try.ntmps11
    go_wp2_with fail
    refine Hfind.out.mono ?_
    rintro e w1 ⟨rfl, rfl⟩
    go_wp2
    refine wp_region_facts (by kernel_rfl) (by kernel_rfl) (by decide) (GB w.heap.size) [9] [1, 2, 3, 5, 6, 7, 8, 11] (by kernel_rfl) (fun _ => True) (fun j v x => match j with
      | 0 => ∃ g, v = .slice (some ⟨g, 0, none⟩) 0 0
      | 1 => v = .slice ao l.length cap
      | 2 => v = .int .i64 i
      | 3 => v = .slice (subA ao cap 0 3) i cap
      | 4 => Ow RPin NoA w.heap.size 43 x v (l.take i)
      | 5 => v = .slice ao l.length cap
      | 6 => v = .int .i64 i
      | 7 => v = .int .i64 ((i : Int) + 1)
      | 8 => v = .slice (subA ao cap (i + 1) 3) (l.length - (i + 1)) (cap - (i + 1))
      | 9 => Ow RPin NoA w.heap.size 43 x v (l.take i ++ l.drop (i + 1))
      | 10 => Ow RPin NoA w.heap.size 43 x v (l.take i ++ l.drop (i + 1))
      | _ => v = .int .i64 0) (GB.of _) (GB.trans _) ?_ ?_ (trivial) (fun _ _ _ _ => trivial) ?_ ?_
    · intro j hj v x y h
      simp only [List.mem_cons, List.not_mem_nil, or_false] at hj
      rcases hj with rfl | rfl | rfl | rfl | rfl | rfl | rfl | rfl <;> exact h
    · intro j v x y h hb
      match j, h with
      | 0, h => exact (by first | exact h | exact h.below hb | exact ⟨h.1, h.2.below hb⟩)
      | 1, h => exact h
      | 2, h => exact h
      | 3, h => exact h
      | 4, h => exact Ow.below h hb
      | 5, h => exact h
      | 6, h => exact h
      | 7, h => exact h
      | 8, h => exact h
      | 9, h => exact Ow.below h hb
      | 10, h => exact Ow.below h hb
      | _ + 11, h => exact h
    · simp only [owes]
      refine ⟨fun vals w' hg hf hl hI => ?_, fun vals w' hg hf hl hI => ?_, fun vals w' hg hf hl hI => ?_, fun vals w' hg hf hl hI => ?_, fun vals w' hg hf hl hI => ?_, fun vals w' hg hf hl hI => ?_, fun vals w' hg hf hl hI => ?_, fun vals w' hg hf hl hI => ?_, fun vals w' hg hf hl hI => ?_, fun vals w' hg hf hl hI => ?_, fun vals w' hg hf hl hI => ?_, fun vals w' hg hf hl hI => ?_, trivial⟩
      · clear hf hl hI
        simp only [putAll]
        go_simp
        go_wp2
        exact OpPost.mk _ rfl ((Below.refl _ _).alloc (Nat.le_refl _) _) ⟨_, rfl⟩
      · clear hf
        clear hl hI
        simp only [putAll]
        go_simp
        go_wp2
        exact OpPost.mk _ (by first | rfl | go_simp) (Below.refl _ _) rfl
      · clear hf
        clear hl hI
        simp only [putAll]
        go_simp
        go_wp2
        exact OpPost.mk _ (by first | rfl | go_simp) (Below.refl _ _) rfl
      · have f1 : vals 1 = .slice ao l.length cap := hf 1 (by decide)
        have f2 : vals 2 = .int .i64 i := hf 2 (by decide)
        clear hf hl hI
        have hs1 := Hs1.out
        simp only [putAll]
        go_simp
        go_wp2
        exact OpPost.mk _ (by first | rfl | go_simp) (Below.refl _ _) rfl
      · have f0 := hf 0 (by decide)
        have f3 : vals 3 = .slice (subA ao cap 0 3) i cap := hf 3 (by decide)
        clear hf hl hI
        obtain ⟨g0, f0⟩ := f0
        have hnil : Ow RPin NoA w'.heap.size 43 w' (vals 0) [] := by rw [f0]; exact Ow.nil _ _ _ _ _ _
        have hsrc : slRep RPin A w' (vals 3) (l.take i) := by rw [f3]; exact Hp1.out _ (hg (Nat.le_refl _))
        have hs' := (hg (Nat.le_refl _)).size
        clear f0 f3
        simp only [putAll]
        go_simp
        refine wpList_app rfl _ _ _ rfl RPin NoA w'.heap.size E_Pin rfl _ _ [] (l.take i) rfl rfl hnil A hsrc RPin.isFlat.off d2 d3 (Nat.le_refl _) ?_
        rintro v' w1 hown hbel -
        go_wp2
        exact OpPost.mk _ rfl hbel (hown.mono (fun _ h => h) hs' (Keep.refl _ _) (Keep.refl _ _))
      · clear hf
        clear hl hI
        simp only [putAll]
        go_simp
        go_wp2
        exact OpPost.mk _ (by first | rfl | go_simp) (Below.refl _ _) rfl
      · clear hf
        clear hl hI
        simp only [putAll]
        go_simp
        go_wp2
        exact OpPost.mk _ (by first | rfl | go_simp) (Below.refl _ _) rfl
      · have f6 : vals 6 = .int .i64 i := hf 6 (by decide)
        clear hf hl hI
        simp only [putAll]
        go_simp
        go_wp2
        exact OpPost.mk _ (by first | rfl | go_simp) (Below.refl _ _) rfl
      · have f5 : vals 5 = .slice ao l.length cap := hf 5 (by decide)
        have f7 : vals 7 = .int .i64 ((i : Int) + 1) := hf 7 (by decide)
        clear hf hl hI
        have hs2 := Hs2.out
        simp only [putAll]
        go_simp
        go_wp2
        exact OpPost.mk _ (by first | rfl | go_simp) (Below.refl _ _) rfl
      · have f4 := hf 4 (by decide)
        have f8 : vals 8 = .slice (subA ao cap (i + 1) 3) (l.length - (i + 1)) (cap - (i + 1)) := hf 8 (by decide)
        clear hf hl hI
        have hsrc : slRep RPin A w' (vals 8) (l.drop (i + 1)) := by rw [f8]; exact Hp2.out _ (hg (Nat.le_refl _))
        have hs' := (hg (Nat.le_refl _)).size
        clear f8
        simp only [putAll]
        go_simp
        refine wpList_app rfl _ _ _ rfl RPin NoA w.heap.size E_Pin rfl _ _ (l.take i) (l.drop (i + 1)) rfl rfl f4 A hsrc RPin.isFlat.off c2 c3 hs' ?_
        rintro v' w1 hown hbel -
        go_wp2
        exact OpPost.mk _ rfl (fun _ => hbel) hown
      · have f9 := hf 9 (by decide)
        clear hf hl hI
        simp only [putAll]
        go_simp
        go_wp2
        exact OpPost.mk _ (by first | rfl | go_simp) (Below.refl _ _) f9
      · clear hf
        clear hl hI
        simp only [putAll]
        go_simp
        go_wp2
        exact OpPost.mk _ (by first | rfl | go_simp) (Below.refl _ _) rfl
    · intro vals w' hg hf
      have f10 := hf 10 (by decide) (by kernel_rfl)
      have f11 : vals 11 = .int .i64 0 := hf 11 (by decide) (by kernel_rfl)
      clear hf
      simp only [putAll]
      go_simp
      go_wp2
      go_ret2
      exact ⟨_, rfl, f10, hg (Nat.le_refl _)⟩
  · rw [findI_no hf] at hfind
    rw [free_no hf]
    have Hfind := Lib.hid hfind
    clear hfind
    go_enter Try.func11, Try.ntmps11
    go_wp2_with fail
    refine Hfind.out.mono ?_
    rintro e w1 ⟨rfl, rfl⟩
    go_wp2
    go_ret2
    exact ⟨_, rfl, Ow.nil _ _ _ _ _ _, Below.refl _ _⟩

end Go.Proofs.Ytabebdompkkhlaa
