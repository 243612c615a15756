/- The walks of 'lease' and 'catenaref25': Renew, Grant. -/
import Derived.Test.YtabebdompkkhlaaLease2
namespace Go.Proofs.Ytabebdompkkhlaa
open Go.RowKit

theorem i64ok_8 : i64ok 8 := by constructor <;> decide
theorem findI_yes {l : List Pin} {id : Int} (h : findN l id < l.length) : findI l id = (findN l id : Int) := by rw [findI, if_pos h]
theorem findI_no {l : List Pin} {id : Int} (h : ¬ findN l id < l.length) : findI l id = -1 := by rw [findI, if_neg h]
theorem renew_yes {l : List Pin} {id : Int} (h : findN l id < l.length) : renewL l id = (l.set (findN l id) ⟨id, l[findN l id].at_, 8⟩, 0) := by
  rw [renewL, dif_pos h]
theorem renew_no {l : List Pin} {id : Int} (h : ¬ findN l id < l.length) : renewL l id = ([], 7) := by rw [renewL, dif_neg h]
theorem find_id {l : List Pin} {id : Int} (h : findN l id < l.length) : l[findN l id].id = id := by
  have h' : List.findIdx (fun p : Pin => p.id == id) l < l.length := h
  have := List.findIdx_getElem (w := h')
  simpa [findN] using this

set_option maxHeartbeats 1600000 in
theorem c_lease_Renew {A : Nat → Prop} (v : Value) (l : List Pin) (id : Int) (w : World) (hl : slRep RPin A w v l) (hid : i64ok id) (hm0 : l.length ≤ 4294967296) :
    Calls Try.prog 8 #[v, .int .i64 id] w fun e w' => ∃ v', e = .returned (.tuple #[v', .int .i64 (renewL l id).2]) ∧ Ow RPin NoA w.heap.size 43 w' v' (renewL l id).1 ∧ Below w.heap.size w w' := by
  have L := Lib.hid hl
  obtain ⟨ao, b, off, cap, rfl, hc, hm, hb, hx⟩ := open_Pins hl
  unfold maxLen at hm
  have hcell : (w.alloc (.cells #[.int .i64 id] 3)).cell? ⟨w.heap.size, 0, none⟩ = some (.int .i64 id) := World.cell?_alloc_at _ _ _ _ rfl
  have hfind := c_find _ l id ⟨w.heap.size, 0, none⟩ (w.alloc (.cells #[.int .i64 id] 3)) (L.out.below ((Below.refl _ _).alloc (Nat.le_refl _) _)) hcell
  by_cases hf : findN l id < l.length
  · have hi := Lib.hid (find_id hf)
    rw [findI_yes hf] at hfind
    rw [renew_yes hf]
    generalize findN l id = i at *
    have hge : decide ((0 : Int) ≤ (i : Int)) = true := by simp
    rw [hge] at hfind
    have Hfind := Lib.hid hfind
    clear hfind hcell
    obtain ⟨rfl, hblt⟩ := hb (by omega)
    obtain ⟨⟨h0, h1, h2⟩, hok⟩ := hx i hf
    go_enter Try.func8, Try.ntmps8
    go_wp2_with fail
    refine (c_whose id _).mono ?_
    rintro e w1 ⟨rfl, rfl⟩
    go_wp2_with fail
    refine Hfind.out.mono ?_
    rintro e w1 ⟨rfl, b1⟩
    have B := Lib.hid (((Below.refl w.heap.size w).alloc (Nat.le_refl _) _).trans (b1.mono (by simp)))
    have hz1 : w.heap.size + 1 ≤ w1.heap.size := by have := b1.size; simpa using this
    clear b1
    have L1 := Lib.hid (L.out.below B.out)
    go_wp2_with fail
    refine (c_Clone_Pin _ l _ L1.out (by omega)).mono ?_
    rintro e w2 ⟨v2, rfl, o2, b2⟩
    replace B := Lib.hid (B.out.trans (b2.mono (by omega)))
    have hz2 := b2.size
    clear b2
    have hbc := bcell B.out
    have s2 := o2.slF RPin.isFlat (A' := AnyA) (fun _ _ => trivial)
    obtain ⟨g, cap2, rfl, hbg, hgs, hc2, hm2⟩ := o2.shape (by omega)
    obtain ⟨ao', b', off', cap', hv', _, _, hb', hx'⟩ := open_Pins s2
    obtain ⟨he', _⟩ := hb' (by omega)
    subst he'
    injection hv' with e1 e2 e3
    injection e1 with e1
    injection e1 with e1 e4
    subst e1; subst e4; subst e3
    obtain ⟨⟨k0, k1, k2⟩, _⟩ := hx' i hf
    simp only [Nat.zero_add] at k0 k1 k2
    clear s2 hx' hb' e2 hx hb
    have O := Lib.hid o2
    have hfz := o2.frozen (by omega)
    have f0 := hfz (i * 3)
    have f1 := hfz (i * 3 + 1)
    have f2 := hfz (i * 3 + 2)
    clear o2 hfz
    unfold maxLen at hm2
    have hi0 : (0 : Int) ≤ (i : Int) := by omega
    have hi1 : (i : Int) < (l.length : Int) := by omega
    have hid2 := hi.out
    by_cases h8 : l[i].left = 8
    · have h8b : (l[i].left == 8) = true := beq_iff_eq.2 h8
      clear h8
      go_wp2_with fail
      go_quiet (fail)
      go_wp2
      go_ret2
      have hset : l.set i ⟨id, l[i].at_, 8⟩ = l := by
        have h9 : l[i].left = 8 := beq_iff_eq.1 h8b
        have : (⟨id, l[i].at_, 8⟩ : Pin) = l[i] := by
          cases hp : l[i] with
          | mk a b c => rw [hp] at hid2 h9; simp only at hid2 h9; rw [← hid2, ← h9]
        rw [this, List.set_getElem_self]
      have hbl2 := below_drewN ((Below.refl w2.heap.size w2).alloc (Nat.le_refl _) (.cells #[.int .i64 id, .int .u64 l[i].at_, .int .i64 8] 43)) nq
      refine ⟨_, rfl, ?_, B.out.trans (hbl2.mono (by omega))⟩
      rw [hset]
      exact ((O.out.flat RPin.isFlat).below hbl2).mono (fun _ h => h) (by omega) (Keep.refl _ _) (Keep.refl _ _)
    · have h8b : (l[i].left == 8) = false := beq_eq_false_iff_ne.2 h8
      clear h8
      go_wp2_with fail
      go_quiet (fail)
      go_wp2
      go_ret2
      have hbl2 := below_drewN ((Below.refl w2.heap.size w2).alloc (Nat.le_refl _) (.cells #[.int .i64 id, .int .u64 l[i].at_, .int .i64 8] 43)) nq
      obtain ⟨q1, q2, _⟩ := Ow.set3 RPin.isFlat rfl ((O.out.flat RPin.isFlat).below hbl2) i hf (.int .i64 id) (.int .u64 l[i].at_) (.int .i64 8) ⟨id, l[i].at_, 8⟩ ⟨rfl, hid, hok.2.1, i64ok_8⟩
      exact ⟨_, rfl, q1.mono (fun _ h => h) (by omega) (Keep.refl _ _) (Keep.refl _ _), (B.out.trans (hbl2.mono (by omega))).trans (q2.mono (by omega))⟩
  · rw [findI_no hf] at hfind
    rw [renew_no hf]
    have hge : decide ((0 : Int) ≤ -1) = false := by decide
    rw [hge] at hfind
    have Hfind := Lib.hid hfind
    clear hfind hcell hx hb
    go_enter Try.func8, Try.ntmps8
    go_wp2_with fail
    refine (c_whose id _).mono ?_
    rintro e w1 ⟨rfl, rfl⟩
    go_wp2_with fail
    refine Hfind.out.mono ?_
    rintro e w1 ⟨rfl, b1⟩
    have B := Lib.hid (((Below.refl w.heap.size w).alloc (Nat.le_refl _) _).trans (b1.mono (by simp)))
    clear b1
    go_wp2
    go_ret2
    exact ⟨_, rfl, Ow.nil _ _ _ _ _ _, B.out⟩

end Go.Proofs.Ytabebdompkkhlaa
