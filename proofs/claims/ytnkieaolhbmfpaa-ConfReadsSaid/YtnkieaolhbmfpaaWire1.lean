/- The walks of the reference of 'wire': what writes and what reads parts of a message. -/
import Derived.Test.YtnkieaolhbmfpaaVarnum
namespace Go.Proofs.Ytnkieaolhbmfpaa
open Go.RowKit

structure DWriterR where
  s : ByteArray
  e : Int

instance : Inhabited DWriterR := ⟨⟨ByteArray.empty, 0⟩⟩

instance : DecidableEq DWriterR := fun x y => by cases x; cases y; simp only [DWriterR.mk.injEq]; infer_instance

def okDWriterR (x : DWriterR) : Prop := x.s.size ≤ maxLen ∧ i64ok x.e

def cDWriterR (x : DWriterR) : List Value := [.string x.s, .int .i64 x.e]

def RDWriterR : Rp DWriterR := Rp.flat 2 okDWriterR (fun x => cDWriterR x) (fun _ => rfl) (fun x c hc => by simp only [cDWriterR, List.mem_cons, List.not_mem_nil, or_false] at hc; rcases hc with rfl | rfl <;> rfl)

structure DReaderR where
  s : ByteArray
  at_ : Int
  e : Int

instance : Inhabited DReaderR := ⟨⟨ByteArray.empty, 0, 0⟩⟩

instance : DecidableEq DReaderR := fun x y => by cases x; cases y; simp only [DReaderR.mk.injEq]; infer_instance

def cDReaderR (x : DReaderR) : List Value := [.string x.s, .int .i64 x.at_, .int .i64 x.e]

structure DReader where
  s : ByteArray
  at_ : Int
  e : Int
  made : Bool

instance : Inhabited DReader := ⟨⟨ByteArray.empty, 0, 0, false⟩⟩

instance : DecidableEq DReader := fun x y => by cases x; cases y; simp only [DReader.mk.injEq]; infer_instance

def cDReader (x : DReader) : List Value := [.string x.s, .int .i64 x.at_, .int .i64 x.e, .bool x.made]

def TB_Wire1L : TabL := ⟨[(55296, 0), (55297, 1), (69632, 0), (69633, 1), (69634, 2)], [9], [], [], [(3, (1, false)), (9, (1, false))]⟩

def TB_Wire1 : Tab Try.prog := ⟨TB_Wire1L, by kernel_rfl⟩

theorem fn_42_Wire1 : IsFn Try.prog 42 := ⟨_, Try.func42, by kernel_rfl, by kernel_rfl⟩

theorem fn_58_Wire1 : IsFn Try.prog 58 := ⟨_, Try.func58, by kernel_rfl, by kernel_rfl⟩

-- what is written: the text so far, the first error
def wPut (w : DWriterR) (t : ByteArray) : DWriterR := if w.e = 0 then { w with s := w.s ++ t } else w

def wNum (w : DWriterR) (n : Int) : DWriterR := if w.e = 0 ∧ n < 0 then { w with e := 5 } else wPut w (vput n.toNat)

def wDone (w : DWriterR) : ByteArray := if w.e = 0 then w.s else ByteArray.empty

theorem vput_le (n : Nat) : (vput n).size ≤ 9 := by
  have := needsN_le n
  rw [vput_size]; split <;> omega

-- (no (*catena/catenaref02.Writer).Text in this seat)

-- (no (*catena/catenaref02.Writer).Flag in this seat)

-- what is read: the text, the place, the first error
def rBig (r : DReaderR) : DReaderR := if r.e ≠ 0 then r else if (vget r.s r.at_).2.2 ≠ 0 then { r with e := (vget r.s r.at_).2.2 } else { r with at_ := (vget r.s r.at_).2.1 }

def rBigV (r : DReaderR) : Nat := if r.e ≠ 0 then 0 else if (vget r.s r.at_).2.2 ≠ 0 then 0 else (vget r.s r.at_).1

/-- a reading is sound -/
def rdOk (r : DReaderR) : Prop := 0 ≤ r.at_ ∧ r.at_ ≤ (r.s.size : Int) ∧ r.s.size ≤ maxLen ∧ 0 ≤ r.e ∧ r.e ≤ 21

theorem vget_at {s : ByteArray} {a : Int} (h0 : (vget s a).2.2 = 0) : a < (vget s a).2.1 ∧ (vget s a).2.1 ≤ (s.size : Int) ∧ 0 ≤ a := by
  unfold vget at *
  split at h0
  · simp at h0
  · rename_i h1
    rw [if_neg h1]
    split at h0
    · simp at h0
    · rename_i h2
      rw [if_neg h2]
      split at h0
      · rename_i h3
        rw [if_pos h3]; dsimp only; omega
      · rename_i h3
        rw [if_neg h3]
        split at h0
        · simp at h0
        · rename_i h4
          rw [if_neg h4]
          split at h0
          · simp at h0
          · rename_i h5
            rw [if_neg h5]; dsimp only; omega

theorem vget_lt (s : ByteArray) (a : Int) : (vget s a).1 < 18446744073709551616 := by
  unfold vget
  have hb := byteAt_lt s a.toNat
  have hv := beV_lt8 s (a.toNat + 1) (byteAt s a.toNat - 247) (by omega)
  (repeat' split) <;> (dsimp only; omega)

theorem vget_e (s : ByteArray) (a : Int) : 0 ≤ (vget s a).2.2 ∧ (vget s a).2.2 ≤ 4 := by
  unfold vget
  (repeat' split) <;> (dsimp only; omega)

theorem rBig_ok {r : DReaderR} (h : rdOk r) : rdOk (rBig r) := by
  unfold rBig
  split
  · exact h
  · have := vget_e r.s r.at_
    split
    · exact ⟨h.1, h.2.1, h.2.2.1, by show 0 ≤ (vget r.s r.at_).2.2; omega, by show (vget r.s r.at_).2.2 ≤ 21; omega⟩
    · rename_i h1 h2
      obtain ⟨a1, a2, a3⟩ := vget_at (Decidable.not_not.1 h2)
      exact ⟨by show 0 ≤ (vget r.s r.at_).2.1; omega, a2, h.2.2⟩

set_option maxHeartbeats 1000000 in
theorem c_r2_rBig {I D : Dm} (b_rd : Nat) (rd : DReaderR) (w : World) (H : St I D w [BxC b_rd 68 [.string rd.s, .int .i64 rd.at_, .int .i64 rd.e]]) (hr : rdOk rd) :
    Calls Try.prog 42 #[.pointer (some ⟨b_rd, 0, none⟩)] w (Ret fun r w' => r = .int .u64 ((rBigV rd : Nat) : Int) ∧ ∃ I', Hf I D w I' w' [BxC b_rd 68 (cDReaderR (rBig rd))]) := by
  replace H := H.hf
  obtain ⟨hr1, hr2, hr3, hr4, hr5⟩ := hr
  have hml : maxLen = 9223372036854775807 := (by decide)
  refine f_enter 35 Try.func42 rfl rfl (Nat.le_of_ble_eq_true rfl) fun a hok => ?_
  replace hok := hok.sub (ts := [0]) rfl
  refine wp_seq ?_
  refine f_region hok ?_; clear hok; intro hok
  refine s_runk TB_Wire1 hok 1 rfl rfl ?_; clear hok a; intro a hok
  refine s_end hok [0, 2] rfl ?_; clear hok; intro hok
  refine p_then ?_
  refine wp_seq ?_
  refine wp_seq ?_
  refine f_region hok ?_; clear hok; intro hok
  refine s_runk TB_Wire1 hok 3 rfl rfl ?_; clear hok a; intro a hok
  refine s_ob hok (v := .int .i64 rd.e) rfl rfl (by decide) rfl (Ob_load TB_Wire1 rfl rfl rfl ((H.bx 0 rfl).cell 2 rfl)) ?_; clear hok a; intro a hok
  refine s_runk TB_Wire1 hok 1 rfl rfl ?_; clear hok a; intro a hok
  refine s_end hok [0, 2, 10] rfl ?_; clear hok; intro hok
  refine p_then ?_
  refine f_cond hok rfl (fun hc1 => ?_) (fun hc1 => ?_)
  · replace hc1 := bne_iff_ne.1 hc1
    refine wp_seq ?_
    refine f_region hok ?_; clear hok; intro hok
    refine s_runk TB_Wire1 hok 1 rfl rfl ?_; clear hok a; intro a hok
    refine s_end hok [0, 2, 10] rfl ?_; clear hok; intro hok
    refine p_then ?_
    refine wp_ret ?_
    refine p_then_r ?_
    refine f_ret hok (run_results1 rfl hok rfl) ?_
    refine ⟨?_, I, (H.sub [(0, false)] rfl).eq ?_⟩
    · clear hok H
      unfold rBigV; rw [if_pos hc1]; rfl
    · clear hok H
      unfold rBig; rw [if_pos hc1]; rfl
  · replace hc1 := bne_eq_false_iff_eq.1 hc1
    refine wp_skip ?_
    refine p_then ?_
    refine wp_seq ?_
    refine f_quietd (by kernel_rfl) (by kernel_rfl) hok ?_; clear hok; intro hok
    refine q_runk TB_Wire1 hok 3 rfl rfl ?_; clear hok a; intro a hok
    refine q_ob hok (v := .string rd.s) rfl rfl (by decide) rfl (fun _ hw => Ob_load TB_Wire1 rfl rfl rfl (((H.bx 0 rfl).below hw).cell 0 rfl)) ?_; clear hok a; intro a hok
    refine q_runk TB_Wire1 hok 3 rfl rfl ?_; clear hok a; intro a hok
    refine q_ob hok (v := .int .i64 rd.at_) rfl rfl (by decide) rfl (fun _ hw => Ob_load TB_Wire1 rfl rfl rfl (((H.bx 0 rfl).below hw).cell 1 rfl)) ?_; clear hok a; intro a hok
    refine q_call hok (caps := #[]) (v := .tuple #[.int .u64 ((vget rd.s rd.at_).1 : Int), .int .i64 ((vget rd.s rd.at_).2.1), .int .i64 ((vget rd.s rd.at_).2.2)]) fn_58_Wire1 rfl rfl rfl rfl rfl (by decide) rfl rfl (fun _ hw => c_ref01_Get rd.s rd.at_ _ (by first | decide | assumption | (simp only [maxLen]; omega)) (show i64ok rd.at_ by unfold i64ok; omega)) ?_; clear hok a; intro a hok
    refine q_runk TB_Wire1 hok 7 rfl rfl ?_; clear hok a; intro a hok
    refine q_end hok [0, 2, 10, 3, 4, 5] rfl ?_; clear hok; intro w1 hb hok
    replace H := H.blw hb
    clear hb
    refine p_then ?_
    refine wp_seq ?_
    refine wp_seq ?_
    refine f_region hok ?_; clear hok; intro hok
    refine s_runk TB_Wire1 hok 2 rfl rfl ?_; clear hok a; intro a hok
    refine s_end hok [0, 2, 10, 3, 4, 5, 25] rfl ?_; clear hok; intro hok
    refine p_then ?_
    refine f_cond hok rfl (fun hc2 => ?_) (fun hc2 => ?_)
    · replace hc2 := bne_iff_ne.1 hc2
      refine wp_seq ?_
      refine f_region hok ?_; clear hok; intro hok
      refine s_runk TB_Wire1 hok 4 rfl rfl ?_; clear hok a; intro a hok
      refine h_store TB_Wire1 hok H 0 (us := [.int .i64 ((vget rd.s rd.at_).2.2)]) (cl' := [.string rd.s, .int .i64 rd.at_, .int .i64 ((vget rd.s rd.at_).2.2)]) rfl rfl rfl rfl rfl rfl rfl rfl rfl (by simp only [List.mem_cons, List.not_mem_nil, or_false]; rintro u rfl <;> rfl) (Nat.le_of_ble_eq_true rfl) rfl ?_; clear H; intro w2 H
      dsimp only [List.eraseIdx] at H
      refine s_end hok [0, 2, 10, 3, 4, 5, 25] rfl ?_; clear hok; intro hok
      refine p_then ?_
      refine wp_seq ?_
      refine f_region hok ?_; clear hok; intro hok
      refine s_runk TB_Wire1 hok 1 rfl rfl ?_; clear hok a; intro a hok
      refine s_end hok [0, 2, 10, 3, 4, 5, 25] rfl ?_; clear hok; intro hok
      refine p_then ?_
      refine wp_ret ?_
      refine p_then_r ?_
      refine f_ret hok (run_results1 rfl hok rfl) ?_
      refine ⟨?_, I, (H.sub [(0, false)] rfl).eq ?_⟩
      · clear hok H
        unfold rBigV; rw [if_neg (by omega), if_pos hc2]; rfl
      · clear hok H
        unfold rBig; rw [if_neg (by omega), if_pos hc2]; rfl
    · replace hc2 := bne_eq_false_iff_eq.1 hc2
      refine wp_skip ?_
      refine p_then ?_
      refine wp_seq ?_
      refine f_region hok ?_; clear hok; intro hok
      refine s_runk TB_Wire1 hok 4 rfl rfl ?_; clear hok a; intro a hok
      refine h_store TB_Wire1 hok H 0 (us := [.int .i64 ((vget rd.s rd.at_).2.1)]) (cl' := [.string rd.s, .int .i64 ((vget rd.s rd.at_).2.1), .int .i64 rd.e]) rfl rfl rfl rfl rfl rfl rfl rfl rfl (by simp only [List.mem_cons, List.not_mem_nil, or_false]; rintro u rfl <;> rfl) (Nat.le_of_ble_eq_true rfl) rfl ?_; clear H; intro w3 H
      dsimp only [List.eraseIdx] at H
      refine s_end hok [0, 2, 10, 3, 4, 5, 25] rfl ?_; clear hok; intro hok
      refine p_then ?_
      refine wp_seq ?_
      refine f_region hok ?_; clear hok; intro hok
      refine s_runk TB_Wire1 hok 2 rfl rfl ?_; clear hok a; intro a hok
      refine s_end hok [0, 2, 10, 3, 4, 5, 25] rfl ?_; clear hok; intro hok
      refine p_then ?_
      refine wp_ret ?_
      refine f_ret hok (run_results1 rfl hok rfl) ?_
      refine ⟨?_, I, (H.sub [(0, false)] rfl).eq ?_⟩
      · clear hok H
        unfold rBigV; rw [if_neg (by omega), if_neg (by omega)]; rfl
      · clear hok H
        unfold rBig; rw [if_neg (by omega), if_neg (by omega)]; rfl

theorem rBigV_lt (r : DReaderR) : rBigV r < 18446744073709551616 := by
  have := vget_lt r.s r.at_
  unfold rBigV; (repeat' split) <;> omega

theorem rBigV_e {r : DReaderR} (h : (rBig r).e ≠ 0) : rBigV r = 0 := by
  unfold rBig at h; unfold rBigV
  split at h
  · rename_i h1; rw [if_pos h1]
  · rename_i h1; rw [if_neg h1]
    split at h
    · rename_i h2; rw [if_pos h2]
    · rename_i h2; exact absurd h (fun hh => hh (Decidable.not_not.1 h1))

def rNum (r : DReaderR) (most : Int) : DReaderR := if (rBig r).e = 0 ∧ (most < 0 ∨ most < (rBigV r : Int)) then { rBig r with e := 5 } else rBig r

def rNumV (r : DReaderR) (most : Int) : Int := if (rNum r most).e ≠ 0 then 0 else (rBigV r : Int)

set_option maxHeartbeats 1000000 in
theorem c_r2_rNum {I D : Dm} (b_rd : Nat) (rd : DReaderR) (most : Int) (w : World) (h_most : i64ok most) (H : St I D w [BxC b_rd 68 [.string rd.s, .int .i64 rd.at_, .int .i64 rd.e]]) (hr : rdOk rd) :
    Calls Try.prog 41 #[.pointer (some ⟨b_rd, 0, none⟩), .int .i64 most] w (Ret fun r w' => r = .int .i64 (rNumV rd most) ∧ ∃ I', Hf I D w I' w' [BxC b_rd 68 (cDReaderR (rNum rd most))]) := by
  replace H := H.hf
  unfold i64ok at h_most
  have hbv := rBigV_lt rd
  refine f_enter 33 Try.func41 rfl rfl (Nat.le_of_ble_eq_true rfl) fun a hok => ?_
  replace hok := hok.sub (ts := [0, 1]) rfl
  refine wp_seq ?_
  refine f_region hok ?_; clear hok; intro hok
  refine s_runk TB_Wire1 hok 1 rfl rfl ?_; clear hok a; intro a hok
  refine s_end hok [0, 1, 4] rfl ?_; clear hok; intro hok
  refine p_then ?_
  refine wp_seq ?_
  refine f_region hok ?_; clear hok; intro hok
  refine s_runk TB_Wire1 hok 1 rfl rfl ?_; clear hok a; intro a hok
  refine h_call hok H (js := [(0, false)]) rfl (caps := #[]) fn_42_Wire1 rfl rfl rfl rfl rfl (by decide) rfl rfl (fun D1 hS => c_r2_rBig _ rd _ hS hr) ?_; clear hok a H; intro _ a w1 D1 hr hF hok
  obtain ⟨rfl, I1, H⟩ := hr
  replace H : Hf I D w I1 w1 [BxC b_rd 68 [.string ((rBig rd).s), .int .i64 ((rBig rd).at_), .int .i64 ((rBig rd).e)]] := hF H
  clear hF
  refine s_runk TB_Wire1 hok 1 rfl rfl ?_; clear hok a; intro a hok
  refine s_end hok [0, 1, 4, 5] rfl ?_; clear hok; intro hok
  refine p_then ?_
  refine wp_seq ?_
  refine wp_seq ?_
  refine f_region hok ?_; clear hok; intro hok
  refine s_runk TB_Wire1 hok 3 rfl rfl ?_; clear hok a; intro a hok
  refine s_ob hok (v := .int .i64 ((rBig rd).e)) rfl rfl (by decide) rfl (Ob_load TB_Wire1 rfl rfl rfl ((H.bx 0 rfl).cell 2 rfl)) ?_; clear hok a; intro a hok
  refine s_runk TB_Wire1 hok 2 rfl rfl ?_; clear hok a; intro a hok
  refine g_ob hok (p := (((rBig rd).e) == 0)) (v := .int .i64 most) (S' := [(1, .int .i64 most)]) rfl rfl rfl (wantB_t _) rfl (by decide) (fun hp hS => hS.sub (ts := [1]) rfl) (fun _ => Ob_c TB_Wire1 rfl) ?_; clear hok a; intro a hok
  refine g_ob hok (p := (((rBig rd).e) == 0)) (v := .bool (decide (most < 0))) (S' := [(14, .int .i64 most)]) rfl rfl rfl (wantB_t _) rfl (by decide) (fun hp hS => (hS.conv (t := 14) rfl (cond_t hp)).sub (ts := [14]) rfl) (fun _ => Ob_c TB_Wire1 rfl) ?_; clear hok a; intro a hok
  refine g_ob hok (p := (((rBig rd).e) == 0)) (v := .bool (decide (most < 0))) (S' := [(15, .bool (decide (most < 0)))]) rfl rfl rfl (wantB_t _) rfl (by decide) (fun hp hS => (hS.conv (t := 15) rfl (cond_t hp)).sub (ts := [15]) rfl) (fun _ => Ob_c TB_Wire1 rfl) ?_; clear hok a; intro a hok
  refine g_ob hok (p := ((((rBig rd).e) == 0) && (!(decide (most < 0))))) (v := .int .u64 (rBigV rd : Int)) (S' := [(5, .int .u64 (rBigV rd : Int))]) rfl rfl rfl (wantB_cf _ _) rfl (by decide) (fun hp hS => hS.sub (ts := [5]) rfl) (fun _ => Ob_c TB_Wire1 rfl) ?_; clear hok a; intro a hok
  refine g_ob hok (p := ((((rBig rd).e) == 0) && (!(decide (most < 0))))) (v := .int .i64 most) (S' := [(1, .int .i64 most)]) rfl rfl rfl (wantB_cf _ _) rfl (by decide) (fun hp hS => hS.sub (ts := [1]) rfl) (fun _ => Ob_c TB_Wire1 rfl) ?_; clear hok a; intro a hok
  refine g_ob hok (p := ((((rBig rd).e) == 0) && (!(decide (most < 0))))) (v := .int .u64 ((most).toNat : Int)) (S' := [(18, .int .i64 most)]) rfl rfl rfl (wantB_cf _ _) rfl (by decide) (fun hp hS => (hS.conv (t := 18) rfl (cond_t hp)).sub (ts := [18]) rfl) (fun hp => ?_) ?_
  · have hg1 := eq_of_beq (andT1 hp)
    have hg2 := of_decide_eq_false (notT (andT2 hp))
    have hcv1 : ∀ w : World, (convert 3 23 (.int .i64 most)).run Try.prog w = .ok (.int .u64 ((most).toNat : Int)) w := fun w => run_convi Try.underlying3 Try.underlying23 _ _ ((IntWalk.u64_in _ (by omega)).trans (by omega)) w
    exact Ob_conv rfl rfl (hcv1 _)
  clear hok a; intro a hok
  refine g_ob hok (p := ((((rBig rd).e) == 0) && (!(decide (most < 0))))) (v := .bool (decide ((rBigV rd : Int) > ((most).toNat : Int)))) (S' := [(17, .int .u64 (rBigV rd : Int)), (19, .int .u64 ((most).toNat : Int))]) rfl rfl rfl (wantB_cf _ _) rfl (by decide) (fun hp hS => ((hS.conv (t := 17) rfl (cond_t hp)).conv (t := 19) rfl (cond_t hp)).sub (ts := [17, 19]) rfl) (fun _ => Ob_c TB_Wire1 rfl) ?_; clear hok a; intro a hok
  refine g_ob hok (p := (((rBig rd).e) == 0)) (v := .bool ((decide (most < 0)) || (decide ((rBigV rd : Int) > ((most).toNat : Int))))) (S' := [(16, .bool (decide (most < 0))), (20, cond ((((rBig rd).e) == 0) && (!(decide (most < 0)))) (.bool (decide ((rBigV rd : Int) > ((most).toNat : Int)))) undef)]) rfl rfl rfl (wantB_t _) rfl (by decide) (fun hp hS => (hS.conv (t := 16) rfl (cond_t hp)).sub (ts := [16, 20]) rfl) (fun hp => Ob_pick rfl rfl rfl rfl (pick_orp _ _ hp)) ?_; clear hok a; intro a hok
  refine s_ob hok (v := .bool ((((rBig rd).e) == 0) && ((decide (most < 0)) || (decide ((rBigV rd : Int) > ((most).toNat : Int)))))) rfl rfl (by decide) rfl (Ob_pick rfl rfl rfl rfl (pick_and _ _)) ?_; clear hok a; intro a hok
  refine s_end hok [0, 1, 4, 5, 22] rfl ?_; clear hok; intro hok
  refine p_then ?_
  refine f_cond hok rfl (fun hc1 => ?_) (fun hc1 => ?_)
  · replace hc1 := And.intro (eq_of_beq (andT1 hc1)) (orT (andT2 hc1) (fun h => of_decide_eq_true h) (fun h => of_decide_eq_true h))
    refine f_region hok ?_; clear hok; intro hok
    refine s_runk TB_Wire1 hok 3 rfl rfl ?_; clear hok a; intro a hok
    refine h_store TB_Wire1 hok H 0 (us := [.int .i64 5]) (cl' := [.string ((rBig rd).s), .int .i64 ((rBig rd).at_), .int .i64 5]) rfl rfl rfl rfl rfl rfl rfl rfl rfl (by simp only [List.mem_cons, List.not_mem_nil, or_false]; rintro u rfl <;> rfl) (Nat.le_of_ble_eq_true rfl) rfl ?_; clear H; intro w2 H
    dsimp only [List.eraseIdx] at H
    refine s_end hok [0, 1, 4, 5, 22] rfl ?_; clear hok; intro hok
    refine p_then ?_
    refine wp_seq ?_
    refine wp_seq ?_
    refine f_region hok ?_; clear hok; intro hok
    refine s_runk TB_Wire1 hok 3 rfl rfl ?_; clear hok a; intro a hok
    refine s_ob hok (v := .int .i64 5) rfl rfl (by decide) rfl (Ob_load TB_Wire1 rfl rfl rfl ((H.bx 0 rfl).cell 2 rfl)) ?_; clear hok a; intro a hok
    refine s_runk TB_Wire1 hok 1 rfl rfl ?_; clear hok a; intro a hok
    refine s_end hok [0, 1, 4, 5, 22, 30] rfl ?_; clear hok; intro hok
    refine p_then ?_
    refine wp_cond_true (hok.ev rfl) ?_
    refine wp_seq ?_
    refine f_region hok ?_; clear hok; intro hok
    refine s_runk TB_Wire1 hok 1 rfl rfl ?_; clear hok a; intro a hok
    refine s_end hok [0, 1, 4, 5, 22, 30] rfl ?_; clear hok; intro hok
    refine p_then ?_
    refine wp_ret ?_
    refine p_then_r ?_
    refine f_ret hok (run_results1 rfl hok rfl) ?_
    refine ⟨?_, I1, (H.sub [(0, false)] rfl).eq ?_⟩
    · clear hok H
      have e1 : rNum rd most = { rBig rd with e := 5 } := (if_pos ⟨hc1.1, by rcases hc1.2 with h | h <;> omega⟩); unfold rNumV; rw [e1, if_pos (by show (5 : Int) ≠ 0; decide)]
    · clear hok H
      have e1 : rNum rd most = { rBig rd with e := 5 } := (if_pos ⟨hc1.1, by rcases hc1.2 with h | h <;> omega⟩); rw [e1]; rfl
  · replace hc1 := andF hc1 (fun h => ne_of_beq_false h) (fun h => And.intro (of_decide_eq_false (orF1 h)) (of_decide_eq_false (orF2 h)))
    refine wp_skip ?_
    refine p_then ?_
    refine wp_seq ?_
    refine wp_seq ?_
    refine f_region hok ?_; clear hok; intro hok
    refine s_runk TB_Wire1 hok 3 rfl rfl ?_; clear hok a; intro a hok
    refine s_ob hok (v := .int .i64 ((rBig rd).e)) rfl rfl (by decide) rfl (Ob_load TB_Wire1 rfl rfl rfl ((H.bx 0 rfl).cell 2 rfl)) ?_; clear hok a; intro a hok
    refine s_runk TB_Wire1 hok 1 rfl rfl ?_; clear hok a; intro a hok
    refine s_end hok [0, 1, 4, 5, 22, 30] rfl ?_; clear hok; intro hok
    refine p_then ?_
    refine f_cond hok rfl (fun hc2 => ?_) (fun hc2 => ?_)
    · replace hc2 := bne_iff_ne.1 hc2
      refine wp_seq ?_
      refine f_region hok ?_; clear hok; intro hok
      refine s_runk TB_Wire1 hok 1 rfl rfl ?_; clear hok a; intro a hok
      refine s_end hok [0, 1, 4, 5, 22, 30] rfl ?_; clear hok; intro hok
      refine p_then ?_
      refine wp_ret ?_
      refine p_then_r ?_
      refine f_ret hok (run_results1 rfl hok rfl) ?_
      refine ⟨?_, I1, (H.sub [(0, false)] rfl).eq ?_⟩
      · clear hok H
        have e1 : rNum rd most = rBig rd := (if_neg fun h => hc2 h.1); unfold rNumV; rw [e1, if_pos hc2]
      · clear hok H
        have e1 : rNum rd most = rBig rd := (if_neg fun h => hc2 h.1); rw [e1]; rfl
    · replace hc2 := bne_eq_false_iff_eq.1 hc2
      refine wp_skip ?_
      refine p_then ?_
      refine wp_seq ?_
      refine f_region hok ?_; clear hok; intro hok
      refine s_runk TB_Wire1 hok 1 rfl rfl ?_; clear hok a; intro a hok
      have hcv2 : ∀ w : World, (convert 23 3 (.int .u64 (rBigV rd : Int))).run Try.prog w = .ok (.int .i64 (rBigV rd : Int)) w := fun w => run_convi Try.underlying23 Try.underlying3 _ _ (IntWalk.i64_in _ (by omega)) w
      refine s_ob hok (v := .int .i64 (rBigV rd : Int)) rfl rfl (by decide) rfl (Ob_conv rfl rfl (hcv2 _)) ?_; clear hok a; intro a hok
      refine s_runk TB_Wire1 hok 1 rfl rfl ?_; clear hok a; intro a hok
      refine s_end hok [0, 1, 4, 5, 22, 30] rfl ?_; clear hok; intro hok
      refine p_then ?_
      refine wp_ret ?_
      refine f_ret hok (run_results1 rfl hok rfl) ?_
      refine ⟨?_, I1, (H.sub [(0, false)] rfl).eq ?_⟩
      · clear hok H
        have e1 : rNum rd most = rBig rd := (if_neg fun h => by rcases hc1 with h' | h'; (exact h' h.1); omega); unfold rNumV; rw [e1, if_neg (by omega)]
      · clear hok H
        have e1 : rNum rd most = rBig rd := (if_neg fun h => by rcases hc1 with h' | h'; (exact h' h.1); omega); rw [e1]; rfl

theorem rNum_ok {r : DReaderR} {most : Int} (h : rdOk r) : rdOk (rNum r most) := by
  unfold rNum
  split
  · have := rBig_ok h; exact ⟨this.1, this.2.1, this.2.2.1, by show (0 : Int) ≤ 5; decide, by show (5 : Int) ≤ 21; decide⟩
  · exact rBig_ok h

-- (no (*catena/catenaref02.Reader).Text in this seat)

-- (no (*catena/catenaref02.Reader).Flag in this seat)

def rLeft (r : DReaderR) : Int := if r.e ≠ 0 then 0 else (r.s.size : Int) - r.at_

def rEnd (r : DReaderR) : Int := if r.e = 0 ∧ r.at_ < (r.s.size : Int) then 4 else r.e

-- (no (*catena/catenaref02.Reader).Left in this seat)

set_option maxHeartbeats 1000000 in
theorem c_r2_rEnd {I D : Dm} (b_rd : Nat) (rd : DReaderR) (w : World) (H : St I D w [BxC b_rd 68 [.string rd.s, .int .i64 rd.at_, .int .i64 rd.e]]) (hr : rdOk rd) :
    Calls Try.prog 43 #[.pointer (some ⟨b_rd, 0, none⟩)] w (Ret fun r w' => r = .int .i64 (rEnd rd) ∧ ∃ I', Hf I D w I' w' [BxC b_rd 68 (cDReaderR rd)]) := by
  replace H := H.hf
  obtain ⟨hr1, hr2, hr3, hr4, hr5⟩ := hr
  have hml : maxLen = 9223372036854775807 := (by decide)
  refine f_enter 24 Try.func43 rfl rfl (Nat.le_of_ble_eq_true rfl) fun a hok => ?_
  replace hok := hok.sub (ts := [0]) rfl
  refine wp_seq ?_
  refine f_region hok ?_; clear hok; intro hok
  refine s_runk TB_Wire1 hok 1 rfl rfl ?_; clear hok a; intro a hok
  refine s_end hok [0, 2] rfl ?_; clear hok; intro hok
  refine p_then ?_
  refine wp_seq ?_
  refine wp_seq ?_
  refine f_quietd (by kernel_rfl) (by kernel_rfl) hok ?_; clear hok; intro hok
  refine q_runk TB_Wire1 hok 3 rfl rfl ?_; clear hok a; intro a hok
  refine q_ob hok (v := .int .i64 rd.e) rfl rfl (by decide) rfl (fun _ hw => Ob_load TB_Wire1 rfl rfl rfl (((H.bx 0 rfl).below hw).cell 2 rfl)) ?_; clear hok a; intro a hok
  refine q_runk TB_Wire1 hok 2 rfl rfl ?_; clear hok a; intro a hok
  refine gq_ob hok (p := (rd.e == 0)) (v := .pointer (some ⟨b_rd, 0, none⟩)) (S' := [(0, .pointer (some ⟨b_rd, 0, none⟩))]) rfl rfl rfl (wantB_t _) rfl (by decide) (fun hp hS => hS.sub (ts := [0]) rfl) (fun _ => fun _ _ => Ob_c TB_Wire1 rfl) ?_; clear hok a; intro a hok
  refine gq_ob hok (p := (rd.e == 0)) (v := .pointer (some ⟨b_rd, 0, none⟩)) (S' := [(9, .pointer (some ⟨b_rd, 0, none⟩))]) rfl rfl rfl (wantB_t _) rfl (by decide) (fun hp hS => (hS.conv (t := 9) rfl (cond_t hp)).sub (ts := [9]) rfl) (fun _ => fun _ _ => Ob_c TB_Wire1 rfl) ?_; clear hok a; intro a hok
  refine gq_ob hok (p := (rd.e == 0)) (v := .pointer (some ⟨b_rd, 1, none⟩)) (S' := [(10, .pointer (some ⟨b_rd, 0, none⟩))]) rfl rfl rfl (wantB_t _) rfl (by decide) (fun hp hS => (hS.conv (t := 10) rfl (cond_t hp)).sub (ts := [10]) rfl) (fun _ => fun _ _ => Ob_c TB_Wire1 rfl) ?_; clear hok a; intro a hok
  refine gq_ob hok (p := (rd.e == 0)) (v := .int .i64 rd.at_) (S' := [(11, .pointer (some ⟨b_rd, 1, none⟩))]) rfl rfl rfl (wantB_t _) rfl (by decide) (fun hp hS => (hS.conv (t := 11) rfl (cond_t hp)).sub (ts := [11]) rfl) (fun hp => ?_) ?_
  · have hg1 := eq_of_beq hp
    exact fun _ hw => Ob_load TB_Wire1 rfl rfl rfl (((H.bx 0 rfl).below hw).cell 1 rfl)
  clear hok a; intro a hok
  refine gq_ob hok (p := (rd.e == 0)) (v := .pointer (some ⟨b_rd, 0, none⟩)) (S' := [(0, .pointer (some ⟨b_rd, 0, none⟩))]) rfl rfl rfl (wantB_t _) rfl (by decide) (fun hp hS => hS.sub (ts := [0]) rfl) (fun _ => fun _ _ => Ob_c TB_Wire1 rfl) ?_; clear hok a; intro a hok
  refine gq_ob hok (p := (rd.e == 0)) (v := .pointer (some ⟨b_rd, 0, none⟩)) (S' := [(13, .pointer (some ⟨b_rd, 0, none⟩))]) rfl rfl rfl (wantB_t _) rfl (by decide) (fun hp hS => (hS.conv (t := 13) rfl (cond_t hp)).sub (ts := [13]) rfl) (fun _ => fun _ _ => Ob_c TB_Wire1 rfl) ?_; clear hok a; intro a hok
  refine gq_ob hok (p := (rd.e == 0)) (v := .pointer (some ⟨b_rd, 0, none⟩)) (S' := [(14, .pointer (some ⟨b_rd, 0, none⟩))]) rfl rfl rfl (wantB_t _) rfl (by decide) (fun hp hS => (hS.conv (t := 14) rfl (cond_t hp)).sub (ts := [14]) rfl) (fun _ => fun _ _ => Ob_c TB_Wire1 rfl) ?_; clear hok a; intro a hok
  refine gq_ob hok (p := (rd.e == 0)) (v := .string rd.s) (S' := [(15, .pointer (some ⟨b_rd, 0, none⟩))]) rfl rfl rfl (wantB_t _) rfl (by decide) (fun hp hS => (hS.conv (t := 15) rfl (cond_t hp)).sub (ts := [15]) rfl) (fun hp => ?_) ?_
  · have hg2 := eq_of_beq hp
    exact fun _ hw => Ob_load TB_Wire1 rfl rfl rfl (((H.bx 0 rfl).below hw).cell 0 rfl)
  clear hok a; intro a hok
  refine gq_ob hok (p := (rd.e == 0)) (v := .int .i64 (rd.s.size : Int)) (S' := [(16, .string rd.s)]) rfl rfl rfl (wantB_t _) rfl (by decide) (fun hp hS => (hS.conv (t := 16) rfl (cond_t hp)).sub (ts := [16]) rfl) (fun _ => fun _ _ => Ob_c TB_Wire1 rfl) ?_; clear hok a; intro a hok
  refine gq_ob hok (p := (rd.e == 0)) (v := .bool (decide (rd.at_ < (rd.s.size : Int)))) (S' := [(12, .int .i64 rd.at_), (17, .int .i64 (rd.s.size : Int))]) rfl rfl rfl (wantB_t _) rfl (by decide) (fun hp hS => ((hS.conv (t := 12) rfl (cond_t hp)).conv (t := 17) rfl (cond_t hp)).sub (ts := [12, 17]) rfl) (fun _ => fun _ _ => Ob_c TB_Wire1 rfl) ?_; clear hok a; intro a hok
  refine q_ob hok (v := .bool ((rd.e == 0) && (decide (rd.at_ < (rd.s.size : Int))))) rfl rfl (by decide) rfl (fun _ _ => Ob_pick rfl rfl rfl rfl (pick_and _ _)) ?_; clear hok a; intro a hok
  refine q_end hok [0, 2, 19] rfl ?_; clear hok; intro w1 hb hok
  replace H := H.blw hb
  clear hb
  refine p_then ?_
  refine f_cond hok rfl (fun hc1 => ?_) (fun hc1 => ?_)
  · replace hc1 := And.intro (eq_of_beq (andT1 hc1)) (of_decide_eq_true (andT2 hc1))
    refine wp_seq ?_
    refine f_region hok ?_; clear hok; intro hok
    refine s_runk TB_Wire1 hok 1 rfl rfl ?_; clear hok a; intro a hok
    refine s_end hok [0, 2, 19] rfl ?_; clear hok; intro hok
    refine p_then ?_
    refine wp_ret ?_
    refine p_then_r ?_
    refine f_ret hok (run_results1 rfl hok rfl) ?_
    refine ⟨?_, I, (H.sub [(0, false)] rfl).eq ?_⟩
    · clear hok H
      (unfold rEnd; (repeat' split) <;> first | rfl | (exfalso; omega) | grind)
    · clear hok H
      rfl
  · replace hc1 := andF hc1 (fun h => ne_of_beq_false h) (fun h => of_decide_eq_false h)
    refine wp_skip ?_
    refine p_then ?_
    refine wp_seq ?_
    refine f_region hok ?_; clear hok; intro hok
    refine s_runk TB_Wire1 hok 3 rfl rfl ?_; clear hok a; intro a hok
    refine s_ob hok (v := .int .i64 rd.e) rfl rfl (by decide) rfl (Ob_load TB_Wire1 rfl rfl rfl ((H.bx 0 rfl).cell 2 rfl)) ?_; clear hok a; intro a hok
    refine s_runk TB_Wire1 hok 1 rfl rfl ?_; clear hok a; intro a hok
    refine s_end hok [0, 2, 19] rfl ?_; clear hok; intro hok
    refine p_then ?_
    refine wp_ret ?_
    refine f_ret hok (run_results1 rfl hok rfl) ?_
    refine ⟨?_, I, (H.sub [(0, false)] rfl).eq ?_⟩
    · clear hok H
      (unfold rEnd; (repeat' split) <;> first | rfl | (exfalso; omega) | grind)
    · clear hok H
      rfl

end Go.Proofs.Ytnkieaolhbmfpaa
