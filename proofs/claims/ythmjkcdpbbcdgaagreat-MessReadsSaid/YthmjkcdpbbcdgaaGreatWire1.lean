/- The walks of the reference of 'wire': what writes and what reads parts of a message. -/
import Derived.Test.YthmjkcdpbbcdgaaGreatVarnum
namespace Go.Proofs.YthmjkcdpbbcdgaaGreat
open Go.RowKit

structure DWriterR where
 s : ByteArray
 e : Int

instance : Inhabited DWriterR := ⟨⟨ByteArray.empty, 0⟩⟩

instance : DecidableEq DWriterR := fun x y => by cases x; cases y; simp only [DWriterR.mk.injEq]; infer_instance

def okDWriterR (x : DWriterR) : Prop := x.s.size ≤ maxLen ∧ i64ok x.e

def cDWriterR (x : DWriterR) : List Value := [.string x.s, .int .i64 x.e]

def RDWriterR : Rp DWriterR := Rp.flat 2 okDWriterR (fun x => cDWriterR x) (fun _ => rfl) (fun x c hc => by simp only [cDWriterR, List.mem_cons, List.not_mem_nil, or_false] at hc; rcases hc with rfl | rfl <;> rfl)

structure DReaderR where
 s : ByteArray
 at_ : Int
 e : Int

instance : Inhabited DReaderR := ⟨⟨ByteArray.empty, 0, 0⟩⟩

instance : DecidableEq DReaderR := fun x y => by cases x; cases y; simp only [DReaderR.mk.injEq]; infer_instance

def cDReaderR (x : DReaderR) : List Value := [.string x.s, .int .i64 x.at_, .int .i64 x.e]

structure DReader where
 s : ByteArray
 at_ : Int
 e : Int
 made : Bool

instance : Inhabited DReader := ⟨⟨ByteArray.empty, 0, 0, false⟩⟩

instance : DecidableEq DReader := fun x y => by cases x; cases y; simp only [DReader.mk.injEq]; infer_instance

def cDReader (x : DReader) : List Value := [.string x.s, .int .i64 x.at_, .int .i64 x.e, .bool x.made]

def TB_Wire1L : TabL := ⟨[(62464, 0), (62465, 1), (62466, 2), (79872, 0), (79873, 1)], [9], [], [], [(3, (1, false)), (9, (1, false))]⟩

def TB_Wire1 : Tab Tryz.prog := ⟨TB_Wire1L, by kernel_rfl⟩

theorem fn_68_Wire1 : IsFn Tryz.prog 68 := ⟨_, Tryz.func68, by kernel_rfl, by kernel_rfl⟩

theorem fn_111_Wire1 : IsFn Tryz.prog 111 := ⟨_, Tryz.func111, by kernel_rfl, by kernel_rfl⟩

-- what is written: the text so far, the first error
def wPut (w : DWriterR) (t : ByteArray) : DWriterR := if w.e = 0 then { w with s := w.s ++ t } else w

def wNum (w : DWriterR) (n : Int) : DWriterR := if w.e = 0 ∧ n < 0 then { w with e := 5 } else wPut w (vput n.toNat)

def wText (w : DWriterR) (t : ByteArray) : DWriterR := wPut w (vput t.size ++ t)

def wDone (w : DWriterR) : ByteArray := if w.e = 0 then w.s else ByteArray.empty

theorem vput_le (n : Nat) : (vput n).size ≤ 9 := by
 have := needsN_le n
 rw [vput_size]; split <;> omega

-- what is read: the text, the place, the first error
def rBig (r : DReaderR) : DReaderR := if r.e ≠ 0 then r else if (vget r.s r.at_).2.2 ≠ 0 then { r with e := (vget r.s r.at_).2.2 } else { r with at_ := (vget r.s r.at_).2.1 }

def rBigV (r : DReaderR) : Nat := if r.e ≠ 0 then 0 else if (vget r.s r.at_).2.2 ≠ 0 then 0 else (vget r.s r.at_).1

/-- a reading is sound -/
def rdOk (r : DReaderR) : Prop := 0 ≤ r.at_ ∧ r.at_ ≤ (r.s.size : Int) ∧ r.s.size ≤ maxLen ∧ 0 ≤ r.e ∧ r.e ≤ 21

theorem vget_at {s : ByteArray} {a : Int} (h0 : (vget s a).2.2 = 0) : a < (vget s a).2.1 ∧ (vget s a).2.1 ≤ (s.size : Int) ∧ 0 ≤ a := by
 unfold vget at *
 split at h0
 ·simp at h0
 ·rename_i h1
  rw [if_neg h1]
  split at h0
  ·simp at h0
  ·rename_i h2
   rw [if_neg h2]
   split at h0
   ·rename_i h3
    rw [if_pos h3]; dsimp only; omega
   ·rename_i h3
    rw [if_neg h3]
    split at h0
    ·simp at h0
    ·rename_i h4
     rw [if_neg h4]
     split at h0
     ·simp at h0
     ·rename_i h5
      rw [if_neg h5]; dsimp only; omega

theorem vget_lt (s : ByteArray) (a : Int) : (vget s a).1 < 18446744073709551616 := by
 unfold vget
 have hb := byteAt_lt s a.toNat
 have hv := beV_lt8 s (a.toNat + 1) (byteAt s a.toNat - 247) (by omega)
 (repeat' split) <;> (dsimp only; omega)

theorem vget_e (s : ByteArray) (a : Int) : 0 ≤ (vget s a).2.2 ∧ (vget s a).2.2 ≤ 4 := by
 unfold vget
 (repeat' split) <;> (dsimp only; omega)

theorem rBig_ok {r : DReaderR} (h : rdOk r) : rdOk (rBig r) := by
 unfold rBig
 split
 ·exact h
 ·have := vget_e r.s r.at_
  split
  ·exact ⟨h.1, h.2.1, h.2.2.1, by show 0 ≤ (vget r.s r.at_).2.2; omega, by show (vget r.s r.at_).2.2 ≤ 21; omega⟩
  ·rename_i h1 h2
   obtain ⟨a1, a2, a3⟩ := vget_at (Decidable.not_not.1 h2)
   exact ⟨by show 0 ≤ (vget r.s r.at_).2.1; omega, a2, h.2.2⟩

set_option maxHeartbeats 1000000 in
theorem c_r2_rBig {I D : Dm} (b_rd : Nat) (rd : DReaderR) (w : World) (H : St I D w [BxC b_rd 61 [.string rd.s, .int .i64 rd.at_, .int .i64 rd.e]]) (hr : rdOk rd) :
  Calls Tryz.prog 68 #[.pointer (some ⟨b_rd, 0, none⟩)] w (Ret fun r w' => r = .int .u64 ((rBigV rd : Nat) : Int) ∧ ∃ I', Hf I D w I' w' [BxC b_rd 61 (cDReaderR (rBig rd))]) := by
 replace H := H.hf
 obtain ⟨hr1, hr2, hr3, hr4, hr5⟩ := hr
 have hml : maxLen = 9223372036854775807 := (by decide)
 refine f_enter 35 Tryz.func68 rfl rfl (Nat.le_of_ble_eq_true rfl) fun a hok => ?_
 replace hok := hok.sub (ts := [0]) rfl
 refine wp_seq (f_region hok ?_); clear hok; intro hok
 refine s_runk TB_Wire1 hok 1 rfl rfl ?_; clear hok a; intro a hok
 refine s_end hok [0, 2] rfl ?_; clear hok; intro hok
 refine p_then (wp_seq ?_)
 refine wp_seq (f_region hok ?_); clear hok; intro hok
 refine s_runk TB_Wire1 hok 3 rfl rfl ?_; clear hok a; intro a hok
 refine s_ob hok (v := .int .i64 rd.e) rfl rfl (by decide) rfl (Ob_load TB_Wire1 rfl rfl rfl ((H.bx 0 rfl).cell 2 rfl)) ?_; clear hok a; intro a hok
 refine s_runk TB_Wire1 hok 1 rfl rfl ?_; clear hok a; intro a hok
 refine s_end hok [0, 2, 10] rfl ?_; clear hok; intro hok
 refine p_then ?_
 refine f_cond hok rfl (fun hc1 => ?_) (fun hc1 => ?_)
 ·replace hc1 := bne_iff_ne.1 hc1
  refine wp_seq (f_region hok ?_); clear hok; intro hok
  refine s_runk TB_Wire1 hok 1 rfl rfl ?_; clear hok a; intro a hok
  refine s_end hok [0, 2, 10] rfl ?_; clear hok; intro hok
  refine p_then (wp_ret ?_)
  refine p_then_r ?_
  refine f_ret hok (run_results1 rfl hok rfl) ?_
  refine ⟨?_, I, (H.sub [(0, false)] rfl).eq ?_⟩
  ·clear hok H
   unfold rBigV; rw [if_pos hc1]; rfl
  ·clear hok H
   unfold rBig; rw [if_pos hc1]; rfl
 ·replace hc1 := bne_eq_false_iff_eq.1 hc1
  refine wp_skip ?_
  refine p_then (wp_seq ?_)
  refine f_quietd (by kernel_rfl) (by kernel_rfl) hok ?_; clear hok; intro hok
  refine q_runk TB_Wire1 hok 3 rfl rfl ?_; clear hok a; intro a hok
  refine q_ob hok (v := .string rd.s) rfl rfl (by decide) rfl (fun _ hw => Ob_load TB_Wire1 rfl rfl rfl (((H.bx 0 rfl).below hw).cell 0 rfl)) ?_; clear hok a; intro a hok
  refine q_runk TB_Wire1 hok 3 rfl rfl ?_; clear hok a; intro a hok
  refine q_ob hok (v := .int .i64 rd.at_) rfl rfl (by decide) rfl (fun _ hw => Ob_load TB_Wire1 rfl rfl rfl (((H.bx 0 rfl).below hw).cell 1 rfl)) ?_; clear hok a; intro a hok
  refine q_call hok (caps := #[]) (v := .tuple #[.int .u64 ((vget rd.s rd.at_).1 : Int), .int .i64 ((vget rd.s rd.at_).2.1), .int .i64 ((vget rd.s rd.at_).2.2)]) fn_111_Wire1 rfl rfl rfl rfl rfl (by decide) rfl rfl (fun _ hw => c_ref01_Get rd.s rd.at_ _ (by first | decide | assumption | (simp only [maxLen]; omega)) (show i64ok rd.at_ by unfold i64ok; omega)) ?_; clear hok a; intro a hok
  refine q_runk TB_Wire1 hok 7 rfl rfl ?_; clear hok a; intro a hok
  refine q_end hok [0, 2, 10, 3, 4, 5] rfl ?_; clear hok; intro w1 hb hok
  replace H := H.blw hb
  clear hb
  refine p_then (wp_seq ?_)
  refine wp_seq (f_region hok ?_); clear hok; intro hok
  refine s_runk TB_Wire1 hok 2 rfl rfl ?_; clear hok a; intro a hok
  refine s_end hok [0, 2, 10, 3, 4, 5, 25] rfl ?_; clear hok; intro hok
  refine p_then ?_
  refine f_cond hok rfl (fun hc2 => ?_) (fun hc2 => ?_)
  ·replace hc2 := bne_iff_ne.1 hc2
   refine wp_seq (f_region hok ?_); clear hok; intro hok
   refine s_runk TB_Wire1 hok 4 rfl rfl ?_; clear hok a; intro a hok
   refine h_store TB_Wire1 hok H 0 (us := [.int .i64 ((vget rd.s rd.at_).2.2)]) (cl' := [.string rd.s, .int .i64 rd.at_, .int .i64 ((vget rd.s rd.at_).2.2)]) rfl rfl rfl rfl rfl rfl rfl rfl rfl (by simp only [List.mem_cons, List.not_mem_nil, or_false]; rintro u rfl <;> rfl) (Nat.le_of_ble_eq_true rfl) rfl ?_; clear H; intro w2 H
   dsimp only [List.eraseIdx] at H
   refine s_end hok [0, 2, 10, 3, 4, 5, 25] rfl ?_; clear hok; intro hok
   refine p_then (wp_seq (f_region hok ?_)); clear hok; intro hok
   refine s_runk TB_Wire1 hok 1 rfl rfl ?_; clear hok a; intro a hok
   refine s_end hok [0, 2, 10, 3, 4, 5, 25] rfl ?_; clear hok; intro hok
   refine p_then (wp_ret ?_)
   refine p_then_r ?_
   refine f_ret hok (run_results1 rfl hok rfl) ?_
   refine ⟨?_, I, (H.sub [(0, false)] rfl).eq ?_⟩
   ·clear hok H
    unfold rBigV; rw [if_neg (by omega), if_pos hc2]; rfl
   ·clear hok H
    unfold rBig; rw [if_neg (by omega), if_pos hc2]; rfl
  ·replace hc2 := bne_eq_false_iff_eq.1 hc2
   refine wp_skip ?_
   refine p_then (wp_seq (f_region hok ?_)); clear hok; intro hok
   refine s_runk TB_Wire1 hok 4 rfl rfl ?_; clear hok a; intro a hok
   refine h_store TB_Wire1 hok H 0 (us := [.int .i64 ((vget rd.s rd.at_).2.1)]) (cl' := [.string rd.s, .int .i64 ((vget rd.s rd.at_).2.1), .int .i64 rd.e]) rfl rfl rfl rfl rfl rfl rfl rfl rfl (by simp only [List.mem_cons, List.not_mem_nil, or_false]; rintro u rfl <;> rfl) (Nat.le_of_ble_eq_true rfl) rfl ?_; clear H; intro w3 H
   dsimp only [List.eraseIdx] at H
   refine s_end hok [0, 2, 10, 3, 4, 5, 25] rfl ?_; clear hok; intro hok
   refine p_then (wp_seq (f_region hok ?_)); clear hok; intro hok
   refine s_runk TB_Wire1 hok 2 rfl rfl ?_; clear hok a; intro a hok
   refine s_end hok [0, 2, 10, 3, 4, 5, 25] rfl ?_; clear hok; intro hok
   refine p_then (wp_ret ?_)
   refine f_ret hok (run_results1 rfl hok rfl) ?_
   refine ⟨?_, I, (H.sub [(0, false)] rfl).eq ?_⟩
   ·clear hok H
    unfold rBigV; rw [if_neg (by omega), if_neg (by omega)]; rfl
   ·clear hok H
    unfold rBig; rw [if_neg (by omega), if_neg (by omega)]; rfl

theorem rBigV_lt (r : DReaderR) : rBigV r < 18446744073709551616 := by
 have := vget_lt r.s r.at_
 unfold rBigV; (repeat' split) <;> omega

theorem rBigV_e {r : DReaderR} (h : (rBig r).e ≠ 0) : rBigV r = 0 := by
 unfold rBig at h; unfold rBigV
 split at h
 ·rename_i h1; rw [if_pos h1]
 ·rename_i h1; rw [if_neg h1]
  split at h
  ·rename_i h2; rw [if_pos h2]
  ·rename_i h2; exact absurd h (fun hh => hh (Decidable.not_not.1 h1))

def rNum (r : DReaderR) (most : Int) : DReaderR := if (rBig r).e = 0 ∧ (most < 0 ∨ most < (rBigV r : Int)) then { rBig r with e := 5 } else rBig r

def rNumV (r : DReaderR) (most : Int) : Int := if (rNum r most).e ≠ 0 then 0 else (rBigV r : Int)

set_option maxHeartbeats 1000000 in
theorem c_r2_rNum {I D : Dm} (b_rd : Nat) (rd : DReaderR) (most : Int) (w : World) (h_most : i64ok most) (H : St I D w [BxC b_rd 61 [.string rd.s, .int .i64 rd.at_, .int .i64 rd.e]]) (hr : rdOk rd) :
  Calls Tryz.prog 25 #[.pointer (some ⟨b_rd, 0, none⟩), .int .i64 most] w (Ret fun r w' => r = .int .i64 (rNumV rd most) ∧ ∃ I', Hf I D w I' w' [BxC b_rd 61 (cDReaderR (rNum rd most))]) := by
 replace H := H.hf
 unfold i64ok at h_most
 have hbv := rBigV_lt rd
 refine f_enter 33 Tryz.func25 rfl rfl (Nat.le_of_ble_eq_true rfl) fun a hok => ?_
 replace hok := hok.sub (ts := [0, 1]) rfl
 refine wp_seq (f_region hok ?_); clear hok; intro hok
 refine s_runk TB_Wire1 hok 1 rfl rfl ?_; clear hok a; intro a hok
 refine s_end hok [0, 1, 4] rfl ?_; clear hok; intro hok
 refine p_then (wp_seq (f_region hok ?_)); clear hok; intro hok
 refine s_runk TB_Wire1 hok 1 rfl rfl ?_; clear hok a; intro a hok
 refine h_call hok H (js := [(0, false)]) rfl (caps := #[]) fn_68_Wire1 rfl rfl rfl rfl rfl (by decide) rfl rfl (fun D1 hS => c_r2_rBig _ rd _ hS hr) ?_; clear hok a H; intro _ a w1 D1 hr hF hok
 obtain ⟨rfl, I1, H⟩ := hr
 replace H : Hf I D w I1 w1 [BxC b_rd 61 [.string ((rBig rd).s), .int .i64 ((rBig rd).at_), .int .i64 ((rBig rd).e)]] := hF H
 clear hF
 refine s_runk TB_Wire1 hok 1 rfl rfl ?_; clear hok a; intro a hok
 refine s_end hok [0, 1, 4, 5] rfl ?_; clear hok; intro hok
 refine p_then (wp_seq ?_)
 refine wp_seq (f_region hok ?_); clear hok; intro hok
 refine s_runk TB_Wire1 hok 3 rfl rfl ?_; clear hok a; intro a hok
 refine s_ob hok (v := .int .i64 ((rBig rd).e)) rfl rfl (by decide) rfl (Ob_load TB_Wire1 rfl rfl rfl ((H.bx 0 rfl).cell 2 rfl)) ?_; clear hok a; intro a hok
 refine s_runk TB_Wire1 hok 2 rfl rfl ?_; clear hok a; intro a hok
 refine g_ob hok (p := (((rBig rd).e) == 0)) (v := .int .i64 most) (S' := [(1, .int .i64 most)]) rfl rfl rfl (wantB_t _) rfl (by decide) (fun hp hS => hS.sub (ts := [1]) rfl) (fun _ => Ob_c TB_Wire1 rfl) ?_; clear hok a; intro a hok
 refine g_ob hok (p := (((rBig rd).e) == 0)) (v := .bool (decide (most < 0))) (S' := [(14, .int .i64 most)]) rfl rfl rfl (wantB_t _) rfl (by decide) (fun hp hS => (hS.conv (t := 14) rfl (cond_t hp)).sub (ts := [14]) rfl) (fun _ => Ob_c TB_Wire1 rfl) ?_; clear hok a; intro a hok
 refine g_ob hok (p := (((rBig rd).e) == 0)) (v := .bool (decide (most < 0))) (S' := [(15, .bool (decide (most < 0)))]) rfl rfl rfl (wantB_t _) rfl (by decide) (fun hp hS => (hS.conv (t := 15) rfl (cond_t hp)).sub (ts := [15]) rfl) (fun _ => Ob_c TB_Wire1 rfl) ?_; clear hok a; intro a hok
 refine g_ob hok (p := ((((rBig rd).e) == 0) && (!(decide (most < 0))))) (v := .int .u64 (rBigV rd : Int)) (S' := [(5, .int .u64 (rBigV rd : Int))]) rfl rfl rfl (wantB_cf _ _) rfl (by decide) (fun hp hS => hS.sub (ts := [5]) rfl) (fun _ => Ob_c TB_Wire1 rfl) ?_; clear hok a; intro a hok
 refine g_ob hok (p := ((((rBig rd).e) == 0) && (!(decide (most < 0))))) (v := .int .i64 most) (S' := [(1, .int .i64 most)]) rfl rfl rfl (wantB_cf _ _) rfl (by decide) (fun hp hS => hS.sub (ts := [1]) rfl) (fun _ => Ob_c TB_Wire1 rfl) ?_; clear hok a; intro a hok
 refine g_ob hok (p := ((((rBig rd).e) == 0) && (!(decide (most < 0))))) (v := .int .u64 ((most).toNat : Int)) (S' := [(18, .int .i64 most)]) rfl rfl rfl (wantB_cf _ _) rfl (by decide) (fun hp hS => (hS.conv (t := 18) rfl (cond_t hp)).sub (ts := [18]) rfl) (fun hp => ?_) ?_
 ·have hg1 := eq_of_beq (andT1 hp)
  have hg2 := of_decide_eq_false (notT (andT2 hp))
  have hcv1 : ∀ w : World, (convert 3 23 (.int .i64 most)).run Tryz.prog w = .ok (.int .u64 ((most).toNat : Int)) w := fun w => run_convi Tryz.underlying3 Tryz.underlying23 _ _ ((IntWalk.u64_in _ (by omega)).trans (by omega)) w
  exact Ob_conv rfl rfl (hcv1 _)
 clear hok a; intro a hok
 refine g_ob hok (p := ((((rBig rd).e) == 0) && (!(decide (most < 0))))) (v := .bool (decide ((rBigV rd : Int) > ((most).toNat : Int)))) (S' := [(17, .int .u64 (rBigV rd : Int)), (19, .int .u64 ((most).toNat : Int))]) rfl rfl rfl (wantB_cf _ _) rfl (by decide) (fun hp hS => ((hS.conv (t := 17) rfl (cond_t hp)).conv (t := 19) rfl (cond_t hp)).sub (ts := [17, 19]) rfl) (fun _ => Ob_c TB_Wire1 rfl) ?_; clear hok a; intro a hok
 refine g_ob hok (p := (((rBig rd).e) == 0)) (v := .bool ((decide (most < 0)) || (decide ((rBigV rd : Int) > ((most).toNat : Int))))) (S' := [(16, .bool (decide (most < 0))), (20, cond ((((rBig rd).e) == 0) && (!(decide (most < 0)))) (.bool (decide ((rBigV rd : Int) > ((most).toNat : Int)))) undef)]) rfl rfl rfl (wantB_t _) rfl (by decide) (fun hp hS => (hS.conv (t := 16) rfl (cond_t hp)).sub (ts := [16, 20]) rfl) (fun hp => Ob_pick rfl rfl rfl rfl (pick_orp _ _ hp)) ?_; clear hok a; intro a hok
 refine s_ob hok (v := .bool ((((rBig rd).e) == 0) && ((decide (most < 0)) || (decide ((rBigV rd : Int) > ((most).toNat : Int)))))) rfl rfl (by decide) rfl (Ob_pick rfl rfl rfl rfl (pick_and _ _)) ?_; clear hok a; intro a hok
 refine s_end hok [0, 1, 4, 5, 22] rfl ?_; clear hok; intro hok
 refine p_then ?_
 refine f_cond hok rfl (fun hc1 => ?_) (fun hc1 => ?_)
 ·replace hc1 := And.intro (eq_of_beq (andT1 hc1)) (orT (andT2 hc1) (fun h => of_decide_eq_true h) (fun h => of_decide_eq_true h))
  refine f_region hok ?_; clear hok; intro hok
  refine s_runk TB_Wire1 hok 3 rfl rfl ?_; clear hok a; intro a hok
  refine h_store TB_Wire1 hok H 0 (us := [.int .i64 5]) (cl' := [.string ((rBig rd).s), .int .i64 ((rBig rd).at_), .int .i64 5]) rfl rfl rfl rfl rfl rfl rfl rfl rfl (by simp only [List.mem_cons, List.not_mem_nil, or_false]; rintro u rfl <;> rfl) (Nat.le_of_ble_eq_true rfl) rfl ?_; clear H; intro w2 H
  dsimp only [List.eraseIdx] at H
  refine s_end hok [0, 1, 4, 5, 22] rfl ?_; clear hok; intro hok
  refine p_then (wp_seq ?_)
  refine wp_seq (f_region hok ?_); clear hok; intro hok
  refine s_runk TB_Wire1 hok 3 rfl rfl ?_; clear hok a; intro a hok
  refine s_ob hok (v := .int .i64 5) rfl rfl (by decide) rfl (Ob_load TB_Wire1 rfl rfl rfl ((H.bx 0 rfl).cell 2 rfl)) ?_; clear hok a; intro a hok
  refine s_runk TB_Wire1 hok 1 rfl rfl ?_; clear hok a; intro a hok
  refine s_end hok [0, 1, 4, 5, 22, 30] rfl ?_; clear hok; intro hok
  refine p_then ?_
  refine wp_cond_true (hok.ev rfl) ?_
  refine wp_seq (f_region hok ?_); clear hok; intro hok
  refine s_runk TB_Wire1 hok 1 rfl rfl ?_; clear hok a; intro a hok
  refine s_end hok [0, 1, 4, 5, 22, 30] rfl ?_; clear hok; intro hok
  refine p_then (wp_ret ?_)
  refine p_then_r ?_
  refine f_ret hok (run_results1 rfl hok rfl) ?_
  refine ⟨?_, I1, (H.sub [(0, false)] rfl).eq ?_⟩
  ·clear hok H
   have e1 : rNum rd most = { rBig rd with e := 5 } := (if_pos ⟨hc1.1, by rcases hc1.2 with h | h <;> omega⟩); unfold rNumV; rw [e1, if_pos (by show (5 : Int) ≠ 0; decide)]
  ·clear hok H
   have e1 : rNum rd most = { rBig rd with e := 5 } := (if_pos ⟨hc1.1, by rcases hc1.2 with h | h <;> omega⟩); rw [e1]; rfl
 ·replace hc1 := andF hc1 (fun h => ne_of_beq_false h) (fun h => And.intro (of_decide_eq_false (orF1 h)) (of_decide_eq_false (orF2 h)))
  refine wp_skip ?_
  refine p_then (wp_seq ?_)
  refine wp_seq (f_region hok ?_); clear hok; intro hok
  refine s_runk TB_Wire1 hok 3 rfl rfl ?_; clear hok a; intro a hok
  refine s_ob hok (v := .int .i64 ((rBig rd).e)) rfl rfl (by decide) rfl (Ob_load TB_Wire1 rfl rfl rfl ((H.bx 0 rfl).cell 2 rfl)) ?_; clear hok a; intro a hok
  refine s_runk TB_Wire1 hok 1 rfl rfl ?_; clear hok a; intro a hok
  refine s_end hok [0, 1, 4, 5, 22, 30] rfl ?_; clear hok; intro hok
  refine p_then ?_
  refine f_cond hok rfl (fun hc2 => ?_) (fun hc2 => ?_)
  ·replace hc2 := bne_iff_ne.1 hc2
   refine wp_seq (f_region hok ?_); clear hok; intro hok
   refine s_runk TB_Wire1 hok 1 rfl rfl ?_; clear hok a; intro a hok
   refine s_end hok [0, 1, 4, 5, 22, 30] rfl ?_; clear hok; intro hok
   refine p_then (wp_ret ?_)
   refine p_then_r ?_
   refine f_ret hok (run_results1 rfl hok rfl) ?_
   refine ⟨?_, I1, (H.sub [(0, false)] rfl).eq ?_⟩
   ·clear hok H
    have e1 : rNum rd most = rBig rd := (if_neg fun h => hc2 h.1); unfold rNumV; rw [e1, if_pos hc2]
   ·clear hok H
    have e1 : rNum rd most = rBig rd := (if_neg fun h => hc2 h.1); rw [e1]; rfl
  ·replace hc2 := bne_eq_false_iff_eq.1 hc2
   refine wp_skip ?_
   refine p_then (wp_seq (f_region hok ?_)); clear hok; intro hok
   refine s_runk TB_Wire1 hok 1 rfl rfl ?_; clear hok a; intro a hok
   have hcv2 : ∀ w : World, (convert 23 3 (.int .u64 (rBigV rd : Int))).run Tryz.prog w = .ok (.int .i64 (rBigV rd : Int)) w := fun w => run_convi Tryz.underlying23 Tryz.underlying3 _ _ (IntWalk.i64_in _ (by omega)) w
   refine s_ob hok (v := .int .i64 (rBigV rd : Int)) rfl rfl (by decide) rfl (Ob_conv rfl rfl (hcv2 _)) ?_; clear hok a; intro a hok
   refine s_runk TB_Wire1 hok 1 rfl rfl ?_; clear hok a; intro a hok
   refine s_end hok [0, 1, 4, 5, 22, 30] rfl ?_; clear hok; intro hok
   refine p_then (wp_ret ?_)
   refine f_ret hok (run_results1 rfl hok rfl) ?_
   refine ⟨?_, I1, (H.sub [(0, false)] rfl).eq ?_⟩
   ·clear hok H
    have e1 : rNum rd most = rBig rd := (if_neg fun h => by rcases hc1 with h' | h'; (exact h' h.1); omega); unfold rNumV; rw [e1, if_neg (by omega)]
   ·clear hok H
    have e1 : rNum rd most = rBig rd := (if_neg fun h => by rcases hc1 with h' | h'; (exact h' h.1); omega); rw [e1]; rfl

theorem rNum_ok {r : DReaderR} {most : Int} (h : rdOk r) : rdOk (rNum r most) := by
 unfold rNum
 split
 ·have := rBig_ok h; exact ⟨this.1, this.2.1, this.2.2.1, by show (0 : Int) ≤ 5; decide, by show (5 : Int) ≤ 21; decide⟩
 ·exact rBig_ok h

def rText (r : DReaderR) (most : Int) : DReaderR :=
 if (rBig r).e ≠ 0 then rBig r
 else if most < 0 ∨ most < (rBigV r : Int) then { rBig r with e := 3 }
 else if ((rBig r).s.size : Int) - (rBig r).at_ < (rBigV r : Int) then { rBig r with e := 2 }
 else { rBig r with at_ := (rBig r).at_ + (rBigV r : Int) }

def rTextV (r : DReaderR) (most : Int) : ByteArray := if (rText r most).e ≠ 0 then ByteArray.empty else (rBig r).s.extract (rBig r).at_.toNat ((rBig r).at_.toNat + rBigV r)

theorem rText_err {r : DReaderR} {most : Int} (h : (rBig r).e ≠ 0) : rText r most = rBig r := if_pos h

theorem rText_long {r : DReaderR} {most : Int} (h : (rBig r).e = 0) (h2 : most < 0 ∨ most < (rBigV r : Int)) : rText r most = { rBig r with e := 3 } := (if_neg fun x => x h).trans (if_pos h2)

theorem rText_short {r : DReaderR} {most : Int} (h : (rBig r).e = 0) (h2 : ¬ (most < 0 ∨ most < (rBigV r : Int))) (h3 : ((rBig r).s.size : Int) - (rBig r).at_ < (rBigV r : Int)) : rText r most = { rBig r with e := 2 } := (if_neg fun x => x h).trans ((if_neg h2).trans (if_pos h3))

theorem rText_fine {r : DReaderR} {most : Int} (h : (rBig r).e = 0) (h2 : ¬ (most < 0 ∨ most < (rBigV r : Int))) (h3 : ¬ ((rBig r).s.size : Int) - (rBig r).at_ < (rBigV r : Int)) : rText r most = { rBig r with at_ := (rBig r).at_ + (rBigV r : Int) } := (if_neg fun x => x h).trans ((if_neg h2).trans (if_neg h3))

theorem rTextV_no {r : DReaderR} {most : Int} (h : (rText r most).e ≠ 0) : rTextV r most = ByteArray.empty := if_pos h

theorem rTextV_yes {r : DReaderR} {most : Int} (h : (rText r most).e = 0) : rTextV r most = (rBig r).s.extract (rBig r).at_.toNat ((rBig r).at_.toNat + rBigV r) := if_neg fun x => x h

set_option maxHeartbeats 1000000 in
theorem c_r2_rText {I D : Dm} (b_rd : Nat) (rd : DReaderR) (most : Int) (w : World) (h_most : i64ok most) (H : St I D w [BxC b_rd 61 [.string rd.s, .int .i64 rd.at_, .int .i64 rd.e]]) (hr : rdOk rd) :
  Calls Tryz.prog 70 #[.pointer (some ⟨b_rd, 0, none⟩), .int .i64 most] w (Ret fun r w' => r = .string (rTextV rd most) ∧ ∃ I', Hf I D w I' w' [BxC b_rd 61 (cDReaderR (rText rd most))]) := by
 replace H := H.hf
 unfold i64ok at h_most
 have hbv := rBigV_lt rd
 have hro := rBig_ok hr; obtain ⟨hr1, hr2, hr3, hr4, hr5⟩ := hro
 have hml : maxLen = 9223372036854775807 := (by decide)
 refine f_enter 82 Tryz.func70 rfl rfl (Nat.le_of_ble_eq_true rfl) fun a hok => ?_
 replace hok := hok.sub (ts := [0, 1]) rfl
 refine wp_seq (f_region hok ?_); clear hok; intro hok
 refine s_runk TB_Wire1 hok 1 rfl rfl ?_; clear hok a; intro a hok
 refine s_end hok [0, 1, 4] rfl ?_; clear hok; intro hok
 refine p_then (wp_seq (f_region hok ?_)); clear hok; intro hok
 refine s_runk TB_Wire1 hok 1 rfl rfl ?_; clear hok a; intro a hok
 refine h_call hok H (js := [(0, false)]) rfl (caps := #[]) fn_68_Wire1 rfl rfl rfl rfl rfl (by decide) rfl rfl (fun D1 hS => c_r2_rBig _ rd _ hS hr) ?_; clear hok a H; intro _ a w1 D1 hr hF hok
 obtain ⟨rfl, I1, H⟩ := hr
 replace H : Hf I D w I1 w1 [BxC b_rd 61 [.string ((rBig rd).s), .int .i64 ((rBig rd).at_), .int .i64 ((rBig rd).e)]] := hF H
 clear hF
 refine s_runk TB_Wire1 hok 1 rfl rfl ?_; clear hok a; intro a hok
 refine s_end hok [0, 1, 4, 5] rfl ?_; clear hok; intro hok
 refine p_then (wp_seq ?_)
 refine wp_seq (f_region hok ?_); clear hok; intro hok
 refine s_runk TB_Wire1 hok 3 rfl rfl ?_; clear hok a; intro a hok
 refine s_ob hok (v := .int .i64 ((rBig rd).e)) rfl rfl (by decide) rfl (Ob_load TB_Wire1 rfl rfl rfl ((H.bx 0 rfl).cell 2 rfl)) ?_; clear hok a; intro a hok
 refine s_runk TB_Wire1 hok 2 rfl rfl ?_; clear hok a; intro a hok
 refine g_ob hok (p := (((rBig rd).e) == 0)) (v := .int .i64 most) (S' := [(1, .int .i64 most)]) rfl rfl rfl (wantB_t _) rfl (by decide) (fun hp hS => hS.sub (ts := [1]) rfl) (fun _ => Ob_c TB_Wire1 rfl) ?_; clear hok a; intro a hok
 refine g_ob hok (p := (((rBig rd).e) == 0)) (v := .bool (decide (most < 0))) (S' := [(15, .int .i64 most)]) rfl rfl rfl (wantB_t _) rfl (by decide) (fun hp hS => (hS.conv (t := 15) rfl (cond_t hp)).sub (ts := [15]) rfl) (fun _ => Ob_c TB_Wire1 rfl) ?_; clear hok a; intro a hok
 refine g_ob hok (p := (((rBig rd).e) == 0)) (v := .bool (decide (most < 0))) (S' := [(16, .bool (decide (most < 0)))]) rfl rfl rfl (wantB_t _) rfl (by decide) (fun hp hS => (hS.conv (t := 16) rfl (cond_t hp)).sub (ts := [16]) rfl) (fun _ => Ob_c TB_Wire1 rfl) ?_; clear hok a; intro a hok
 refine g_ob hok (p := ((((rBig rd).e) == 0) && (!(decide (most < 0))))) (v := .int .u64 (rBigV rd : Int)) (S' := [(5, .int .u64 (rBigV rd : Int))]) rfl rfl rfl (wantB_cf _ _) rfl (by decide) (fun hp hS => hS.sub (ts := [5]) rfl) (fun _ => Ob_c TB_Wire1 rfl) ?_; clear hok a; intro a hok
 refine g_ob hok (p := ((((rBig rd).e) == 0) && (!(decide (most < 0))))) (v := .int .i64 most) (S' := [(1, .int .i64 most)]) rfl rfl rfl (wantB_cf _ _) rfl (by decide) (fun hp hS => hS.sub (ts := [1]) rfl) (fun _ => Ob_c TB_Wire1 rfl) ?_; clear hok a; intro a hok
 refine g_ob hok (p := ((((rBig rd).e) == 0) && (!(decide (most < 0))))) (v := .int .u64 ((most).toNat : Int)) (S' := [(19, .int .i64 most)]) rfl rfl rfl (wantB_cf _ _) rfl (by decide) (fun hp hS => (hS.conv (t := 19) rfl (cond_t hp)).sub (ts := [19]) rfl) (fun hp => ?_) ?_
 ·have hg1 := eq_of_beq (andT1 hp)
  have hg2 := of_decide_eq_false (notT (andT2 hp))
  have hcv1 : ∀ w : World, (convert 3 23 (.int .i64 most)).run Tryz.prog w = .ok (.int .u64 ((most).toNat : Int)) w := fun w => run_convi Tryz.underlying3 Tryz.underlying23 _ _ ((IntWalk.u64_in _ (by omega)).trans (by omega)) w
  exact Ob_conv rfl rfl (hcv1 _)
 clear hok a; intro a hok
 refine g_ob hok (p := ((((rBig rd).e) == 0) && (!(decide (most < 0))))) (v := .bool (decide ((rBigV rd : Int) > ((most).toNat : Int)))) (S' := [(18, .int .u64 (rBigV rd : Int)), (20, .int .u64 ((most).toNat : Int))]) rfl rfl rfl (wantB_cf _ _) rfl (by decide) (fun hp hS => ((hS.conv (t := 18) rfl (cond_t hp)).conv (t := 20) rfl (cond_t hp)).sub (ts := [18, 20]) rfl) (fun _ => Ob_c TB_Wire1 rfl) ?_; clear hok a; intro a hok
 refine g_ob hok (p := (((rBig rd).e) == 0)) (v := .bool ((decide (most < 0)) || (decide ((rBigV rd : Int) > ((most).toNat : Int))))) (S' := [(17, .bool (decide (most < 0))), (21, cond ((((rBig rd).e) == 0) && (!(decide (most < 0)))) (.bool (decide ((rBigV rd : Int) > ((most).toNat : Int)))) undef)]) rfl rfl rfl (wantB_t _) rfl (by decide) (fun hp hS => (hS.conv (t := 17) rfl (cond_t hp)).sub (ts := [17, 21]) rfl) (fun hp => Ob_pick rfl rfl rfl rfl (pick_orp _ _ hp)) ?_; clear hok a; intro a hok
 refine s_ob hok (v := .bool ((((rBig rd).e) == 0) && ((decide (most < 0)) || (decide ((rBigV rd : Int) > ((most).toNat : Int)))))) rfl rfl (by decide) rfl (Ob_pick rfl rfl rfl rfl (pick_and _ _)) ?_; clear hok a; intro a hok
 refine s_end hok [0, 1, 4, 5, 23] rfl ?_; clear hok; intro hok
 refine p_then ?_
 refine f_cond hok rfl (fun hc1 => ?_) (fun hc1 => ?_)
 ·replace hc1 := And.intro (eq_of_beq (andT1 hc1)) (orT (andT2 hc1) (fun h => of_decide_eq_true h) (fun h => of_decide_eq_true h))
  refine f_region hok ?_; clear hok; intro hok
  refine s_runk TB_Wire1 hok 3 rfl rfl ?_; clear hok a; intro a hok
  refine h_store TB_Wire1 hok H 0 (us := [.int .i64 3]) (cl' := [.string ((rBig rd).s), .int .i64 ((rBig rd).at_), .int .i64 3]) rfl rfl rfl rfl rfl rfl rfl rfl rfl (by simp only [List.mem_cons, List.not_mem_nil, or_false]; rintro u rfl <;> rfl) (Nat.le_of_ble_eq_true rfl) rfl ?_; clear H; intro w2 H
  dsimp only [List.eraseIdx] at H
  refine s_end hok [0, 1, 4, 5, 23] rfl ?_; clear hok; intro hok
  refine p_then (wp_seq ?_)
  refine wp_seq ?_
  refine f_quietd (by kernel_rfl) (by kernel_rfl) hok ?_; clear hok; intro hok
  refine q_runk TB_Wire1 hok 3 rfl rfl ?_; clear hok a; intro a hok
  refine q_ob hok (v := .int .i64 3) rfl rfl (by decide) rfl (fun _ hw => Ob_load TB_Wire1 rfl rfl rfl (((H.bx 0 rfl).below hw).cell 2 rfl)) ?_; clear hok a; intro a hok
  refine q_runk TB_Wire1 hok 2 rfl rfl ?_; clear hok a; intro a hok
  refine gq_if hok rfl rfl rfl (p := false) rfl rfl (by decide) (fun h => by cases h) ?_; clear hok; intro _ a hok
  refine gq_if hok rfl rfl rfl (p := false) rfl rfl (by decide) (fun h => by cases h) ?_; clear hok; intro _ a hok
  refine gq_if hok rfl rfl rfl (p := false) rfl rfl (by decide) (fun h => by cases h) ?_; clear hok; intro _ a hok
  refine gq_if hok rfl rfl rfl (p := false) rfl rfl (by decide) (fun h => by cases h) ?_; clear hok; intro _ a hok
  refine gq_if hok rfl rfl rfl (p := false) rfl rfl (by decide) (fun h => by cases h) ?_; clear hok; intro _ a hok
  refine gq_if hok rfl rfl rfl (p := false) rfl rfl (by decide) (fun h => by cases h) ?_; clear hok; intro _ a hok
  refine gq_if hok rfl rfl rfl (p := false) rfl rfl (by decide) (fun h => by cases h) ?_; clear hok; intro _ a hok
  refine gq_if hok rfl rfl rfl (p := false) rfl rfl (by decide) (fun h => by cases h) ?_; clear hok; intro _ a hok
  refine gq_if hok rfl rfl rfl (p := false) rfl rfl (by decide) (fun h => by cases h) ?_; clear hok; intro _ a hok
  refine gq_if hok rfl rfl rfl (p := false) rfl rfl (by decide) (fun h => by cases h) ?_; clear hok; intro _ a hok
  refine gq_if hok rfl rfl rfl (p := false) rfl rfl (by decide) (fun h => by cases h) ?_; clear hok; intro _ a hok
  refine gq_if hok rfl rfl rfl (p := false) rfl rfl (by decide) (fun h => by cases h) ?_; clear hok; intro _ a hok
  refine gq_if hok rfl rfl rfl (p := false) rfl rfl (by decide) (fun h => by cases h) ?_; clear hok; intro _ a hok
  refine q_ob hok (v := .bool false) rfl rfl (by decide) rfl (fun _ _ => Ob_pick rfl rfl rfl rfl rfl) ?_; clear hok a; intro a hok
  refine q_end hok [0, 1, 4, 5, 23, 46] rfl ?_; clear hok; intro w3 hb hok
  replace H := H.blw hb
  clear hb
  refine p_then ?_
  refine wp_cond_false (hok.ev rfl) ?_
  refine wp_skip ?_
  refine p_then (wp_seq ?_)
  refine wp_seq (f_region hok ?_); clear hok; intro hok
  refine s_runk TB_Wire1 hok 3 rfl rfl ?_; clear hok a; intro a hok
  refine s_ob hok (v := .int .i64 3) rfl rfl (by decide) rfl (Ob_load TB_Wire1 rfl rfl rfl ((H.bx 0 rfl).cell 2 rfl)) ?_; clear hok a; intro a hok
  refine s_runk TB_Wire1 hok 1 rfl rfl ?_; clear hok a; intro a hok
  refine s_end hok [0, 1, 4, 5, 23, 46, 54] rfl ?_; clear hok; intro hok
  refine p_then ?_
  refine wp_cond_true (hok.ev rfl) ?_
  refine wp_seq (f_region hok ?_); clear hok; intro hok
  refine s_runk TB_Wire1 hok 1 rfl rfl ?_; clear hok a; intro a hok
  refine s_end hok [0, 1, 4, 5, 23, 46, 54] rfl ?_; clear hok; intro hok
  refine p_then (wp_ret ?_)
  refine p_then_r ?_
  refine f_ret hok (run_results1 rfl hok rfl) ?_
  refine ⟨?_, I1, (H.sub [(0, false)] rfl).eq ?_⟩
  ·clear hok H
   have e1 := rText_long (most := most) hc1.1 (by rcases hc1.2 with h | h <;> omega); rw [rTextV_no (by rw [e1]; exact (by decide : (3 : Int) ≠ 0))]; rfl
  ·clear hok H
   rw [rText_long (most := most) hc1.1 (by rcases hc1.2 with h | h <;> omega)]; rfl
 ·replace hc1 := andF hc1 (fun h => ne_of_beq_false h) (fun h => And.intro (of_decide_eq_false (orF1 h)) (of_decide_eq_false (orF2 h)))
  refine wp_skip ?_
  refine p_then (wp_seq ?_)
  refine wp_seq ?_
  refine f_quietd (by kernel_rfl) (by kernel_rfl) hok ?_; clear hok; intro hok
  refine q_runk TB_Wire1 hok 3 rfl rfl ?_; clear hok a; intro a hok
  refine q_ob hok (v := .int .i64 ((rBig rd).e)) rfl rfl (by decide) rfl (fun _ hw => Ob_load TB_Wire1 rfl rfl rfl (((H.bx 0 rfl).below hw).cell 2 rfl)) ?_; clear hok a; intro a hok
  refine q_runk TB_Wire1 hok 2 rfl rfl ?_; clear hok a; intro a hok
  refine gq_ob hok (p := (((rBig rd).e) == 0)) (v := .int .u64 (rBigV rd : Int)) (S' := [(5, .int .u64 (rBigV rd : Int))]) rfl rfl rfl (wantB_t _) rfl (by decide) (fun hp hS => hS.sub (ts := [5]) rfl) (fun _ => fun _ _ => Ob_c TB_Wire1 rfl) ?_; clear hok a; intro a hok
  refine gq_ob hok (p := (((rBig rd).e) == 0)) (v := .pointer (some ⟨b_rd, 0, none⟩)) (S' := [(0, .pointer (some ⟨b_rd, 0, none⟩))]) rfl rfl rfl (wantB_t _) rfl (by decide) (fun hp hS => hS.sub (ts := [0]) rfl) (fun _ => fun _ _ => Ob_c TB_Wire1 rfl) ?_; clear hok a; intro a hok
  refine gq_ob hok (p := (((rBig rd).e) == 0)) (v := .pointer (some ⟨b_rd, 0, none⟩)) (S' := [(34, .pointer (some ⟨b_rd, 0, none⟩))]) rfl rfl rfl (wantB_t _) rfl (by decide) (fun hp hS => (hS.conv (t := 34) rfl (cond_t hp)).sub (ts := [34]) rfl) (fun _ => fun _ _ => Ob_c TB_Wire1 rfl) ?_; clear hok a; intro a hok
  refine gq_ob hok (p := (((rBig rd).e) == 0)) (v := .pointer (some ⟨b_rd, 0, none⟩)) (S' := [(35, .pointer (some ⟨b_rd, 0, none⟩))]) rfl rfl rfl (wantB_t _) rfl (by decide) (fun hp hS => (hS.conv (t := 35) rfl (cond_t hp)).sub (ts := [35]) rfl) (fun _ => fun _ _ => Ob_c TB_Wire1 rfl) ?_; clear hok a; intro a hok
  refine gq_ob hok (p := (((rBig rd).e) == 0)) (v := .string ((rBig rd).s)) (S' := [(36, .pointer (some ⟨b_rd, 0, none⟩))]) rfl rfl rfl (wantB_t _) rfl (by decide) (fun hp hS => (hS.conv (t := 36) rfl (cond_t hp)).sub (ts := [36]) rfl) (fun hp => ?_) ?_
  ·have hg3 := eq_of_beq hp
   exact fun _ hw => Ob_load TB_Wire1 rfl rfl rfl (((H.bx 0 rfl).below hw).cell 0 rfl)
  clear hok a; intro a hok
  refine gq_ob hok (p := (((rBig rd).e) == 0)) (v := .int .i64 (((rBig rd).s).size : Int)) (S' := [(37, .string ((rBig rd).s))]) rfl rfl rfl (wantB_t _) rfl (by decide) (fun hp hS => (hS.conv (t := 37) rfl (cond_t hp)).sub (ts := [37]) rfl) (fun _ => fun _ _ => Ob_c TB_Wire1 rfl) ?_; clear hok a; intro a hok
  refine gq_ob hok (p := (((rBig rd).e) == 0)) (v := .pointer (some ⟨b_rd, 0, none⟩)) (S' := [(0, .pointer (some ⟨b_rd, 0, none⟩))]) rfl rfl rfl (wantB_t _) rfl (by decide) (fun hp hS => hS.sub (ts := [0]) rfl) (fun _ => fun _ _ => Ob_c TB_Wire1 rfl) ?_; clear hok a; intro a hok
  refine gq_ob hok (p := (((rBig rd).e) == 0)) (v := .pointer (some ⟨b_rd, 0, none⟩)) (S' := [(39, .pointer (some ⟨b_rd, 0, none⟩))]) rfl rfl rfl (wantB_t _) rfl (by decide) (fun hp hS => (hS.conv (t := 39) rfl (cond_t hp)).sub (ts := [39]) rfl) (fun _ => fun _ _ => Ob_c TB_Wire1 rfl) ?_; clear hok a; intro a hok
  refine gq_ob hok (p := (((rBig rd).e) == 0)) (v := .pointer (some ⟨b_rd, 1, none⟩)) (S' := [(40, .pointer (some ⟨b_rd, 0, none⟩))]) rfl rfl rfl (wantB_t _) rfl (by decide) (fun hp hS => (hS.conv (t := 40) rfl (cond_t hp)).sub (ts := [40]) rfl) (fun _ => fun _ _ => Ob_c TB_Wire1 rfl) ?_; clear hok a; intro a hok
  refine gq_ob hok (p := (((rBig rd).e) == 0)) (v := .int .i64 ((rBig rd).at_)) (S' := [(41, .pointer (some ⟨b_rd, 1, none⟩))]) rfl rfl rfl (wantB_t _) rfl (by decide) (fun hp hS => (hS.conv (t := 41) rfl (cond_t hp)).sub (ts := [41]) rfl) (fun hp => ?_) ?_
  ·have hg4 := eq_of_beq hp
   exact fun _ hw => Ob_load TB_Wire1 rfl rfl rfl (((H.bx 0 rfl).below hw).cell 1 rfl)
  clear hok a; intro a hok
  refine gq_ob hok (p := (((rBig rd).e) == 0)) (v := .int .i64 ((((rBig rd).s).size : Int) - ((rBig rd).at_))) (S' := [(38, .int .i64 (((rBig rd).s).size : Int)), (42, .int .i64 ((rBig rd).at_))]) rfl rfl rfl (wantB_t _) rfl (by decide) (fun hp hS => ((hS.conv (t := 38) rfl (cond_t hp)).conv (t := 42) rfl (cond_t hp)).sub (ts := [38, 42]) rfl) (fun hp => ?_) ?_
  ·have hg5 := eq_of_beq hp
   exact fun _ hw => Ob_sub rfl rfl rfl (IntWalk.i64_in _ (by omega))
  clear hok a; intro a hok
  refine gq_ob hok (p := (((rBig rd).e) == 0)) (v := .int .u64 (((((rBig rd).s).size : Int) - ((rBig rd).at_)).toNat : Int)) (S' := [(43, .int .i64 ((((rBig rd).s).size : Int) - ((rBig rd).at_)))]) rfl rfl rfl (wantB_t _) rfl (by decide) (fun hp hS => (hS.conv (t := 43) rfl (cond_t hp)).sub (ts := [43]) rfl) (fun hp => ?_) ?_
  ·have hg6 := eq_of_beq hp
   have hcv2 : ∀ w : World, (convert 3 23 (.int .i64 ((((rBig rd).s).size : Int) - ((rBig rd).at_)))).run Tryz.prog w = .ok (.int .u64 (((((rBig rd).s).size : Int) - ((rBig rd).at_)).toNat : Int)) w := fun w => run_convi Tryz.underlying3 Tryz.underlying23 _ _ ((IntWalk.u64_in _ (by omega)).trans (by omega)) w
   exact fun _ hw => Ob_conv rfl rfl (hcv2 _)
  clear hok a; intro a hok
  refine gq_ob hok (p := (((rBig rd).e) == 0)) (v := .bool (decide ((rBigV rd : Int) > (((((rBig rd).s).size : Int) - ((rBig rd).at_)).toNat : Int)))) (S' := [(33, .int .u64 (rBigV rd : Int)), (44, .int .u64 (((((rBig rd).s).size : Int) - ((rBig rd).at_)).toNat : Int))]) rfl rfl rfl (wantB_t _) rfl (by decide) (fun hp hS => ((hS.conv (t := 33) rfl (cond_t hp)).conv (t := 44) rfl (cond_t hp)).sub (ts := [33, 44]) rfl) (fun _ => fun _ _ => Ob_c TB_Wire1 rfl) ?_; clear hok a; intro a hok
  refine q_ob hok (v := .bool ((((rBig rd).e) == 0) && (decide ((rBigV rd : Int) > (((((rBig rd).s).size : Int) - ((rBig rd).at_)).toNat : Int))))) rfl rfl (by decide) rfl (fun _ _ => Ob_pick rfl rfl rfl rfl (pick_and _ _)) ?_; clear hok a; intro a hok
  refine q_end hok [0, 1, 4, 5, 23, 46] rfl ?_; clear hok; intro w4 hb hok
  replace H := H.blw hb
  clear hb
  refine p_then ?_
  refine f_cond hok rfl (fun hc2 => ?_) (fun hc2 => ?_)
  ·replace hc2 := And.intro (eq_of_beq (andT1 hc2)) (of_decide_eq_true (andT2 hc2))
   refine f_region hok ?_; clear hok; intro hok
   refine s_runk TB_Wire1 hok 3 rfl rfl ?_; clear hok a; intro a hok
   refine h_store TB_Wire1 hok H 0 (us := [.int .i64 2]) (cl' := [.string ((rBig rd).s), .int .i64 ((rBig rd).at_), .int .i64 2]) rfl rfl rfl rfl rfl rfl rfl rfl rfl (by simp only [List.mem_cons, List.not_mem_nil, or_false]; rintro u rfl <;> rfl) (Nat.le_of_ble_eq_true rfl) rfl ?_; clear H; intro w5 H
   dsimp only [List.eraseIdx] at H
   refine s_end hok [0, 1, 4, 5, 23, 46] rfl ?_; clear hok; intro hok
   refine p_then (wp_seq ?_)
   refine wp_seq (f_region hok ?_); clear hok; intro hok
   refine s_runk TB_Wire1 hok 3 rfl rfl ?_; clear hok a; intro a hok
   refine s_ob hok (v := .int .i64 2) rfl rfl (by decide) rfl (Ob_load TB_Wire1 rfl rfl rfl ((H.bx 0 rfl).cell 2 rfl)) ?_; clear hok a; intro a hok
   refine s_runk TB_Wire1 hok 1 rfl rfl ?_; clear hok a; intro a hok
   refine s_end hok [0, 1, 4, 5, 23, 46, 54] rfl ?_; clear hok; intro hok
   refine p_then ?_
   refine wp_cond_true (hok.ev rfl) ?_
   refine wp_seq (f_region hok ?_); clear hok; intro hok
   refine s_runk TB_Wire1 hok 1 rfl rfl ?_; clear hok a; intro a hok
   refine s_end hok [0, 1, 4, 5, 23, 46, 54] rfl ?_; clear hok; intro hok
   refine p_then (wp_ret ?_)
   refine p_then_r ?_
   refine f_ret hok (run_results1 rfl hok rfl) ?_
   refine ⟨?_, I1, (H.sub [(0, false)] rfl).eq ?_⟩
   ·clear hok H
    have e1 := rText_short (most := most) hc2.1 (by rcases hc1 with h | h; (exact absurd hc2.1 h); omega) (by omega); rw [rTextV_no (by rw [e1]; exact (by decide : (2 : Int) ≠ 0))]; rfl
   ·clear hok H
    rw [rText_short (most := most) hc2.1 (by rcases hc1 with h | h; (exact absurd hc2.1 h); omega) (by omega)]; rfl
  ·replace hc2 := andF hc2 (fun h => ne_of_beq_false h) (fun h => of_decide_eq_false h)
   refine wp_skip ?_
   refine p_then (wp_seq ?_)
   refine wp_seq (f_region hok ?_); clear hok; intro hok
   refine s_runk TB_Wire1 hok 3 rfl rfl ?_; clear hok a; intro a hok
   refine s_ob hok (v := .int .i64 ((rBig rd).e)) rfl rfl (by decide) rfl (Ob_load TB_Wire1 rfl rfl rfl ((H.bx 0 rfl).cell 2 rfl)) ?_; clear hok a; intro a hok
   refine s_runk TB_Wire1 hok 1 rfl rfl ?_; clear hok a; intro a hok
   refine s_end hok [0, 1, 4, 5, 23, 46, 54] rfl ?_; clear hok; intro hok
   refine p_then ?_
   refine f_cond hok rfl (fun hc3 => ?_) (fun hc3 => ?_)
   ·replace hc3 := bne_iff_ne.1 hc3
    refine wp_seq (f_region hok ?_); clear hok; intro hok
    refine s_runk TB_Wire1 hok 1 rfl rfl ?_; clear hok a; intro a hok
    refine s_end hok [0, 1, 4, 5, 23, 46, 54] rfl ?_; clear hok; intro hok
    refine p_then (wp_ret ?_)
    refine p_then_r ?_
    refine f_ret hok (run_results1 rfl hok rfl) ?_
    refine ⟨?_, I1, (H.sub [(0, false)] rfl).eq ?_⟩
    ·clear hok H
     rw [rTextV_no (by rw [rText_err hc3]; exact hc3)]; rfl
    ·clear hok H
     rw [rText_err hc3]; rfl
   ·replace hc3 := bne_eq_false_iff_eq.1 hc3
    refine wp_skip ?_
    refine p_then (wp_seq ?_)
    refine f_quietd (by kernel_rfl) (by kernel_rfl) hok ?_; clear hok; intro hok
    refine q_runk TB_Wire1 hok 3 rfl rfl ?_; clear hok a; intro a hok
    refine q_ob hok (v := .string ((rBig rd).s)) rfl rfl (by decide) rfl (fun _ hw => Ob_load TB_Wire1 rfl rfl rfl (((H.bx 0 rfl).below hw).cell 0 rfl)) ?_; clear hok a; intro a hok
    refine q_runk TB_Wire1 hok 3 rfl rfl ?_; clear hok a; intro a hok
    refine q_ob hok (v := .int .i64 ((rBig rd).at_)) rfl rfl (by decide) rfl (fun _ hw => Ob_load TB_Wire1 rfl rfl rfl (((H.bx 0 rfl).below hw).cell 1 rfl)) ?_; clear hok a; intro a hok
    refine q_runk TB_Wire1 hok 3 rfl rfl ?_; clear hok a; intro a hok
    refine q_ob hok (v := .int .i64 ((rBig rd).at_)) rfl rfl (by decide) rfl (fun _ hw => Ob_load TB_Wire1 rfl rfl rfl (((H.bx 0 rfl).below hw).cell 1 rfl)) ?_; clear hok a; intro a hok
    refine q_runk TB_Wire1 hok 1 rfl rfl ?_; clear hok a; intro a hok
    have hcv3 : ∀ w : World, (convert 23 3 (.int .u64 (rBigV rd : Int))).run Tryz.prog w = .ok (.int .i64 (rBigV rd : Int)) w := fun w => run_convi Tryz.underlying23 Tryz.underlying3 _ _ (IntWalk.i64_in _ (by omega)) w
    refine q_ob hok (v := .int .i64 (rBigV rd : Int)) rfl rfl (by decide) rfl (fun _ hw => Ob_conv rfl rfl (hcv3 _)) ?_; clear hok a; intro a hok
    refine q_ob hok (v := .int .i64 ((rBig rd).at_ + (rBigV rd : Int))) rfl rfl (by decide) rfl (fun _ hw => Ob_add rfl rfl rfl (IntWalk.i64_in _ (by omega))) ?_; clear hok a; intro a hok
    have hs1 : ((rBig rd).at_).toNat ≤ ((rBig rd).at_ + (rBigV rd : Int)).toNat ∧ ((rBig rd).at_ + (rBigV rd : Int)).toNat ≤ ((rBig rd).s).size := by constructor <;> omega
    refine q_ob hok (v := .string (((rBig rd).s).extract (((rBig rd).at_).toNat) (((rBig rd).at_ + (rBigV rd : Int)).toNat))) rfl rfl (by decide) rfl (fun _ hw => Ob_ss_of TB_Wire1 (((rBig rd).at_).toNat) (((rBig rd).at_ + (rBigV rd : Int)).toNat) rfl rfl rfl rfl rfl (by omega) (by omega) hs1.1 hs1.2) ?_; clear hok a; intro a hok
    refine q_runk TB_Wire1 hok 1 rfl rfl ?_; clear hok a; intro a hok
    refine q_end hok [0, 1, 4, 5, 23, 46, 54, 6] rfl ?_; clear hok; intro w6 hb hok
    replace H := H.blw hb
    clear hb
    refine p_then (wp_seq (f_region hok ?_)); clear hok; intro hok
    refine s_runk TB_Wire1 hok 4 rfl rfl ?_; clear hok a; intro a hok
    refine s_ob hok (v := .int .i64 ((rBig rd).at_)) rfl rfl (by decide) rfl (Ob_load TB_Wire1 rfl rfl rfl ((H.bx 0 rfl).cell 1 rfl)) ?_; clear hok a; intro a hok
    refine s_runk TB_Wire1 hok 1 rfl rfl ?_; clear hok a; intro a hok
    have hcv4 : ∀ w : World, (convert 23 3 (.int .u64 (rBigV rd : Int))).run Tryz.prog w = .ok (.int .i64 (rBigV rd : Int)) w := fun w => run_convi Tryz.underlying23 Tryz.underlying3 _ _ (IntWalk.i64_in _ (by omega)) w
    refine s_ob hok (v := .int .i64 (rBigV rd : Int)) rfl rfl (by decide) rfl (Ob_conv rfl rfl (hcv4 _)) ?_; clear hok a; intro a hok
    refine s_ob hok (v := .int .i64 ((rBig rd).at_ + (rBigV rd : Int))) rfl rfl (by decide) rfl (Ob_add rfl rfl rfl (IntWalk.i64_in _ (by omega))) ?_; clear hok a; intro a hok
    refine s_runk TB_Wire1 hok 2 rfl rfl ?_; clear hok a; intro a hok
    refine h_store TB_Wire1 hok H 0 (us := [.int .i64 ((rBig rd).at_ + (rBigV rd : Int))]) (cl' := [.string ((rBig rd).s), .int .i64 ((rBig rd).at_ + (rBigV rd : Int)), .int .i64 ((rBig rd).e)]) rfl rfl rfl rfl rfl rfl rfl rfl rfl (by simp only [List.mem_cons, List.not_mem_nil, or_false]; rintro u rfl <;> rfl) (Nat.le_of_ble_eq_true rfl) rfl ?_; clear H; intro w7 H
    dsimp only [List.eraseIdx] at H
    refine s_end hok [0, 1, 4, 5, 23, 46, 54, 6] rfl ?_; clear hok; intro hok
    refine p_then (wp_seq (f_region hok ?_)); clear hok; intro hok
    refine s_runk TB_Wire1 hok 2 rfl rfl ?_; clear hok a; intro a hok
    refine s_end hok [0, 1, 4, 5, 23, 46, 54, 6] rfl ?_; clear hok; intro hok
    refine p_then (wp_ret ?_)
    refine f_ret hok (run_results1 rfl hok rfl) ?_
    refine ⟨?_, I1, (H.sub [(0, false)] rfl).eq ?_⟩
    ·clear hok H
     have e1 := rText_fine (most := most) hc3 (by rcases hc1 with h | h; (exact absurd hc3 h); omega) (by rcases hc2 with h | h; (exact absurd hc3 h); omega); rw [rTextV_yes (by rw [e1]; exact hc3), show ((rBig rd).at_ + (rBigV rd : Int)).toNat = (rBig rd).at_.toNat + rBigV rd by omega]
    ·clear hok H
     rw [rText_fine (most := most) hc3 (by rcases hc1 with h | h; (exact absurd hc3 h); omega) (by rcases hc2 with h | h; (exact absurd hc3 h); omega)]; rfl

def rFlag (r : DReaderR) : DReaderR :=
 if r.e ≠ 0 then r else if r.at_ = (r.s.size : Int) then { r with e := 2 } else if 1 < byteAt r.s r.at_.toNat then { r with e := 4 } else { r with at_ := r.at_ + 1 }

def rFlagV (r : DReaderR) : Bool := if (rFlag r).e ≠ 0 then false else decide (byteAt r.s r.at_.toNat = 1)

theorem rFlag_err {r : DReaderR} (h : r.e ≠ 0) : rFlag r = r := if_pos h

theorem rFlag_short {r : DReaderR} (h : r.e = 0) (h2 : r.at_ = (r.s.size : Int)) : rFlag r = { r with e := 2 } := (if_neg fun x => x h).trans (if_pos h2)

theorem rFlag_form {r : DReaderR} (h : r.e = 0) (h2 : r.at_ ≠ (r.s.size : Int)) (h3 : 1 < byteAt r.s r.at_.toNat) : rFlag r = { r with e := 4 } := (if_neg fun x => x h).trans ((if_neg h2).trans (if_pos h3))

theorem rFlag_fine {r : DReaderR} (h : r.e = 0) (h2 : r.at_ ≠ (r.s.size : Int)) (h3 : ¬ 1 < byteAt r.s r.at_.toNat) : rFlag r = { r with at_ := r.at_ + 1 } := (if_neg fun x => x h).trans ((if_neg h2).trans (if_neg h3))

theorem rFlagV_no {r : DReaderR} (h : (rFlag r).e ≠ 0) : rFlagV r = false := if_pos h

theorem rFlagV_yes {r : DReaderR} (h : (rFlag r).e = 0) : rFlagV r = decide (byteAt r.s r.at_.toNat = 1) := if_neg fun x => x h

set_option maxHeartbeats 1000000 in
theorem c_r2_rFlag {I D : Dm} (b_rd : Nat) (rd : DReaderR) (w : World) (H : St I D w [BxC b_rd 61 [.string rd.s, .int .i64 rd.at_, .int .i64 rd.e]]) (hr : rdOk rd) :
  Calls Tryz.prog 69 #[.pointer (some ⟨b_rd, 0, none⟩)] w (Ret fun r w' => r = .bool (rFlagV rd) ∧ ∃ I', Hf I D w I' w' [BxC b_rd 61 (cDReaderR (rFlag rd))]) := by
 replace H := H.hf
 obtain ⟨hr1, hr2, hr3, hr4, hr5⟩ := hr
 have hml : maxLen = 9223372036854775807 := (by decide)
 refine f_enter 68 Tryz.func69 rfl rfl (Nat.le_of_ble_eq_true rfl) fun a hok => ?_
 replace hok := hok.sub (ts := [0]) rfl
 refine wp_seq (f_region hok ?_); clear hok; intro hok
 refine s_runk TB_Wire1 hok 1 rfl rfl ?_; clear hok a; intro a hok
 refine s_end hok [0, 2] rfl ?_; clear hok; intro hok
 refine p_then (wp_seq ?_)
 refine wp_seq ?_
 refine f_quietd (by kernel_rfl) (by kernel_rfl) hok ?_; clear hok; intro hok
 refine q_runk TB_Wire1 hok 3 rfl rfl ?_; clear hok a; intro a hok
 refine q_ob hok (v := .int .i64 rd.e) rfl rfl (by decide) rfl (fun _ hw => Ob_load TB_Wire1 rfl rfl rfl (((H.bx 0 rfl).below hw).cell 2 rfl)) ?_; clear hok a; intro a hok
 refine q_runk TB_Wire1 hok 2 rfl rfl ?_; clear hok a; intro a hok
 refine gq_ob hok (p := (rd.e == 0)) (v := .pointer (some ⟨b_rd, 0, none⟩)) (S' := [(0, .pointer (some ⟨b_rd, 0, none⟩))]) rfl rfl rfl (wantB_t _) rfl (by decide) (fun hp hS => hS.sub (ts := [0]) rfl) (fun _ => fun _ _ => Ob_c TB_Wire1 rfl) ?_; clear hok a; intro a hok
 refine gq_ob hok (p := (rd.e == 0)) (v := .pointer (some ⟨b_rd, 0, none⟩)) (S' := [(10, .pointer (some ⟨b_rd, 0, none⟩))]) rfl rfl rfl (wantB_t _) rfl (by decide) (fun hp hS => (hS.conv (t := 10) rfl (cond_t hp)).sub (ts := [10]) rfl) (fun _ => fun _ _ => Ob_c TB_Wire1 rfl) ?_; clear hok a; intro a hok
 refine gq_ob hok (p := (rd.e == 0)) (v := .pointer (some ⟨b_rd, 1, none⟩)) (S' := [(11, .pointer (some ⟨b_rd, 0, none⟩))]) rfl rfl rfl (wantB_t _) rfl (by decide) (fun hp hS => (hS.conv (t := 11) rfl (cond_t hp)).sub (ts := [11]) rfl) (fun _ => fun _ _ => Ob_c TB_Wire1 rfl) ?_; clear hok a; intro a hok
 refine gq_ob hok (p := (rd.e == 0)) (v := .int .i64 rd.at_) (S' := [(12, .pointer (some ⟨b_rd, 1, none⟩))]) rfl rfl rfl (wantB_t _) rfl (by decide) (fun hp hS => (hS.conv (t := 12) rfl (cond_t hp)).sub (ts := [12]) rfl) (fun hp => ?_) ?_
 ·have hg1 := eq_of_beq hp
  exact fun _ hw => Ob_load TB_Wire1 rfl rfl rfl (((H.bx 0 rfl).below hw).cell 1 rfl)
 clear hok a; intro a hok
 refine gq_ob hok (p := (rd.e == 0)) (v := .pointer (some ⟨b_rd, 0, none⟩)) (S' := [(0, .pointer (some ⟨b_rd, 0, none⟩))]) rfl rfl rfl (wantB_t _) rfl (by decide) (fun hp hS => hS.sub (ts := [0]) rfl) (fun _ => fun _ _ => Ob_c TB_Wire1 rfl) ?_; clear hok a; intro a hok
 refine gq_ob hok (p := (rd.e == 0)) (v := .pointer (some ⟨b_rd, 0, none⟩)) (S' := [(14, .pointer (some ⟨b_rd, 0, none⟩))]) rfl rfl rfl (wantB_t _) rfl (by decide) (fun hp hS => (hS.conv (t := 14) rfl (cond_t hp)).sub (ts := [14]) rfl) (fun _ => fun _ _ => Ob_c TB_Wire1 rfl) ?_; clear hok a; intro a hok
 refine gq_ob hok (p := (rd.e == 0)) (v := .pointer (some ⟨b_rd, 0, none⟩)) (S' := [(15, .pointer (some ⟨b_rd, 0, none⟩))]) rfl rfl rfl (wantB_t _) rfl (by decide) (fun hp hS => (hS.conv (t := 15) rfl (cond_t hp)).sub (ts := [15]) rfl) (fun _ => fun _ _ => Ob_c TB_Wire1 rfl) ?_; clear hok a; intro a hok
 refine gq_ob hok (p := (rd.e == 0)) (v := .string rd.s) (S' := [(16, .pointer (some ⟨b_rd, 0, none⟩))]) rfl rfl rfl (wantB_t _) rfl (by decide) (fun hp hS => (hS.conv (t := 16) rfl (cond_t hp)).sub (ts := [16]) rfl) (fun hp => ?_) ?_
 ·have hg2 := eq_of_beq hp
  exact fun _ hw => Ob_load TB_Wire1 rfl rfl rfl (((H.bx 0 rfl).below hw).cell 0 rfl)
 clear hok a; intro a hok
 refine gq_ob hok (p := (rd.e == 0)) (v := .int .i64 (rd.s.size : Int)) (S' := [(17, .string rd.s)]) rfl rfl rfl (wantB_t _) rfl (by decide) (fun hp hS => (hS.conv (t := 17) rfl (cond_t hp)).sub (ts := [17]) rfl) (fun _ => fun _ _ => Ob_c TB_Wire1 rfl) ?_; clear hok a; intro a hok
 refine gq_ob hok (p := (rd.e == 0)) (v := .bool (rd.at_ == (rd.s.size : Int))) (S' := [(13, .int .i64 rd.at_), (18, .int .i64 (rd.s.size : Int))]) rfl rfl rfl (wantB_t _) rfl (by decide) (fun hp hS => ((hS.conv (t := 13) rfl (cond_t hp)).conv (t := 18) rfl (cond_t hp)).sub (ts := [13, 18]) rfl) (fun _ => fun _ _ => Ob_c TB_Wire1 rfl) ?_; clear hok a; intro a hok
 refine q_ob hok (v := .bool ((rd.e == 0) && (rd.at_ == (rd.s.size : Int)))) rfl rfl (by decide) rfl (fun _ _ => Ob_pick rfl rfl rfl rfl (pick_and _ _)) ?_; clear hok a; intro a hok
 refine q_end hok [0, 2, 20] rfl ?_; clear hok; intro w1 hb hok
 replace H := H.blw hb
 clear hb
 refine p_then ?_
 refine f_cond hok rfl (fun hc1 => ?_) (fun hc1 => ?_)
 ·replace hc1 := And.intro (eq_of_beq (andT1 hc1)) (eq_of_beq (andT2 hc1))
  refine f_region hok ?_; clear hok; intro hok
  refine s_runk TB_Wire1 hok 3 rfl rfl ?_; clear hok a; intro a hok
  refine h_store TB_Wire1 hok H 0 (us := [.int .i64 2]) (cl' := [.string rd.s, .int .i64 rd.at_, .int .i64 2]) rfl rfl rfl rfl rfl rfl rfl rfl rfl (by simp only [List.mem_cons, List.not_mem_nil, or_false]; rintro u rfl <;> rfl) (Nat.le_of_ble_eq_true rfl) rfl ?_; clear H; intro w2 H
  dsimp only [List.eraseIdx] at H
  refine s_end hok [0, 2, 20] rfl ?_; clear hok; intro hok
  refine p_then (wp_seq ?_)
  refine wp_seq ?_
  refine f_quietd (by kernel_rfl) (by kernel_rfl) hok ?_; clear hok; intro hok
  refine q_runk TB_Wire1 hok 3 rfl rfl ?_; clear hok a; intro a hok
  refine q_ob hok (v := .int .i64 2) rfl rfl (by decide) rfl (fun _ hw => Ob_load TB_Wire1 rfl rfl rfl (((H.bx 0 rfl).below hw).cell 2 rfl)) ?_; clear hok a; intro a hok
  refine q_runk TB_Wire1 hok 2 rfl rfl ?_; clear hok a; intro a hok
  refine gq_if hok rfl rfl rfl (p := false) rfl rfl (by decide) (fun h => by cases h) ?_; clear hok; intro _ a hok
  refine gq_if hok rfl rfl rfl (p := false) rfl rfl (by decide) (fun h => by cases h) ?_; clear hok; intro _ a hok
  refine gq_if hok rfl rfl rfl (p := false) rfl rfl (by decide) (fun h => by cases h) ?_; clear hok; intro _ a hok
  refine gq_if hok rfl rfl rfl (p := false) rfl rfl (by decide) (fun h => by cases h) ?_; clear hok; intro _ a hok
  refine gq_if hok rfl rfl rfl (p := false) rfl rfl (by decide) (fun h => by cases h) ?_; clear hok; intro _ a hok
  refine gq_if hok rfl rfl rfl (p := false) rfl rfl (by decide) (fun h => by cases h) ?_; clear hok; intro _ a hok
  refine gq_if hok rfl rfl rfl (p := false) rfl rfl (by decide) (fun h => by cases h) ?_; clear hok; intro _ a hok
  refine gq_if hok rfl rfl rfl (p := false) rfl rfl (by decide) (fun h => by cases h) ?_; clear hok; intro _ a hok
  refine gq_if hok rfl rfl rfl (p := false) rfl rfl (by decide) (fun h => by cases h) ?_; clear hok; intro _ a hok
  refine gq_if hok rfl rfl rfl (p := false) rfl rfl (by decide) (fun h => by cases h) ?_; clear hok; intro _ a hok
  refine q_ob hok (v := .bool false) rfl rfl (by decide) rfl (fun _ _ => Ob_pick rfl rfl rfl rfl rfl) ?_; clear hok a; intro a hok
  refine q_end hok [0, 2, 20, 40] rfl ?_; clear hok; intro w3 hb hok
  replace H := H.blw hb
  clear hb
  refine p_then ?_
  refine wp_cond_false (hok.ev rfl) ?_
  refine wp_skip ?_
  refine p_then (wp_seq ?_)
  refine wp_seq (f_region hok ?_); clear hok; intro hok
  refine s_runk TB_Wire1 hok 3 rfl rfl ?_; clear hok a; intro a hok
  refine s_ob hok (v := .int .i64 2) rfl rfl (by decide) rfl (Ob_load TB_Wire1 rfl rfl rfl ((H.bx 0 rfl).cell 2 rfl)) ?_; clear hok a; intro a hok
  refine s_runk TB_Wire1 hok 1 rfl rfl ?_; clear hok a; intro a hok
  refine s_end hok [0, 2, 20, 40, 48] rfl ?_; clear hok; intro hok
  refine p_then ?_
  refine wp_cond_true (hok.ev rfl) ?_
  refine wp_seq (f_region hok ?_); clear hok; intro hok
  refine s_runk TB_Wire1 hok 1 rfl rfl ?_; clear hok a; intro a hok
  refine s_end hok [0, 2, 20, 40, 48] rfl ?_; clear hok; intro hok
  refine p_then (wp_ret ?_)
  refine p_then_r ?_
  refine f_ret hok (run_results1 rfl hok rfl) ?_
  refine ⟨?_, I, (H.sub [(0, false)] rfl).eq ?_⟩
  ·clear hok H
   have e1 := rFlag_short hc1.1 hc1.2; rw [rFlagV_no (by rw [e1]; exact (by decide : (2 : Int) ≠ 0))]
  ·clear hok H
   rw [rFlag_short hc1.1 hc1.2]; rfl
 ·replace hc1 := andF hc1 (fun h => ne_of_beq_false h) (fun h => ne_of_beq_false h)
  refine wp_skip ?_
  refine p_then (wp_seq ?_)
  refine wp_seq ?_
  refine f_quietd (by kernel_rfl) (by kernel_rfl) hok ?_; clear hok; intro hok
  refine q_runk TB_Wire1 hok 3 rfl rfl ?_; clear hok a; intro a hok
  refine q_ob hok (v := .int .i64 rd.e) rfl rfl (by decide) rfl (fun _ hw => Ob_load TB_Wire1 rfl rfl rfl (((H.bx 0 rfl).below hw).cell 2 rfl)) ?_; clear hok a; intro a hok
  refine q_runk TB_Wire1 hok 2 rfl rfl ?_; clear hok a; intro a hok
  refine gq_ob hok (p := (rd.e == 0)) (v := .pointer (some ⟨b_rd, 0, none⟩)) (S' := [(0, .pointer (some ⟨b_rd, 0, none⟩))]) rfl rfl rfl (wantB_t _) rfl (by decide) (fun hp hS => hS.sub (ts := [0]) rfl) (fun _ => fun _ _ => Ob_c TB_Wire1 rfl) ?_; clear hok a; intro a hok
  refine gq_ob hok (p := (rd.e == 0)) (v := .pointer (some ⟨b_rd, 0, none⟩)) (S' := [(30, .pointer (some ⟨b_rd, 0, none⟩))]) rfl rfl rfl (wantB_t _) rfl (by decide) (fun hp hS => (hS.conv (t := 30) rfl (cond_t hp)).sub (ts := [30]) rfl) (fun _ => fun _ _ => Ob_c TB_Wire1 rfl) ?_; clear hok a; intro a hok
  refine gq_ob hok (p := (rd.e == 0)) (v := .pointer (some ⟨b_rd, 0, none⟩)) (S' := [(31, .pointer (some ⟨b_rd, 0, none⟩))]) rfl rfl rfl (wantB_t _) rfl (by decide) (fun hp hS => (hS.conv (t := 31) rfl (cond_t hp)).sub (ts := [31]) rfl) (fun _ => fun _ _ => Ob_c TB_Wire1 rfl) ?_; clear hok a; intro a hok
  refine gq_ob hok (p := (rd.e == 0)) (v := .string rd.s) (S' := [(32, .pointer (some ⟨b_rd, 0, none⟩))]) rfl rfl rfl (wantB_t _) rfl (by decide) (fun hp hS => (hS.conv (t := 32) rfl (cond_t hp)).sub (ts := [32]) rfl) (fun hp => ?_) ?_
  ·have hg3 := eq_of_beq hp
   exact fun _ hw => Ob_load TB_Wire1 rfl rfl rfl (((H.bx 0 rfl).below hw).cell 0 rfl)
  clear hok a; intro a hok
  refine gq_ob hok (p := (rd.e == 0)) (v := .pointer (some ⟨b_rd, 0, none⟩)) (S' := [(0, .pointer (some ⟨b_rd, 0, none⟩))]) rfl rfl rfl (wantB_t _) rfl (by decide) (fun hp hS => hS.sub (ts := [0]) rfl) (fun _ => fun _ _ => Ob_c TB_Wire1 rfl) ?_; clear hok a; intro a hok
  refine gq_ob hok (p := (rd.e == 0)) (v := .pointer (some ⟨b_rd, 0, none⟩)) (S' := [(34, .pointer (some ⟨b_rd, 0, none⟩))]) rfl rfl rfl (wantB_t _) rfl (by decide) (fun hp hS => (hS.conv (t := 34) rfl (cond_t hp)).sub (ts := [34]) rfl) (fun _ => fun _ _ => Ob_c TB_Wire1 rfl) ?_; clear hok a; intro a hok
  refine gq_ob hok (p := (rd.e == 0)) (v := .pointer (some ⟨b_rd, 1, none⟩)) (S' := [(35, .pointer (some ⟨b_rd, 0, none⟩))]) rfl rfl rfl (wantB_t _) rfl (by decide) (fun hp hS => (hS.conv (t := 35) rfl (cond_t hp)).sub (ts := [35]) rfl) (fun _ => fun _ _ => Ob_c TB_Wire1 rfl) ?_; clear hok a; intro a hok
  refine gq_ob hok (p := (rd.e == 0)) (v := .int .i64 rd.at_) (S' := [(36, .pointer (some ⟨b_rd, 1, none⟩))]) rfl rfl rfl (wantB_t _) rfl (by decide) (fun hp hS => (hS.conv (t := 36) rfl (cond_t hp)).sub (ts := [36]) rfl) (fun hp => ?_) ?_
  ·have hg4 := eq_of_beq hp
   exact fun _ hw => Ob_load TB_Wire1 rfl rfl rfl (((H.bx 0 rfl).below hw).cell 1 rfl)
  clear hok a; intro a hok
  refine gq_ob hok (p := (rd.e == 0)) (v := .int .u8 (byteAt rd.s rd.at_.toNat : Int)) (S' := [(33, .string rd.s), (37, .int .i64 rd.at_)]) rfl rfl rfl (wantB_t _) rfl (by decide) (fun hp hS => ((hS.conv (t := 33) rfl (cond_t hp)).conv (t := 37) rfl (cond_t hp)).sub (ts := [33, 37]) rfl) (fun hp => ?_) ?_
  ·have hg5 := eq_of_beq hp
   have hi1 : rd.at_.toNat < rd.s.size := by omega
   exact fun _ hw => Ob_idxs TB_Wire1 (rd.at_.toNat) rfl rfl rfl rfl (by omega) hi1
  clear hok a; intro a hok
  refine gq_ob hok (p := (rd.e == 0)) (v := .bool (decide ((byteAt rd.s rd.at_.toNat : Int) > 1))) (S' := [(38, .int .u8 (byteAt rd.s rd.at_.toNat : Int))]) rfl rfl rfl (wantB_t _) rfl (by decide) (fun hp hS => (hS.conv (t := 38) rfl (cond_t hp)).sub (ts := [38]) rfl) (fun _ => fun _ _ => Ob_c TB_Wire1 rfl) ?_; clear hok a; intro a hok
  refine q_ob hok (v := .bool ((rd.e == 0) && (decide ((byteAt rd.s rd.at_.toNat : Int) > 1)))) rfl rfl (by decide) rfl (fun _ _ => Ob_pick rfl rfl rfl rfl (pick_and _ _)) ?_; clear hok a; intro a hok
  refine q_end hok [0, 2, 20, 40] rfl ?_; clear hok; intro w4 hb hok
  replace H := H.blw hb
  clear hb
  refine p_then ?_
  refine f_cond hok rfl (fun hc2 => ?_) (fun hc2 => ?_)
  ·replace hc2 := And.intro (eq_of_beq (andT1 hc2)) (of_decide_eq_true (andT2 hc2))
   refine f_region hok ?_; clear hok; intro hok
   refine s_runk TB_Wire1 hok 3 rfl rfl ?_; clear hok a; intro a hok
   refine h_store TB_Wire1 hok H 0 (us := [.int .i64 4]) (cl' := [.string rd.s, .int .i64 rd.at_, .int .i64 4]) rfl rfl rfl rfl rfl rfl rfl rfl rfl (by simp only [List.mem_cons, List.not_mem_nil, or_false]; rintro u rfl <;> rfl) (Nat.le_of_ble_eq_true rfl) rfl ?_; clear H; intro w5 H
   dsimp only [List.eraseIdx] at H
   refine s_end hok [0, 2, 20, 40] rfl ?_; clear hok; intro hok
   refine p_then (wp_seq ?_)
   refine wp_seq (f_region hok ?_); clear hok; intro hok
   refine s_runk TB_Wire1 hok 3 rfl rfl ?_; clear hok a; intro a hok
   refine s_ob hok (v := .int .i64 4) rfl rfl (by decide) rfl (Ob_load TB_Wire1 rfl rfl rfl ((H.bx 0 rfl).cell 2 rfl)) ?_; clear hok a; intro a hok
   refine s_runk TB_Wire1 hok 1 rfl rfl ?_; clear hok a; intro a hok
   refine s_end hok [0, 2, 20, 40, 48] rfl ?_; clear hok; intro hok
   refine p_then ?_
   refine wp_cond_true (hok.ev rfl) ?_
   refine wp_seq (f_region hok ?_); clear hok; intro hok
   refine s_runk TB_Wire1 hok 1 rfl rfl ?_; clear hok a; intro a hok
   refine s_end hok [0, 2, 20, 40, 48] rfl ?_; clear hok; intro hok
   refine p_then (wp_ret ?_)
   refine p_then_r ?_
   refine f_ret hok (run_results1 rfl hok rfl) ?_
   refine ⟨?_, I, (H.sub [(0, false)] rfl).eq ?_⟩
   ·clear hok H
    have e1 := rFlag_form hc2.1 (by rcases hc1 with h | h; (exact absurd hc2.1 h); exact h) (by omega); rw [rFlagV_no (by rw [e1]; exact (by decide : (4 : Int) ≠ 0))]
   ·clear hok H
    rw [rFlag_form hc2.1 (by rcases hc1 with h | h; (exact absurd hc2.1 h); exact h) (by omega)]; rfl
  ·replace hc2 := andF hc2 (fun h => ne_of_beq_false h) (fun h => of_decide_eq_false h)
   refine wp_skip ?_
   refine p_then (wp_seq ?_)
   refine wp_seq (f_region hok ?_); clear hok; intro hok
   refine s_runk TB_Wire1 hok 3 rfl rfl ?_; clear hok a; intro a hok
   refine s_ob hok (v := .int .i64 rd.e) rfl rfl (by decide) rfl (Ob_load TB_Wire1 rfl rfl rfl ((H.bx 0 rfl).cell 2 rfl)) ?_; clear hok a; intro a hok
   refine s_runk TB_Wire1 hok 1 rfl rfl ?_; clear hok a; intro a hok
   refine s_end hok [0, 2, 20, 40, 48] rfl ?_; clear hok; intro hok
   refine p_then ?_
   refine f_cond hok rfl (fun hc3 => ?_) (fun hc3 => ?_)
   ·replace hc3 := bne_iff_ne.1 hc3
    refine wp_seq (f_region hok ?_); clear hok; intro hok
    refine s_runk TB_Wire1 hok 1 rfl rfl ?_; clear hok a; intro a hok
    refine s_end hok [0, 2, 20, 40, 48] rfl ?_; clear hok; intro hok
    refine p_then (wp_ret ?_)
    refine p_then_r ?_
    refine f_ret hok (run_results1 rfl hok rfl) ?_
    refine ⟨?_, I, (H.sub [(0, false)] rfl).eq ?_⟩
    ·clear hok H
     rw [rFlagV_no (by rw [rFlag_err hc3]; exact hc3)]
    ·clear hok H
     rw [rFlag_err hc3]; rfl
   ·replace hc3 := bne_eq_false_iff_eq.1 hc3
    refine wp_skip ?_
    refine p_then (wp_seq ?_)
    refine f_quietd (by kernel_rfl) (by kernel_rfl) hok ?_; clear hok; intro hok
    refine q_runk TB_Wire1 hok 3 rfl rfl ?_; clear hok a; intro a hok
    refine q_ob hok (v := .string rd.s) rfl rfl (by decide) rfl (fun _ hw => Ob_load TB_Wire1 rfl rfl rfl (((H.bx 0 rfl).below hw).cell 0 rfl)) ?_; clear hok a; intro a hok
    refine q_runk TB_Wire1 hok 3 rfl rfl ?_; clear hok a; intro a hok
    refine q_ob hok (v := .int .i64 rd.at_) rfl rfl (by decide) rfl (fun _ hw => Ob_load TB_Wire1 rfl rfl rfl (((H.bx 0 rfl).below hw).cell 1 rfl)) ?_; clear hok a; intro a hok
    have hi2 : rd.at_.toNat < rd.s.size := by omega
    refine q_ob hok (v := .int .u8 (byteAt rd.s rd.at_.toNat : Int)) rfl rfl (by decide) rfl (fun _ hw => Ob_idxs TB_Wire1 (rd.at_.toNat) rfl rfl rfl rfl (by omega) hi2) ?_; clear hok a; intro a hok
    refine q_runk TB_Wire1 hok 2 rfl rfl ?_; clear hok a; intro a hok
    refine q_end hok [0, 2, 20, 40, 48, 3] rfl ?_; clear hok; intro w6 hb hok
    replace H := H.blw hb
    clear hb
    refine p_then (wp_seq (f_region hok ?_)); clear hok; intro hok
    refine s_runk TB_Wire1 hok 4 rfl rfl ?_; clear hok a; intro a hok
    refine s_ob hok (v := .int .i64 rd.at_) rfl rfl (by decide) rfl (Ob_load TB_Wire1 rfl rfl rfl ((H.bx 0 rfl).cell 1 rfl)) ?_; clear hok a; intro a hok
    refine s_ob hok (v := .int .i64 (rd.at_ + 1)) rfl rfl (by decide) rfl (Ob_add rfl rfl rfl (IntWalk.i64_in _ (by omega))) ?_; clear hok a; intro a hok
    refine s_runk TB_Wire1 hok 2 rfl rfl ?_; clear hok a; intro a hok
    refine h_store TB_Wire1 hok H 0 (us := [.int .i64 (rd.at_ + 1)]) (cl' := [.string rd.s, .int .i64 (rd.at_ + 1), .int .i64 rd.e]) rfl rfl rfl rfl rfl rfl rfl rfl rfl (by simp only [List.mem_cons, List.not_mem_nil, or_false]; rintro u rfl <;> rfl) (Nat.le_of_ble_eq_true rfl) rfl ?_; clear H; intro w7 H
    dsimp only [List.eraseIdx] at H
    refine s_end hok [0, 2, 20, 40, 48, 3] rfl ?_; clear hok; intro hok
    refine p_then (wp_seq (f_region hok ?_)); clear hok; intro hok
    refine s_runk TB_Wire1 hok 2 rfl rfl ?_; clear hok a; intro a hok
    refine s_end hok [0, 2, 20, 40, 48, 3] rfl ?_; clear hok; intro hok
    refine p_then (wp_ret ?_)
    refine f_ret hok (run_results1 rfl hok rfl) ?_
    refine ⟨?_, I, (H.sub [(0, false)] rfl).eq ?_⟩
    ·clear hok H
     have e1 := rFlag_fine hc3 (by rcases hc1 with h | h; (exact absurd hc3 h); exact h) (by rcases hc2 with h | h; (exact absurd hc3 h); omega); rw [rFlagV_yes (by rw [e1]; exact hc3)]; congr 1; rw [Bool.eq_iff_iff]; simp <;> omega
    ·clear hok H
     rw [rFlag_fine hc3 (by rcases hc1 with h | h; (exact absurd hc3 h); exact h) (by rcases hc2 with h | h; (exact absurd hc3 h); omega)]; rfl

def rLeft (r : DReaderR) : Int := if r.e ≠ 0 then 0 else (r.s.size : Int) - r.at_

def rEnd (r : DReaderR) : Int := if r.e = 0 ∧ r.at_ < (r.s.size : Int) then 4 else r.e

-- (no (*catena/catenaref02.Reader).Left in this seat)

set_option maxHeartbeats 1000000 in
theorem c_r2_rEnd {I D : Dm} (b_rd : Nat) (rd : DReaderR) (w : World) (H : St I D w [BxC b_rd 61 [.string rd.s, .int .i64 rd.at_, .int .i64 rd.e]]) (hr : rdOk rd) :
  Calls Tryz.prog 28 #[.pointer (some ⟨b_rd, 0, none⟩)] w (Ret fun r w' => r = .int .i64 (rEnd rd) ∧ ∃ I', Hf I D w I' w' [BxC b_rd 61 (cDReaderR rd)]) := by
 replace H := H.hf
 obtain ⟨hr1, hr2, hr3, hr4, hr5⟩ := hr
 have hml : maxLen = 9223372036854775807 := (by decide)
 refine f_enter 24 Tryz.func28 rfl rfl (Nat.le_of_ble_eq_true rfl) fun a hok => ?_
 replace hok := hok.sub (ts := [0]) rfl
 refine wp_seq (f_region hok ?_); clear hok; intro hok
 refine s_runk TB_Wire1 hok 1 rfl rfl ?_; clear hok a; intro a hok
 refine s_end hok [0, 2] rfl ?_; clear hok; intro hok
 refine p_then (wp_seq ?_)
 refine wp_seq ?_
 refine f_quietd (by kernel_rfl) (by kernel_rfl) hok ?_; clear hok; intro hok
 refine q_runk TB_Wire1 hok 3 rfl rfl ?_; clear hok a; intro a hok
 refine q_ob hok (v := .int .i64 rd.e) rfl rfl (by decide) rfl (fun _ hw => Ob_load TB_Wire1 rfl rfl rfl (((H.bx 0 rfl).below hw).cell 2 rfl)) ?_; clear hok a; intro a hok
 refine q_runk TB_Wire1 hok 2 rfl rfl ?_; clear hok a; intro a hok
 refine gq_ob hok (p := (rd.e == 0)) (v := .pointer (some ⟨b_rd, 0, none⟩)) (S' := [(0, .pointer (some ⟨b_rd, 0, none⟩))]) rfl rfl rfl (wantB_t _) rfl (by decide) (fun hp hS => hS.sub (ts := [0]) rfl) (fun _ => fun _ _ => Ob_c TB_Wire1 rfl) ?_; clear hok a; intro a hok
 refine gq_ob hok (p := (rd.e == 0)) (v := .pointer (some ⟨b_rd, 0, none⟩)) (S' := [(9, .pointer (some ⟨b_rd, 0, none⟩))]) rfl rfl rfl (wantB_t _) rfl (by decide) (fun hp hS => (hS.conv (t := 9) rfl (cond_t hp)).sub (ts := [9]) rfl) (fun _ => fun _ _ => Ob_c TB_Wire1 rfl) ?_; clear hok a; intro a hok
 refine gq_ob hok (p := (rd.e == 0)) (v := .pointer (some ⟨b_rd, 1, none⟩)) (S' := [(10, .pointer (some ⟨b_rd, 0, none⟩))]) rfl rfl rfl (wantB_t _) rfl (by decide) (fun hp hS => (hS.conv (t := 10) rfl (cond_t hp)).sub (ts := [10]) rfl) (fun _ => fun _ _ => Ob_c TB_Wire1 rfl) ?_; clear hok a; intro a hok
 refine gq_ob hok (p := (rd.e == 0)) (v := .int .i64 rd.at_) (S' := [(11, .pointer (some ⟨b_rd, 1, none⟩))]) rfl rfl rfl (wantB_t _) rfl (by decide) (fun hp hS => (hS.conv (t := 11) rfl (cond_t hp)).sub (ts := [11]) rfl) (fun hp => ?_) ?_
 ·have hg1 := eq_of_beq hp
  exact fun _ hw => Ob_load TB_Wire1 rfl rfl rfl (((H.bx 0 rfl).below hw).cell 1 rfl)
 clear hok a; intro a hok
 refine gq_ob hok (p := (rd.e == 0)) (v := .pointer (some ⟨b_rd, 0, none⟩)) (S' := [(0, .pointer (some ⟨b_rd, 0, none⟩))]) rfl rfl rfl (wantB_t _) rfl (by decide) (fun hp hS => hS.sub (ts := [0]) rfl) (fun _ => fun _ _ => Ob_c TB_Wire1 rfl) ?_; clear hok a; intro a hok
 refine gq_ob hok (p := (rd.e == 0)) (v := .pointer (some ⟨b_rd, 0, none⟩)) (S' := [(13, .pointer (some ⟨b_rd, 0, none⟩))]) rfl rfl rfl (wantB_t _) rfl (by decide) (fun hp hS => (hS.conv (t := 13) rfl (cond_t hp)).sub (ts := [13]) rfl) (fun _ => fun _ _ => Ob_c TB_Wire1 rfl) ?_; clear hok a; intro a hok
 refine gq_ob hok (p := (rd.e == 0)) (v := .pointer (some ⟨b_rd, 0, none⟩)) (S' := [(14, .pointer (some ⟨b_rd, 0, none⟩))]) rfl rfl rfl (wantB_t _) rfl (by decide) (fun hp hS => (hS.conv (t := 14) rfl (cond_t hp)).sub (ts := [14]) rfl) (fun _ => fun _ _ => Ob_c TB_Wire1 rfl) ?_; clear hok a; intro a hok
 refine gq_ob hok (p := (rd.e == 0)) (v := .string rd.s) (S' := [(15, .pointer (some ⟨b_rd, 0, none⟩))]) rfl rfl rfl (wantB_t _) rfl (by decide) (fun hp hS => (hS.conv (t := 15) rfl (cond_t hp)).sub (ts := [15]) rfl) (fun hp => ?_) ?_
 ·have hg2 := eq_of_beq hp
  exact fun _ hw => Ob_load TB_Wire1 rfl rfl rfl (((H.bx 0 rfl).below hw).cell 0 rfl)
 clear hok a; intro a hok
 refine gq_ob hok (p := (rd.e == 0)) (v := .int .i64 (rd.s.size : Int)) (S' := [(16, .string rd.s)]) rfl rfl rfl (wantB_t _) rfl (by decide) (fun hp hS => (hS.conv (t := 16) rfl (cond_t hp)).sub (ts := [16]) rfl) (fun _ => fun _ _ => Ob_c TB_Wire1 rfl) ?_; clear hok a; intro a hok
 refine gq_ob hok (p := (rd.e == 0)) (v := .bool (decide (rd.at_ < (rd.s.size : Int)))) (S' := [(12, .int .i64 rd.at_), (17, .int .i64 (rd.s.size : Int))]) rfl rfl rfl (wantB_t _) rfl (by decide) (fun hp hS => ((hS.conv (t := 12) rfl (cond_t hp)).conv (t := 17) rfl (cond_t hp)).sub (ts := [12, 17]) rfl) (fun _ => fun _ _ => Ob_c TB_Wire1 rfl) ?_; clear hok a; intro a hok
 refine q_ob hok (v := .bool ((rd.e == 0) && (decide (rd.at_ < (rd.s.size : Int))))) rfl rfl (by decide) rfl (fun _ _ => Ob_pick rfl rfl rfl rfl (pick_and _ _)) ?_; clear hok a; intro a hok
 refine q_end hok [0, 2, 19] rfl ?_; clear hok; intro w1 hb hok
 replace H := H.blw hb
 clear hb
 refine p_then ?_
 refine f_cond hok rfl (fun hc1 => ?_) (fun hc1 => ?_)
 ·replace hc1 := And.intro (eq_of_beq (andT1 hc1)) (of_decide_eq_true (andT2 hc1))
  refine wp_seq (f_region hok ?_); clear hok; intro hok
  refine s_runk TB_Wire1 hok 1 rfl rfl ?_; clear hok a; intro a hok
  refine s_end hok [0, 2, 19] rfl ?_; clear hok; intro hok
  refine p_then (wp_ret ?_)
  refine p_then_r ?_
  refine f_ret hok (run_results1 rfl hok rfl) ?_
  refine ⟨?_, I, (H.sub [(0, false)] rfl).eq ?_⟩
  ·clear hok H
   (unfold rEnd; (repeat' split) <;> first | rfl | (exfalso; omega) | grind)
  ·clear hok H
   rfl
 ·replace hc1 := andF hc1 (fun h => ne_of_beq_false h) (fun h => of_decide_eq_false h)
  refine wp_skip ?_
  refine p_then (wp_seq (f_region hok ?_)); clear hok; intro hok
  refine s_runk TB_Wire1 hok 3 rfl rfl ?_; clear hok a; intro a hok
  refine s_ob hok (v := .int .i64 rd.e) rfl rfl (by decide) rfl (Ob_load TB_Wire1 rfl rfl rfl ((H.bx 0 rfl).cell 2 rfl)) ?_; clear hok a; intro a hok
  refine s_runk TB_Wire1 hok 1 rfl rfl ?_; clear hok a; intro a hok
  refine s_end hok [0, 2, 19] rfl ?_; clear hok; intro hok
  refine p_then (wp_ret ?_)
  refine f_ret hok (run_results1 rfl hok rfl) ?_
  refine ⟨?_, I, (H.sub [(0, false)] rfl).eq ?_⟩
  ·clear hok H
   (unfold rEnd; (repeat' split) <;> first | rfl | (exfalso; omega) | grind)
  ·clear hok H
   rfl

end Go.Proofs.YthmjkcdpbbcdgaaGreat
