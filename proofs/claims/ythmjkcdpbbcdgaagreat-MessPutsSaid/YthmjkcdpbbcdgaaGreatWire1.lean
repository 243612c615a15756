/- The walks of the reference of 'wire': what writes and what reads parts of a message. -/
import Derived.Test.YthmjkcdpbbcdgaaGreatVarnum
namespace Go.Proofs.YthmjkcdpbbcdgaaGreat
open Go.RowKit

structure DWriterR where
 s : ByteArray
 e : Int

instance : Inhabited DWriterR := ⟨⟨ByteArray.empty, 0⟩⟩

instance : DecidableEq DWriterR := fun x y => by cases x; cases y; simp only [DWriterR.mk.injEq]; infer_instance

def okDWriterR (x : DWriterR) : Prop := x.s.size ≤ maxLen ∧ i64ok x.e

def cDWriterR (x : DWriterR) : List Value := [.string x.s, .int .i64 x.e]

def RDWriterR : Rp DWriterR := Rp.flat 2 okDWriterR (fun x => cDWriterR x) (fun _ => rfl) (fun x c hc => by simp only [cDWriterR, List.mem_cons, List.not_mem_nil, or_false] at hc; rcases hc with rfl | rfl <;> rfl)

structure DReaderR where
 s : ByteArray
 at_ : Int
 e : Int

instance : Inhabited DReaderR := ⟨⟨ByteArray.empty, 0, 0⟩⟩

instance : DecidableEq DReaderR := fun x y => by cases x; cases y; simp only [DReaderR.mk.injEq]; infer_instance

structure DReader where
 s : ByteArray
 at_ : Int
 e : Int
 made : Bool

instance : Inhabited DReader := ⟨⟨ByteArray.empty, 0, 0, false⟩⟩

instance : DecidableEq DReader := fun x y => by cases x; cases y; simp only [DReader.mk.injEq]; infer_instance

def cDReader (x : DReader) : List Value := [.string x.s, .int .i64 x.at_, .int .i64 x.e, .bool x.made]

def TB_Wire1L : TabL := ⟨[(62464, 0), (62465, 1), (62466, 2), (79872, 0), (79873, 1)], [9], [], [], [(3, (1, false)), (9, (1, false))]⟩

def TB_Wire1 : Tab Tryz.prog := ⟨TB_Wire1L, by kernel_rfl⟩

theorem fn_82_Wire1 : IsFn Tryz.prog 82 := ⟨_, Tryz.func82, by kernel_rfl, by kernel_rfl⟩

theorem fn_84_Wire1 : IsFn Tryz.prog 84 := ⟨_, Tryz.func84, by kernel_rfl, by kernel_rfl⟩

-- what is written: the text so far, the first error
def wPut (w : DWriterR) (t : ByteArray) : DWriterR := if w.e = 0 then { w with s := w.s ++ t } else w

def wNum (w : DWriterR) (n : Int) : DWriterR := if w.e = 0 ∧ n < 0 then { w with e := 5 } else wPut w (vput n.toNat)

def wText (w : DWriterR) (t : ByteArray) : DWriterR := wPut w (vput t.size ++ t)

def wFlag (w : DWriterR) (b : Bool) : DWriterR := wPut w (vput (if b then 1 else 0))

def wDone (w : DWriterR) : ByteArray := if w.e = 0 then w.s else ByteArray.empty

theorem vput_le (n : Nat) : (vput n).size ≤ 9 := by
 have := needsN_le n
 rw [vput_size]; split <;> omega

theorem wPut_yes {w : DWriterR} (h : w.e = 0) (t : ByteArray) : wPut w t = { w with s := w.s ++ t } := if_pos h

theorem wPut_no {w : DWriterR} (h : w.e ≠ 0) (t : ByteArray) : wPut w t = w := if_neg h

set_option maxHeartbeats 1000000 in
theorem c_r2_wBig {I D : Dm} (b_wr : Nat) (wr : DWriterR) (n0 : Nat) (w : World) (h_n0 : n0 < 18446744073709551616) (H : St I D w [BxC b_wr 78 [.string wr.s, .int .i64 wr.e]]) (hsz : wr.s.size + 9 ≤ maxLen) :
  Calls Tryz.prog 84 #[.pointer (some ⟨b_wr, 0, none⟩), .int .u64 (n0 : Int)] w (Ret fun r w' => r = .tuple #[] ∧ ∃ I', Hf I D w I' w' [BxC b_wr 78 (cDWriterR (wPut wr (vput n0)))]) := by
 replace H := H.hf
 have hv := vput_le n0
 refine f_enter 19 Tryz.func84 rfl rfl (Nat.le_of_ble_eq_true rfl) fun a hok => ?_
 replace hok := hok.sub (ts := [0, 1]) rfl
 refine wp_seq (f_region hok ?_); clear hok; intro hok
 refine s_runk TB_Wire1 hok 3 rfl rfl ?_; clear hok a; intro a hok
 refine s_ob hok (v := .int .i64 wr.e) rfl rfl (by decide) rfl (Ob_load TB_Wire1 rfl rfl rfl ((H.bx 0 rfl).cell 1 rfl)) ?_; clear hok a; intro a hok
 refine s_runk TB_Wire1 hok 1 rfl rfl ?_; clear hok a; intro a hok
 refine s_end hok [0, 1, 8] rfl ?_; clear hok; intro hok
 refine p_then ?_
 refine f_cond hok rfl (fun hc1 => ?_) (fun hc1 => ?_)
 ·replace hc1 := eq_of_beq hc1
  refine f_quietS 8 (by kernel_rfl) (by kernel_rfl) (by kernel_rfl) (by kernel_rfl) (by kernel_rfl) hok ?_; clear hok; intro hok
  refine q_runk TB_Wire1 hok 4 rfl rfl ?_; clear hok a; intro a hok
  refine q_ob hok (v := .string wr.s) rfl rfl (by decide) rfl (fun _ hw => Ob_load TB_Wire1 rfl rfl rfl (((H.bx 0 rfl).below hw).cell 0 rfl)) ?_; clear hok a; intro a hok
  refine q_runk TB_Wire1 hok 1 rfl rfl ?_; clear hok a; intro a hok
  refine q_call hok (caps := #[]) (v := .string (vput n0)) fn_82_Wire1 rfl rfl rfl rfl rfl (by decide) rfl rfl (fun _ hw => c_ref01_Put n0 _ h_n0) ?_; clear hok a; intro a hok
  refine q_ob hok (v := .string (wr.s ++ (vput n0))) rfl rfl (by decide) rfl (fun _ hw => Ob_cat rfl rfl rfl (by omega)) ?_; clear hok a; intro a hok
  refine q_endS hok [0, 1, 8, 9, 10, 11, 12, 13, 14, 15, 16] rfl ?_; clear hok; intro w1 hb hok
  replace H := H.blw hb
  clear hb
  refine s_runk TB_Wire1 hok 2 rfl rfl ?_; clear hok a; intro a hok
  refine h_store TB_Wire1 hok H 0 (us := [.string (wr.s ++ (vput n0))]) (cl' := [.string (wr.s ++ (vput n0)), .int .i64 wr.e]) rfl rfl rfl rfl rfl rfl rfl rfl rfl (by simp only [List.mem_cons, List.not_mem_nil, or_false]; rintro u rfl <;> rfl) (Nat.le_of_ble_eq_true rfl) rfl ?_; clear H; intro w2 H
  dsimp only [List.eraseIdx] at H
  refine s_end hok [0, 1, 8] rfl ?_; clear hok; intro hok
  refine f_fall hok (run_results0 rfl) ?_
  refine ⟨?_, I, (H.sub [(0, false)] rfl).eq ?_⟩
  ·clear hok H
   rfl
  ·clear hok H
   rw [wPut_yes hc1]; rfl
 ·replace hc1 := ne_of_beq_false hc1
  refine wp_skip ?_
  refine f_fall hok (run_results0 rfl) ?_
  refine ⟨?_, I, (H.sub [(0, false)] rfl).eq ?_⟩
  ·clear hok H
   rfl
  ·clear hok H
   rw [wPut_no hc1]; rfl

set_option maxHeartbeats 1000000 in
theorem c_r2_wNum {I D : Dm} (b_wr : Nat) (wr : DWriterR) (n0 : Int) (w : World) (h_n0 : i64ok n0) (H : St I D w [BxC b_wr 78 [.string wr.s, .int .i64 wr.e]]) (hsz : wr.s.size + 9 ≤ maxLen) :
  Calls Tryz.prog 39 #[.pointer (some ⟨b_wr, 0, none⟩), .int .i64 n0] w (Ret fun r w' => r = .tuple #[] ∧ ∃ I', Hf I D w I' w' [BxC b_wr 78 (cDWriterR (wNum wr n0))]) := by
 replace H := H.hf
 unfold i64ok at h_n0
 have hv := vput_le n0.toNat
 refine f_enter 32 Tryz.func39 rfl rfl (Nat.le_of_ble_eq_true rfl) fun a hok => ?_
 replace hok := hok.sub (ts := [0, 1]) rfl
 refine wp_seq ?_
 refine wp_seq (f_region hok ?_); clear hok; intro hok
 refine s_runk TB_Wire1 hok 3 rfl rfl ?_; clear hok a; intro a hok
 refine s_ob hok (v := .int .i64 wr.e) rfl rfl (by decide) rfl (Ob_load TB_Wire1 rfl rfl rfl ((H.bx 0 rfl).cell 1 rfl)) ?_; clear hok a; intro a hok
 refine s_runk TB_Wire1 hok 2 rfl rfl ?_; clear hok a; intro a hok
 refine g_ob hok (p := (wr.e == 0)) (v := .int .i64 n0) (S' := [(1, .int .i64 n0)]) rfl rfl rfl (wantB_t _) rfl (by decide) (fun hp hS => hS.sub (ts := [1]) rfl) (fun _ => Ob_c TB_Wire1 rfl) ?_; clear hok a; intro a hok
 refine g_ob hok (p := (wr.e == 0)) (v := .bool (decide (n0 < 0))) (S' := [(10, .int .i64 n0)]) rfl rfl rfl (wantB_t _) rfl (by decide) (fun hp hS => (hS.conv (t := 10) rfl (cond_t hp)).sub (ts := [10]) rfl) (fun _ => Ob_c TB_Wire1 rfl) ?_; clear hok a; intro a hok
 refine s_ob hok (v := .bool ((wr.e == 0) && (decide (n0 < 0)))) rfl rfl (by decide) rfl (Ob_pick rfl rfl rfl rfl (pick_and _ _)) ?_; clear hok a; intro a hok
 refine s_end hok [0, 1, 12] rfl ?_; clear hok; intro hok
 refine p_then ?_
 refine f_cond hok rfl (fun hc1 => ?_) (fun hc1 => ?_)
 ·replace hc1 := And.intro (eq_of_beq (andT1 hc1)) (of_decide_eq_true (andT2 hc1))
  refine f_region hok ?_; clear hok; intro hok
  refine s_runk TB_Wire1 hok 3 rfl rfl ?_; clear hok a; intro a hok
  refine h_store TB_Wire1 hok H 0 (us := [.int .i64 5]) (cl' := [.string wr.s, .int .i64 5]) rfl rfl rfl rfl rfl rfl rfl rfl rfl (by simp only [List.mem_cons, List.not_mem_nil, or_false]; rintro u rfl <;> rfl) (Nat.le_of_ble_eq_true rfl) rfl ?_; clear H; intro w1 H
  dsimp only [List.eraseIdx] at H
  refine s_end hok [0, 1, 12] rfl ?_; clear hok; intro hok
  refine p_then (wp_seq (f_region hok ?_)); clear hok; intro hok
  refine s_runk TB_Wire1 hok 3 rfl rfl ?_; clear hok a; intro a hok
  refine s_ob hok (v := .int .i64 5) rfl rfl (by decide) rfl (Ob_load TB_Wire1 rfl rfl rfl ((H.bx 0 rfl).cell 1 rfl)) ?_; clear hok a; intro a hok
  refine s_runk TB_Wire1 hok 1 rfl rfl ?_; clear hok a; intro a hok
  refine s_end hok [0, 1, 12, 20] rfl ?_; clear hok; intro hok
  refine p_then ?_
  refine wp_cond_false (hok.ev rfl) ?_
  refine wp_skip ?_
  refine f_fall hok (run_results0 rfl) ?_
  refine ⟨?_, I, (H.sub [(0, false)] rfl).eq ?_⟩
  ·clear hok H
   rfl
  ·clear hok H
   simp only [wNum, wPut]; (repeat' split) <;> first | rfl | (exfalso; omega)
 ·replace hc1 := andF hc1 (fun h => ne_of_beq_false h) (fun h => of_decide_eq_false h)
  refine wp_skip ?_
  refine p_then (wp_seq (f_region hok ?_)); clear hok; intro hok
  refine s_runk TB_Wire1 hok 3 rfl rfl ?_; clear hok a; intro a hok
  refine s_ob hok (v := .int .i64 wr.e) rfl rfl (by decide) rfl (Ob_load TB_Wire1 rfl rfl rfl ((H.bx 0 rfl).cell 1 rfl)) ?_; clear hok a; intro a hok
  refine s_runk TB_Wire1 hok 1 rfl rfl ?_; clear hok a; intro a hok
  refine s_end hok [0, 1, 12, 20] rfl ?_; clear hok; intro hok
  refine p_then ?_
  refine f_cond hok rfl (fun hc2 => ?_) (fun hc2 => ?_)
  ·replace hc2 := eq_of_beq hc2
   refine f_quietS 9 (by kernel_rfl) (by kernel_rfl) (by kernel_rfl) (by kernel_rfl) (by kernel_rfl) hok ?_; clear hok; intro hok
   refine q_runk TB_Wire1 hok 4 rfl rfl ?_; clear hok a; intro a hok
   refine q_ob hok (v := .string wr.s) rfl rfl (by decide) rfl (fun _ hw => Ob_load TB_Wire1 rfl rfl rfl (((H.bx 0 rfl).below hw).cell 0 rfl)) ?_; clear hok a; intro a hok
   refine q_runk TB_Wire1 hok 1 rfl rfl ?_; clear hok a; intro a hok
   have hcv1 : ∀ w : World, (convert 3 23 (.int .i64 n0)).run Tryz.prog w = .ok (.int .u64 ((n0).toNat : Int)) w := fun w => run_convi Tryz.underlying3 Tryz.underlying23 _ _ ((IntWalk.u64_in _ (by omega)).trans (by omega)) w
   refine q_ob hok (v := .int .u64 ((n0).toNat : Int)) rfl rfl (by decide) rfl (fun _ hw => Ob_conv rfl rfl (hcv1 _)) ?_; clear hok a; intro a hok
   refine q_call hok (caps := #[]) (v := .string (vput ((n0).toNat))) fn_82_Wire1 rfl rfl rfl rfl rfl (by decide) rfl rfl (fun _ hw => c_ref01_Put ((n0).toNat) _ (show ((n0).toNat) < 18446744073709551616 by omega)) ?_; clear hok a; intro a hok
   refine q_ob hok (v := .string (wr.s ++ (vput ((n0).toNat)))) rfl rfl (by decide) rfl (fun _ hw => Ob_cat rfl rfl rfl (by omega)) ?_; clear hok a; intro a hok
   refine q_endS hok [0, 1, 12, 20, 21, 22, 23, 24, 25, 26, 27, 28, 29] rfl ?_; clear hok; intro w2 hb hok
   replace H := H.blw hb
   clear hb
   refine s_runk TB_Wire1 hok 2 rfl rfl ?_; clear hok a; intro a hok
   refine h_store TB_Wire1 hok H 0 (us := [.string (wr.s ++ (vput ((n0).toNat)))]) (cl' := [.string (wr.s ++ (vput ((n0).toNat))), .int .i64 wr.e]) rfl rfl rfl rfl rfl rfl rfl rfl rfl (by simp only [List.mem_cons, List.not_mem_nil, or_false]; rintro u rfl <;> rfl) (Nat.le_of_ble_eq_true rfl) rfl ?_; clear H; intro w3 H
   dsimp only [List.eraseIdx] at H
   refine s_end hok [0, 1, 12, 20] rfl ?_; clear hok; intro hok
   refine f_fall hok (run_results0 rfl) ?_
   refine ⟨?_, I, (H.sub [(0, false)] rfl).eq ?_⟩
   ·clear hok H
    rfl
   ·clear hok H
    simp only [wNum, wPut]; (repeat' split) <;> first | rfl | (exfalso; omega)
  ·replace hc2 := ne_of_beq_false hc2
   refine wp_skip ?_
   refine f_fall hok (run_results0 rfl) ?_
   refine ⟨?_, I, (H.sub [(0, false)] rfl).eq ?_⟩
   ·clear hok H
    rfl
   ·clear hok H
    simp only [wNum, wPut]; (repeat' split) <;> first | rfl | (exfalso; omega)

set_option maxHeartbeats 1000000 in
theorem c_r2_wText {I D : Dm} (b_wr : Nat) (wr : DWriterR) (s : ByteArray) (w : World) (h_s : s.size ≤ maxLen) (H : St I D w [BxC b_wr 78 [.string wr.s, .int .i64 wr.e]]) (hsz : wr.s.size + 9 + s.size ≤ maxLen) :
  Calls Tryz.prog 86 #[.pointer (some ⟨b_wr, 0, none⟩), .string s] w (Ret fun r w' => r = .tuple #[] ∧ ∃ I', Hf I D w I' w' [BxC b_wr 78 (cDWriterR (wText wr s))]) := by
 replace H := H.hf
 have hv := vput_le s.size
 have hml : maxLen = 9223372036854775807 := (by decide)
 have hap : (wr.s ++ vput s.size).size = wr.s.size + (vput s.size).size := ByteArray.size_append
 refine f_enter 23 Tryz.func86 rfl rfl (Nat.le_of_ble_eq_true rfl) fun a hok => ?_
 replace hok := hok.sub (ts := [0, 1]) rfl
 refine wp_seq (f_region hok ?_); clear hok; intro hok
 refine s_runk TB_Wire1 hok 3 rfl rfl ?_; clear hok a; intro a hok
 refine s_ob hok (v := .int .i64 wr.e) rfl rfl (by decide) rfl (Ob_load TB_Wire1 rfl rfl rfl ((H.bx 0 rfl).cell 1 rfl)) ?_; clear hok a; intro a hok
 refine s_runk TB_Wire1 hok 1 rfl rfl ?_; clear hok a; intro a hok
 refine s_end hok [0, 1, 8] rfl ?_; clear hok; intro hok
 refine p_then ?_
 refine f_cond hok rfl (fun hc1 => ?_) (fun hc1 => ?_)
 ·replace hc1 := eq_of_beq hc1
  refine f_quietS 12 (by kernel_rfl) (by kernel_rfl) (by kernel_rfl) (by kernel_rfl) (by kernel_rfl) hok ?_; clear hok; intro hok
  refine q_runk TB_Wire1 hok 4 rfl rfl ?_; clear hok a; intro a hok
  refine q_ob hok (v := .string wr.s) rfl rfl (by decide) rfl (fun _ hw => Ob_load TB_Wire1 rfl rfl rfl (((H.bx 0 rfl).below hw).cell 0 rfl)) ?_; clear hok a; intro a hok
  refine q_runk TB_Wire1 hok 2 rfl rfl ?_; clear hok a; intro a hok
  have hcv1 : ∀ w : World, (convert 3 23 (.int .i64 (s.size : Int))).run Tryz.prog w = .ok (.int .u64 (s.size : Int)) w := fun w => run_convi Tryz.underlying3 Tryz.underlying23 _ _ (IntWalk.u64_in _ (by omega)) w
  refine q_ob hok (v := .int .u64 (s.size : Int)) rfl rfl (by decide) rfl (fun _ hw => Ob_conv rfl rfl (hcv1 _)) ?_; clear hok a; intro a hok
  refine q_call hok (caps := #[]) (v := .string (vput s.size)) fn_82_Wire1 rfl rfl rfl rfl rfl (by decide) rfl rfl (fun _ hw => c_ref01_Put s.size _ (show s.size < 18446744073709551616 by omega)) ?_; clear hok a; intro a hok
  refine q_ob hok (v := .string (wr.s ++ (vput s.size))) rfl rfl (by decide) rfl (fun _ hw => Ob_cat rfl rfl rfl (by omega)) ?_; clear hok a; intro a hok
  refine q_runk TB_Wire1 hok 1 rfl rfl ?_; clear hok a; intro a hok
  refine q_ob hok (v := .string ((wr.s ++ (vput s.size)) ++ s)) rfl rfl (by decide) rfl (fun _ hw => Ob_cat rfl rfl rfl (by omega)) ?_; clear hok a; intro a hok
  refine q_endS hok [0, 1, 8, 9, 10, 11, 12, 13, 14, 15, 16, 17, 18, 19, 20] rfl ?_; clear hok; intro w1 hb hok
  replace H := H.blw hb
  clear hb
  refine s_runk TB_Wire1 hok 2 rfl rfl ?_; clear hok a; intro a hok
  refine h_store TB_Wire1 hok H 0 (us := [.string ((wr.s ++ (vput s.size)) ++ s)]) (cl' := [.string ((wr.s ++ (vput s.size)) ++ s), .int .i64 wr.e]) rfl rfl rfl rfl rfl rfl rfl rfl rfl (by simp only [List.mem_cons, List.not_mem_nil, or_false]; rintro u rfl <;> rfl) (Nat.le_of_ble_eq_true rfl) rfl ?_; clear H; intro w2 H
  dsimp only [List.eraseIdx] at H
  refine s_end hok [0, 1, 8] rfl ?_; clear hok; intro hok
  refine f_fall hok (run_results0 rfl) ?_
  refine ⟨?_, I, (H.sub [(0, false)] rfl).eq ?_⟩
  ·clear hok H
   rfl
  ·clear hok H
   unfold wText; rw [wPut_yes hc1, ← ByteArray.append_assoc]; rfl
 ·replace hc1 := ne_of_beq_false hc1
  refine wp_skip ?_
  refine f_fall hok (run_results0 rfl) ?_
  refine ⟨?_, I, (H.sub [(0, false)] rfl).eq ?_⟩
  ·clear hok H
   rfl
  ·clear hok H
   unfold wText; rw [wPut_no hc1]; rfl

set_option maxHeartbeats 1000000 in
theorem c_r2_wFlag {I D : Dm} (b_wr : Nat) (wr : DWriterR) (is : Bool) (w : World) (H : St I D w [BxC b_wr 78 [.string wr.s, .int .i64 wr.e]]) (hsz : wr.s.size + 9 ≤ maxLen) :
  Calls Tryz.prog 85 #[.pointer (some ⟨b_wr, 0, none⟩), .bool is] w (Ret fun r w' => r = .tuple #[] ∧ ∃ I', Hf I D w I' w' [BxC b_wr 78 (cDWriterR (wFlag wr is))]) := by
 replace H := H.hf
 refine f_enter 9 Tryz.func85 rfl rfl (Nat.le_of_ble_eq_true rfl) fun a hok => ?_
 replace hok := hok.sub (ts := [0, 1]) rfl
 refine wp_seq (f_region hok ?_); clear hok; intro hok
 refine s_runk TB_Wire1 hok 1 rfl rfl ?_; clear hok a; intro a hok
 refine s_end hok [0, 1, 4] rfl ?_; clear hok; intro hok
 refine p_then ?_
 refine f_cond hok rfl (fun hc1 => ?_) (fun hc1 => ?_)
 ·skip
  refine f_region hok ?_; clear hok; intro hok
  refine s_runk TB_Wire1 hok 1 rfl rfl ?_; clear hok a; intro a hok
  refine h_call hok H (js := [(0, false)]) rfl (caps := #[]) fn_84_Wire1 rfl rfl rfl rfl rfl (by decide) rfl rfl (fun D1 hS => c_r2_wBig _ wr 1 _ (show 1 < 18446744073709551616 by omega) hS (by first | omega | rfl | (simp only [List.length_drop, List.length_take, List.length_append, List.length_cons, List.length_nil]; omega))) ?_; clear hok a H; intro _ a w1 D1 hr hF hok
  obtain ⟨rfl, I1, H⟩ := hr
  replace H : Hf I D w I1 w1 [BxC b_wr 78 [.string ((wPut wr (vput 1)).s), .int .i64 ((wPut wr (vput 1)).e)]] := hF H
  clear hF
  refine s_end hok [0, 1, 4] rfl ?_; clear hok; intro hok
  refine f_fall hok (run_results0 rfl) ?_
  refine ⟨?_, I1, (H.sub [(0, false)] rfl).eq ?_⟩
  ·clear hok H
   rfl
  ·clear hok H
   unfold wFlag; rw [if_pos hc1]; rfl
 ·skip
  refine f_region hok ?_; clear hok; intro hok
  refine s_runk TB_Wire1 hok 1 rfl rfl ?_; clear hok a; intro a hok
  refine h_call hok H (js := [(0, false)]) rfl (caps := #[]) fn_84_Wire1 rfl rfl rfl rfl rfl (by decide) rfl rfl (fun D1 hS => c_r2_wBig _ wr 0 _ (show 0 < 18446744073709551616 by omega) hS (by first | omega | rfl | (simp only [List.length_drop, List.length_take, List.length_append, List.length_cons, List.length_nil]; omega))) ?_; clear hok a H; intro _ a w2 D1 hr hF hok
  obtain ⟨rfl, I2, H⟩ := hr
  replace H : Hf I D w I2 w2 [BxC b_wr 78 [.string ((wPut wr (vput 0)).s), .int .i64 ((wPut wr (vput 0)).e)]] := hF H
  clear hF
  refine s_end hok [0, 1, 4] rfl ?_; clear hok; intro hok
  refine f_fall hok (run_results0 rfl) ?_
  refine ⟨?_, I2, (H.sub [(0, false)] rfl).eq ?_⟩
  ·clear hok H
   rfl
  ·clear hok H
   unfold wFlag; rw [if_neg (by rw [hc1]; decide)]; rfl

set_option maxHeartbeats 1000000 in
theorem c_r2_wDone {I D : Dm} (b_wr : Nat) (wr : DWriterR) (w : World) (H : St I D w [BxC b_wr 78 [.string wr.s, .int .i64 wr.e]]) :
  Calls Tryz.prog 41 #[.pointer (some ⟨b_wr, 0, none⟩)] w (Ret fun r w' => r = .tuple #[.string (wDone wr), .int .i64 wr.e] ∧ ∃ I', Hf I D w I' w' [BxC b_wr 78 (cDWriterR wr)]) := by
 replace H := H.hf
 refine f_enter 17 Tryz.func41 rfl rfl (Nat.le_of_ble_eq_true rfl) fun a hok => ?_
 replace hok := hok.sub (ts := [0]) rfl
 refine wp_seq (f_region hok ?_); clear hok; intro hok
 refine s_runk TB_Wire1 hok 2 rfl rfl ?_; clear hok a; intro a hok
 refine s_end hok [0, 2, 3] rfl ?_; clear hok; intro hok
 refine p_then (wp_seq ?_)
 refine wp_seq (f_region hok ?_); clear hok; intro hok
 refine s_runk TB_Wire1 hok 3 rfl rfl ?_; clear hok a; intro a hok
 refine s_ob hok (v := .int .i64 wr.e) rfl rfl (by decide) rfl (Ob_load TB_Wire1 rfl rfl rfl ((H.bx 0 rfl).cell 1 rfl)) ?_; clear hok a; intro a hok
 refine s_runk TB_Wire1 hok 1 rfl rfl ?_; clear hok a; intro a hok
 refine s_end hok [0, 2, 3, 8] rfl ?_; clear hok; intro hok
 refine p_then ?_
 refine f_cond hok rfl (fun hc1 => ?_) (fun hc1 => ?_)
 ·replace hc1 := bne_iff_ne.1 hc1
  refine wp_seq ?_
  refine f_quietd (by kernel_rfl) (by kernel_rfl) hok ?_; clear hok; intro hok
  refine q_runk TB_Wire1 hok 3 rfl rfl ?_; clear hok a; intro a hok
  refine q_ob hok (v := .int .i64 wr.e) rfl rfl (by decide) rfl (fun _ hw => Ob_load TB_Wire1 rfl rfl rfl (((H.bx 0 rfl).below hw).cell 1 rfl)) ?_; clear hok a; intro a hok
  refine q_runk TB_Wire1 hok 2 rfl rfl ?_; clear hok a; intro a hok
  refine q_end hok [0, 2, 3, 8] rfl ?_; clear hok; intro w1 hb hok
  replace H := H.blw hb
  clear hb
  refine p_then (wp_ret ?_)
  refine p_then_r ?_
  refine f_ret hok (run_results2 rfl hok rfl rfl) ?_
  refine ⟨?_, I, (H.sub [(0, false)] rfl).eq ?_⟩
  ·clear hok H
   (unfold wDone; (repeat' split) <;> first | rfl | (exfalso; omega) | grind)
  ·clear hok H
   rfl
 ·replace hc1 := bne_eq_false_iff_eq.1 hc1
  refine wp_skip ?_
  refine p_then (wp_seq (f_region hok ?_)); clear hok; intro hok
  refine s_runk TB_Wire1 hok 3 rfl rfl ?_; clear hok a; intro a hok
  refine s_ob hok (v := .string wr.s) rfl rfl (by decide) rfl (Ob_load TB_Wire1 rfl rfl rfl ((H.bx 0 rfl).cell 0 rfl)) ?_; clear hok a; intro a hok
  refine s_runk TB_Wire1 hok 2 rfl rfl ?_; clear hok a; intro a hok
  refine s_end hok [0, 2, 3, 8] rfl ?_; clear hok; intro hok
  refine p_then (wp_ret ?_)
  refine f_ret hok (run_results2 rfl hok rfl rfl) ?_
  refine ⟨?_, I, (H.sub [(0, false)] rfl).eq ?_⟩
  ·clear hok H
   (unfold wDone; (repeat' split) <;> first | rfl | (exfalso; omega) | grind)
  ·clear hok H
   rfl

-- what is read: the text, the place, the first error
def rBig (r : DReaderR) : DReaderR := if r.e ≠ 0 then r else if (vget r.s r.at_).2.2 ≠ 0 then { r with e := (vget r.s r.at_).2.2 } else { r with at_ := (vget r.s r.at_).2.1 }

def rBigV (r : DReaderR) : Nat := if r.e ≠ 0 then 0 else if (vget r.s r.at_).2.2 ≠ 0 then 0 else (vget r.s r.at_).1

/-- a reading is sound -/
def rdOk (r : DReaderR) : Prop := 0 ≤ r.at_ ∧ r.at_ ≤ (r.s.size : Int) ∧ r.s.size ≤ maxLen ∧ 0 ≤ r.e ∧ r.e ≤ 21

theorem vget_lt (s : ByteArray) (a : Int) : (vget s a).1 < 18446744073709551616 := by
 unfold vget
 have hb := byteAt_lt s a.toNat
 have hv := beV_lt8 s (a.toNat + 1) (byteAt s a.toNat - 247) (by omega)
 (repeat' split) <;> (dsimp only; omega)

theorem vget_e (s : ByteArray) (a : Int) : 0 ≤ (vget s a).2.2 ∧ (vget s a).2.2 ≤ 4 := by
 unfold vget
 (repeat' split) <;> (dsimp only; omega)

theorem rBigV_lt (r : DReaderR) : rBigV r < 18446744073709551616 := by
 have := vget_lt r.s r.at_
 unfold rBigV; (repeat' split) <;> omega

theorem rBigV_e {r : DReaderR} (h : (rBig r).e ≠ 0) : rBigV r = 0 := by
 unfold rBig at h; unfold rBigV
 split at h
 ·rename_i h1; rw [if_pos h1]
 ·rename_i h1; rw [if_neg h1]
  split at h
  ·rename_i h2; rw [if_pos h2]
  ·rename_i h2; exact absurd h (fun hh => hh (Decidable.not_not.1 h1))

def rNum (r : DReaderR) (most : Int) : DReaderR := if (rBig r).e = 0 ∧ (most < 0 ∨ most < (rBigV r : Int)) then { rBig r with e := 5 } else rBig r

def rNumV (r : DReaderR) (most : Int) : Int := if (rNum r most).e ≠ 0 then 0 else (rBigV r : Int)

def rFlag (r : DReaderR) : DReaderR :=
 if r.e ≠ 0 then r else if r.at_ = (r.s.size : Int) then { r with e := 2 } else if 1 < byteAt r.s r.at_.toNat then { r with e := 4 } else { r with at_ := r.at_ + 1 }

def rFlagV (r : DReaderR) : Bool := if (rFlag r).e ≠ 0 then false else decide (byteAt r.s r.at_.toNat = 1)

theorem rFlag_err {r : DReaderR} (h : r.e ≠ 0) : rFlag r = r := if_pos h

theorem rFlag_short {r : DReaderR} (h : r.e = 0) (h2 : r.at_ = (r.s.size : Int)) : rFlag r = { r with e := 2 } := (if_neg fun x => x h).trans (if_pos h2)

theorem rFlag_form {r : DReaderR} (h : r.e = 0) (h2 : r.at_ ≠ (r.s.size : Int)) (h3 : 1 < byteAt r.s r.at_.toNat) : rFlag r = { r with e := 4 } := (if_neg fun x => x h).trans ((if_neg h2).trans (if_pos h3))

theorem rFlag_fine {r : DReaderR} (h : r.e = 0) (h2 : r.at_ ≠ (r.s.size : Int)) (h3 : ¬ 1 < byteAt r.s r.at_.toNat) : rFlag r = { r with at_ := r.at_ + 1 } := (if_neg fun x => x h).trans ((if_neg h2).trans (if_neg h3))

theorem rFlagV_no {r : DReaderR} (h : (rFlag r).e ≠ 0) : rFlagV r = false := if_pos h

theorem rFlagV_yes {r : DReaderR} (h : (rFlag r).e = 0) : rFlagV r = decide (byteAt r.s r.at_.toNat = 1) := if_neg fun x => x h

def rLeft (r : DReaderR) : Int := if r.e ≠ 0 then 0 else (r.s.size : Int) - r.at_

def rEnd (r : DReaderR) : Int := if r.e = 0 ∧ r.at_ < (r.s.size : Int) then 4 else r.e

-- (no (*catena/catenaref02.Reader).Left in this seat)

end Go.Proofs.YthmjkcdpbbcdgaaGreat
