/- The walks of 'varnum' and its reference: numbers as bytes. -/
import Derived.Test.YthmjkcdpbbcdgaaW1
import Derived.Test.YthmjkcdpbbcdgaaData
import Derived.Test.YthmjkcdpbbcdgaaProg
namespace Go.Proofs.Ythmjkcdpbbcdgaa
open Go.RowKit

def TB_VarnumL : TabL := ⟨[], [9], [], [(72, (5, 1))], []⟩

def TB_Varnum : Tab Try.prog := ⟨TB_VarnumL, by kernel_rfl⟩

theorem fn_66_Varnum : IsFn Try.prog 66 := ⟨_, Try.func66, by kernel_rfl, by kernel_rfl⟩

theorem E_72_Varnum : Elem Try.prog 72 5 1 1 := ⟨Try.underlying72, by
 have h : (Try.prog.info? 5).map (fun i => (i.zero, i.size, i.bytes)) = some (some (.int .u8 0), 1, 1) := by kernel_rfl
 obtain ⟨i, h1, h2, h3, h4⟩ := info_parts h
 exact ⟨i, _, h1, h2, h3, h4, rfl⟩, by decide⟩

/-- how many bytes a number needs, of so many at most -/
def needsF : Nat → Nat → Nat
 | 0, _ => 0
 | f + 1, n => if n / 256 = 0 then 1 else 1 + needsF f (n / 256)

def needsN (n : Nat) : Nat := needsF 8 n

theorem needsF_le : ∀ f n, needsF f n ≤ f
 | 0, _ => Nat.le_refl _
 | f + 1, n => by
  unfold needsF
  split
  ·omega
  ·have := needsF_le f (n / 256); omega

theorem needsF_pos (f n : Nat) : 1 ≤ needsF (f + 1) n := by unfold needsF; split <;> omega

theorem needsN_le (n : Nat) : needsN n ≤ 8 := needsF_le 8 n

theorem needsN_pos (n : Nat) : 1 ≤ needsN n := needsF_pos 7 n

theorem needs_go {n k m : Nat} (hk : k < 8) (h : needsN n = k + needsF (8 - k) m) (hm : m < 256 ^ (8 - k)) (h0 : m / 256 ≠ 0) : k + 1 < 8 ∧ needsN n = (k + 1) + needsF (8 - (k + 1)) (m / 256) ∧ m / 256 < 256 ^ (8 - (k + 1)) := by
 obtain ⟨j, hj⟩ : ∃ j, 8 - k = j + 1 := ⟨7 - k, by omega⟩
 have hj' : 8 - (k + 1) = j := by omega
 rw [hj, Nat.pow_succ] at hm
 rw [hj, needsF, if_neg h0] at h
 rw [hj']
 have hd : m / 256 < 256 ^ j := Nat.div_lt_of_lt_mul (by rw [Nat.mul_comm]; exact hm)
 refine ⟨?_, by omega, hd⟩
 cases j with
 | zero => simp at hd; omega
 | succ j => omega

theorem needs_end {n k m : Nat} (hk : k < 8) (h : needsN n = k + needsF (8 - k) m) (h0 : m / 256 = 0) : needsN n = k + 1 := by
 obtain ⟨j, hj⟩ : ∃ j, 8 - k = j + 1 := ⟨7 - k, by omega⟩
 rw [hj, needsF, if_pos h0] at h; exact h

set_option maxHeartbeats 1000000 in
theorem c_needs (n0 : Nat) (w : World) (h_n0 : n0 < 18446744073709551616) :
  Calls Try.prog 66 #[.int .u64 (n0 : Int)] w (Ret fun r w' => r = .int .i64 ((needsN n0 : Int)) ∧ Below w.heap.size w w') := by
 obtain ⟨I, hI, H⟩ : ∃ I : Dm, (∀ k, I k → False) ∧ Hf I NoD w I w [] := ⟨NoD, fun _ h => h, (St.none _ _ fun _ h => h.elim).hf⟩
 refine f_enter 11 Try.func66 rfl rfl (Nat.le_of_ble_eq_true rfl) fun a hok => ?_
 replace hok := hok.sub (ts := [0]) rfl
 refine wp_seq (f_region hok ?_); clear hok; intro hok
 refine s_runk TB_Varnum hok 1 rfl rfl ?_; clear hok a; intro a hok
 refine s_end hok [0, 2] rfl ?_; clear hok; intro hok
 refine p_then ?_
 refine wp_scope_straight ?_
 refine wp_seq (f_region hok ?_); clear hok; intro hok
 refine s_runk TB_Varnum hok 1 rfl rfl ?_; clear hok a; intro a hok
 refine s_end hok [0, 2, 3] rfl ?_; clear hok; intro hok
 refine p_then (wp_seq ?_)
 refine wp_label ?_
 refine p_then (wp_seq ?_)
 refine wp_block ?_
 refine f_loop (σ := Nat × Nat) (fun ⟨k, m⟩ a w' => Sl 11 [(2, .int .i64 0), (3, .int .i64 (k : Int)), (0, .int .u64 (m : Int))] a ∧ (k < 8 ∧ m < 18446744073709551616) ∧ (needsN n0 = k + needsF (8 - k) m) ∧ (m < 256 ^ (8 - k)) ∧ ∃ I2, Hf I NoD w I2 w' []) (fun ⟨k, m⟩ => 8 - k) (0, n0) ⟨hok.sub (ts := [2, 3, 0]) rfl, by omega, by exact (Nat.zero_add _).symm, by omega, I, H⟩ ?_
 clear hok H
 rintro ⟨k, m⟩ a w1 ⟨hok, hinv0_0, hinv0_1, hinv0_2, I1, H⟩
 refine wp_block ?_
 refine wp_seq (f_region hok ?_); clear hok; intro hok
 refine s_runk TB_Varnum hok 1 rfl rfl ?_; clear hok a; intro a hok
 refine s_ob hok (v := .int .i64 ((k : Int) + 1)) rfl rfl (by decide) rfl (Ob_add rfl rfl rfl (IntWalk.i64_in _ (by omega))) ?_; clear hok a; intro a hok
 refine s_runk TB_Varnum hok 1 rfl rfl ?_; clear hok a; intro a hok
 refine s_end hok [2, 3, 0] rfl ?_; clear hok; intro hok
 refine p_then (wp_seq (f_region hok ?_)); clear hok; intro hok
 refine s_runk TB_Varnum hok 1 rfl rfl ?_; clear hok a; intro a hok
 refine s_ob hok (v := .int .u64 ((m / 256 : Nat) : Int)) rfl rfl (by decide) rfl (Ob_shr rfl rfl rfl (by decide) (shr_byte m)) ?_; clear hok a; intro a hok
 refine s_runk TB_Varnum hok 1 rfl rfl ?_; clear hok a; intro a hok
 refine s_end hok [2, 3, 0] rfl ?_; clear hok; intro hok
 refine p_then (wp_seq (f_region hok ?_)); clear hok; intro hok
 refine s_runk TB_Varnum hok 2 rfl rfl ?_; clear hok a; intro a hok
 refine s_end hok [2, 3, 0, 9] rfl ?_; clear hok; intro hok
 refine p_then ?_
 refine f_cond hok rfl (fun hc1 => ?_) (fun hc1 => ?_)
 ·replace hc1 := eq_of_beq hc1
  refine wp_exit ?_
  refine f_exit_out (by decide) ?_
  refine p_then_x ?_
  refine f_exit_here ?_
  refine p_then (wp_seq (f_region hok ?_)); clear hok; intro hok
  refine s_runk TB_Varnum hok 2 rfl rfl ?_; clear hok a; intro a hok
  refine s_end hok [2, 3, 0, 9] rfl ?_; clear hok; intro hok
  refine p_then (wp_ret ?_)
  refine p_scp_r ?_
  refine f_ret hok (run_results1 rfl hok rfl) ?_
  refine ⟨?_, H.below fun _ h => h⟩
  ·clear hok H
   rw [needs_end hinv0_0.1 hinv0_1 (by omega)]; rfl
 ·replace hc1 := ne_of_beq_false hc1
  refine wp_skip ?_
  refine p_blk ?_
  refine p_then ?_
  refine ⟨(k + 1, m / 256), ⟨hok.sub (ts := [2, 3, 0]) rfl, ?_, ?_, ?_, I1, H.sub [] rfl⟩, by dsimp only; omega⟩
  ·clear hok H
   have := needs_go hinv0_0.1 hinv0_1 hinv0_2 (by omega); omega
  ·clear hok H
   exact (needs_go hinv0_0.1 hinv0_1 hinv0_2 (by omega)).2.1
  ·clear hok H
   exact (needs_go hinv0_0.1 hinv0_1 hinv0_2 (by omega)).2.2

-- (no catena/catenaref01.needs in this seat)

/-- the k-th byte of a number, from behind -/
def bytK (n k : Nat) : Nat := n / 256 ^ k % 256

/-- its bytes, the greatest first -/
def beL (n : Nat) : Nat → List Nat
 | 0 => []
 | k + 1 => bytK n k :: beL n k

/-- a number's text -/
def vputL (n : Nat) : List Nat := if n < 248 then [n] else (247 + needsN n) :: beL n (needsN n)

def vput (n : Nat) : ByteArray := strB (vputL n)

theorem beL_len (n k : Nat) : (beL n k).length = k := by induction k with | zero => rfl | succ k ih => simp [beL, ih]

/-- the first i of k bytes -/
theorem beL_take (n k i : Nat) (h : i < k) : (beL n k).take (i + 1) = (beL n k).take i ++ [bytK n (k - 1 - i)] := by
 induction k generalizing i with
 | zero => omega
 | succ k ih =>
  cases i with
  | zero => simp [beL]
  | succ i =>
   have := ih i (by omega)
   simp only [beL, List.take_succ_cons, List.cons_append]
   rw [this, show k + 1 - 1 - (i + 1) = k - 1 - i by omega]

theorem shr_bytes (n j : Nat) (hn : n < 18446744073709551616) : (n : Int).fdiv (2 ^ min ((8 : Int) * (j : Int)).toNat IntKind.u64.bits) = ((n / 256 ^ j : Nat) : Int) := by
 have e1 : ((8 : Int) * (j : Int)).toNat = 8 * j := by omega
 have e2 : IntKind.u64.bits = 64 := rfl
 rw [e1, e2, Int.fdiv_eq_ediv_of_nonneg _ (Int.pow_nonneg (by decide)), show (2 : Int) ^ min (8 * j) 64 = ((2 ^ min (8 * j) 64 : Nat) : Int) by simp, ← Int.natCast_ediv]
 congr 1
 by_cases hj : 8 * j ≤ 64
 ·rw [Nat.min_eq_left hj, show 256 ^ j = 2 ^ (8 * j) by rw [Nat.pow_mul]]
 ·rw [Nat.min_eq_right (by omega), Nat.div_eq_of_lt (by omega), Nat.div_eq_of_lt]
  have : 256 ^ 8 ≤ 256 ^ j := Nat.pow_le_pow_right (by decide) (by omega)
  omega

set_option maxHeartbeats 1000000 in
theorem c_vput (n0 : Nat) (w : World) (h_n0 : n0 < 18446744073709551616) :
  Calls Try.prog 34 #[.int .u64 (n0 : Int)] w (Ret fun r w' => r = .string (vput n0) ∧ Below w.heap.size w w') := by
 obtain ⟨I, hI, H⟩ : ∃ I : Dm, (∀ k, I k → False) ∧ Hf I NoD w I w [] := ⟨NoD, fun _ h => h, (St.none _ _ fun _ h => h.elim).hf⟩
 have hnl := needsN_le n0; have hnp := needsN_pos n0
 refine f_enter 39 Try.func34 rfl rfl (Nat.le_of_ble_eq_true rfl) fun a hok => ?_
 replace hok := hok.sub (ts := [0]) rfl
 refine wp_seq (f_region hok ?_); clear hok; intro hok
 refine s_runk TB_Varnum hok 1 rfl rfl ?_; clear hok a; intro a hok
 refine s_end hok [0, 2] rfl ?_; clear hok; intro hok
 refine p_then (wp_seq ?_)
 refine wp_seq (f_region hok ?_); clear hok; intro hok
 refine s_runk TB_Varnum hok 2 rfl rfl ?_; clear hok a; intro a hok
 refine s_end hok [0, 2, 7] rfl ?_; clear hok; intro hok
 refine p_then ?_
 refine f_cond hok rfl (fun hc1 => ?_) (fun hc1 => ?_)
 ·replace hc1 := of_decide_eq_true hc1
  refine wp_seq (f_region hok ?_); clear hok; intro hok
  refine s_runk TB_Varnum hok 1 rfl rfl ?_; clear hok a; intro a hok
  have hcv1 : ∀ w : World, (convert 22 5 (.int .u64 (n0 : Int))).run Try.prog w = .ok (.int .u8 (n0 : Int)) w := fun w => run_convi Try.underlying22 Try.underlying5 _ _ (IntWalk.u8_in _ (by omega)) w
  refine s_ob hok (v := .int .u8 (n0 : Int)) rfl rfl (by decide) rfl (Ob_conv rfl rfl (hcv1 _)) ?_; clear hok a; intro a hok
  refine h_bslice hok H (vs := [(0, .int .u8 (n0 : Int))]) (cl := [.int .u8 (n0 : Int)]) (e := 5) rfl rfl rfl (by decide) rfl rfl (fun w => run_bslice (z := .int .u8 0) (m := 1) Try.underlying72 (by kernel_rfl) rfl rfl (by decide) (by simp [Instr.fill, Value.cells]) w) ?_; clear hok a H; intro a w1 b1 H hok
  obtain ⟨I1, hI1, H⟩ := H.frzlit 0 rfl (R := RB8) [[.int .u8 (n0 : Int)]] [n0] rfl rfl (fun i h1 h2 => by match i, h1, h2 with | 0, _, _ => exact ⟨rfl, (show n0 < 256 by omega)⟩) (show 1 ≤ maxLen from by decide) (n := 1) rfl
  dsimp only [List.eraseIdx] at H
  refine s_ob hok (v := .string (strB ([n0]))) rfl rfl (by decide) rfl (Ob_conv rfl rfl (run_b2s Try.underlying72 Try.underlying5 Try.underlying9 (H.sl 0 rfl))) ?_; clear hok a; intro a hok
  refine s_runk TB_Varnum hok 1 rfl rfl ?_; clear hok a; intro a hok
  refine s_end hok [0, 2, 7] rfl ?_; clear hok; intro hok
  refine p_then (wp_ret ?_)
  refine p_then_r ?_
  refine f_ret hok (run_results1 rfl hok rfl) ?_
  refine ⟨?_, H.below fun _ h => h⟩
  ·clear hok H
   unfold vput vputL; rw [if_pos (by omega)]
 ·replace hc1 := of_decide_eq_false hc1
  refine wp_skip ?_
  refine p_then (wp_seq (f_region hok ?_)); clear hok; intro hok
  refine s_runk TB_Varnum hok 1 rfl rfl ?_; clear hok a; intro a hok
  refine s_call hok fn_66_Varnum (caps := #[]) rfl rfl rfl rfl rfl (by decide) rfl rfl (c_needs n0 _ h_n0) ?_; clear hok a; intro _ a w2 hr hok
  obtain ⟨rfl, hb⟩ := hr
  replace H := H.blw hb
  clear hb
  refine s_runk TB_Varnum hok 1 rfl rfl ?_; clear hok a; intro a hok
  refine s_end hok [0, 2, 7, 3] rfl ?_; clear hok; intro hok
  refine p_then (wp_seq (f_region hok ?_)); clear hok; intro hok
  refine h_mk8 hok H E_72_Varnum 0 9 rfl rfl rfl (by decide) rfl rfl rfl rfl rfl (by omega) (by omega) (by kernel_rfl) ?_; clear hok a H; intro a w3 b2 H hok
  replace H : Hf I NoD w I w3 [OwC RB8 5 (.slice (some ⟨b2, 0, none⟩) (([] : List Nat).length) 9) ([])] := H
  refine s_runk TB_Varnum hok 1 rfl rfl ?_; clear hok a; intro a hok
  refine s_end hok [0, 2, 7, 3, 4] rfl ?_; clear hok; intro hok
  refine p_then (wp_seq (f_region hok ?_)); clear hok; intro hok
  refine s_runk TB_Varnum hok 2 rfl rfl ?_; clear hok a; intro a hok
  refine s_ob hok (v := .int .i64 (247 + (needsN n0 : Int))) rfl rfl (by decide) rfl (Ob_add rfl rfl rfl (IntWalk.i64_in _ (by omega))) ?_; clear hok a; intro a hok
  have hcv2 : ∀ w : World, (convert 3 5 (.int .i64 (247 + (needsN n0 : Int)))).run Try.prog w = .ok (.int .u8 (247 + (needsN n0 : Int))) w := fun w => run_convi Try.underlying3 Try.underlying5 _ _ (IntWalk.u8_in _ (by omega)) w
  refine s_ob hok (v := .int .u8 (247 + (needsN n0 : Int))) rfl rfl (by decide) rfl (Ob_conv rfl rfl (hcv2 _)) ?_; clear hok a; intro a hok
  refine h_bslice hok H (vs := [(0, .int .u8 (247 + (needsN n0 : Int)))]) (cl := [.int .u8 (247 + (needsN n0 : Int))]) (e := 5) rfl rfl rfl (by decide) rfl rfl (fun w => run_bslice (z := .int .u8 0) (m := 1) Try.underlying72 (by kernel_rfl) rfl rfl (by decide) (by simp [Instr.fill, Value.cells]) w) ?_; clear hok a H; intro a w4 b3 H hok
  refine h_app hok H 1 E_72_Varnum ([247 + needsN n0]) rfl rfl rfl rfl rfl (by decide) rfl rfl rfl (slRep2.box1 (H.bx 0 rfl) ⟨rfl, (show (247 + needsN n0) < 256 by omega)⟩) (by simp only [maxLen, List.length_append, List.length_cons, List.length_nil]; omega) (by simp only [List.length_append, List.length_cons, List.length_nil]; omega) ?_; clear hok a H; intro ao1 cap1 a w5 H hc_c1 hm_c1 hok
  dsimp only [List.eraseIdx] at H
  replace H : Hf I NoD w I w5 [OwC RB8 5 (.slice ao1 ((([]) ++ [247 + needsN n0]).length) cap1) (([]) ++ [247 + needsN n0])] := H.sub [(0, false)] rfl
  unfold maxLen at hm_c1
  refine s_runk TB_Varnum hok 1 rfl rfl ?_; clear hok a; intro a hok
  refine s_end hok [0, 2, 7, 3, 4] rfl ?_; clear hok; intro hok
  refine p_then (wp_seq ?_)
  refine wp_seq (f_region hok ?_); clear hok; intro hok
  refine s_runk TB_Varnum hok 2 rfl rfl ?_; clear hok a; intro a hok
  refine s_end hok [0, 2, 7, 3, 4, 21, 22] rfl ?_; clear hok; intro hok
  refine p_then (wp_block ?_)
  refine f_loop (σ := Nat × List Nat) (fun ⟨k, es⟩ a w' => ∃ ao_4 cap_4, Sl 39 [(0, .int .u64 (n0 : Int)), (2, .string (⟨#[]⟩)), (7, .bool (decide ((n0 : Int) < 248))), (3, .int .i64 (needsN n0 : Int)), (21, .int .i64 (needsN n0 : Int)), (22, .int .i64 (k : Int)), (4, .slice ao_4 es.length cap_4)] a ∧ (k ≤ needsN n0 ∧ es.length ≤ 9) ∧ (es = (247 + needsN n0) :: (beL n0 (needsN n0)).take k) ∧ (es.length ≤ cap_4 ∧ cap_4 ≤ maxLen) ∧ ∃ I2, Hf I NoD w I2 w' [OwC RB8 5 (.slice ao_4 es.length cap_4) es]) (fun ⟨k, es⟩ => needsN n0 - k) (0, [247 + needsN n0]) ⟨_, _, hok.sub (ts := [0, 2, 7, 3, 21, 22, 4]) rfl, by simp, by simp, ⟨hc_c1, hm_c1⟩, I, H⟩ ?_
  clear hok H
  rintro ⟨k, es⟩ a w6 ⟨ao_4, cap_4, hok, hinv0_0, hinv0_1, ⟨hc_o4, hm_o4⟩, I2, H⟩
  unfold maxLen at hm_o4
  have hel : es.length = k + 1 := (by rw [hinv0_1, List.length_cons, List.length_take, beL_len]; omega)
  refine wp_seq (f_region hok ?_); clear hok; intro hok
  refine s_runk TB_Varnum hok 1 rfl rfl ?_; clear hok a; intro a hok
  refine s_end hok [0, 2, 7, 3, 21, 22, 4, 23] rfl ?_; clear hok; intro hok
  refine p_then (wp_seq ?_)
  refine f_cond hok rfl (fun hc2 => ?_) (fun hc2 => ?_)
  ·replace hc2 := of_decide_eq_true hc2
   refine wp_skip ?_
   refine p_then (wp_seq ?_)
   refine wp_block ?_
   refine wp_seq (f_region hok ?_); clear hok; intro hok
   refine s_runk TB_Varnum hok 2 rfl rfl ?_; clear hok a; intro a hok
   refine s_end hok [0, 2, 7, 3, 21, 22, 4, 23, 5] rfl ?_; clear hok; intro hok
   refine p_then ?_
   refine f_region hok ?_; clear hok; intro hok
   refine s_runk TB_Varnum hok 3 rfl rfl ?_; clear hok a; intro a hok
   refine s_ob hok (v := .int .i64 ((needsN n0 : Int) - 1)) rfl rfl (by decide) rfl (Ob_sub rfl rfl rfl (IntWalk.i64_in _ (by omega))) ?_; clear hok a; intro a hok
   refine s_runk TB_Varnum hok 1 rfl rfl ?_; clear hok a; intro a hok
   refine s_ob hok (v := .int .i64 ((needsN n0 : Int) - 1 - (k : Int))) rfl rfl (by decide) rfl (Ob_sub rfl rfl rfl (IntWalk.i64_in _ (by omega))) ?_; clear hok a; intro a hok
   refine s_ob hok (v := .int .i64 (8 * ((needsN n0 : Int) - 1 - (k : Int)))) rfl rfl (by decide) rfl (Ob_mul rfl rfl rfl (IntWalk.i64_in _ (by omega))) ?_; clear hok a; intro a hok
   refine s_ob hok (v := .int .u64 ((n0 / 256 ^ (needsN n0 - 1 - k) : Nat) : Int)) rfl rfl (by decide) rfl (Ob_shr rfl rfl rfl (by omega) (by rw [show ((needsN n0 : Int) - 1 - (k : Int)) = ((needsN n0 - 1 - k : Nat) : Int) by omega]; exact shr_bytes _ _ h_n0)) ?_; clear hok a; intro a hok
   have hcv3 : ∀ w : World, (convert 22 5 (.int .u64 ((n0 / 256 ^ (needsN n0 - 1 - k) : Nat) : Int))).run Try.prog w = .ok (.int .u8 (((n0 / 256 ^ (needsN n0 - 1 - k)) % 256 : Nat) : Int)) w := fun w => run_convi Try.underlying22 Try.underlying5 _ _ (by rw [IntKind.wrap_u8]; omega) w
   refine s_ob hok (v := .int .u8 (((n0 / 256 ^ (needsN n0 - 1 - k)) % 256 : Nat) : Int)) rfl rfl (by decide) rfl (Ob_conv rfl rfl (hcv3 _)) ?_; clear hok a; intro a hok
   refine h_bslice hok H (vs := [(0, .int .u8 (((n0 / 256 ^ (needsN n0 - 1 - k)) % 256 : Nat) : Int))]) (cl := [.int .u8 (((n0 / 256 ^ (needsN n0 - 1 - k)) % 256 : Nat) : Int)]) (e := 5) rfl rfl rfl (by decide) rfl rfl (fun w => run_bslice (z := .int .u8 0) (m := 1) Try.underlying72 (by kernel_rfl) rfl rfl (by decide) (by simp [Instr.fill, Value.cells]) w) ?_; clear hok a H; intro a w7 b4 H hok
   refine h_app hok H 1 E_72_Varnum ([((n0 / 256 ^ (needsN n0 - 1 - k)) % 256)]) rfl rfl rfl rfl rfl (by decide) rfl rfl rfl (slRep2.box1 (H.bx 0 rfl) ⟨rfl, (show ((n0 / 256 ^ (needsN n0 - 1 - k)) % 256) < 256 by omega)⟩) (by simp only [maxLen, List.length_append, List.length_cons, List.length_nil]; omega) (by simp only [List.length_append, List.length_cons, List.length_nil]; omega) ?_; clear hok a H; intro ao2 cap2 a w8 H hc_c2 hm_c2 hok
   dsimp only [List.eraseIdx] at H
   replace H : Hf I NoD w I2 w8 [OwC RB8 5 (.slice ao2 ((es ++ [((n0 / 256 ^ (needsN n0 - 1 - k)) % 256)]).length) cap2) (es ++ [((n0 / 256 ^ (needsN n0 - 1 - k)) % 256)])] := H.sub [(0, false)] rfl
   unfold maxLen at hm_c2
   refine s_runk TB_Varnum hok 1 rfl rfl ?_; clear hok a; intro a hok
   refine s_end hok [0, 2, 7, 3, 21, 22, 4, 23, 5] rfl ?_; clear hok; intro hok
   refine p_blk ?_
   refine p_then ?_
   refine f_region hok ?_; clear hok; intro hok
   refine s_ob hok (v := .int .i64 ((k : Int) + 1)) rfl rfl (by decide) rfl (Ob_add rfl rfl rfl (IntWalk.i64_in _ (by omega))) ?_; clear hok a; intro a hok
   refine s_runk TB_Varnum hok 1 rfl rfl ?_; clear hok a; intro a hok
   refine s_end hok [0, 2, 7, 3, 21, 22, 4, 23, 5] rfl ?_; clear hok; intro hok
   refine p_then ?_
   refine ⟨(k + 1, es ++ [n0 / 256 ^ (needsN n0 - 1 - k) % 256]), ⟨_, _, hok.sub (ts := [0, 2, 7, 3, 21, 22, 4]) rfl, ?_, ?_, ⟨hc_c2, hm_c2⟩, I2, H.sub [(0, false)] rfl⟩, by dsimp only; omega⟩
   ·clear hok H
    rw [List.length_append]; show _ ∧ _ + 1 ≤ 9; omega
   ·clear hok H
    rw [hinv0_1, beL_take _ _ _ (by omega)]; rfl
  ·replace hc2 := of_decide_eq_false hc2
   refine wp_exit ?_
   refine p_then_x ?_
   refine p_then_x ?_
   refine f_exit_here ?_
   refine p_then (wp_seq (f_region hok ?_)); clear hok; intro hok
   refine s_runk TB_Varnum hok 1 rfl rfl ?_; clear hok a; intro a hok
   refine s_ob hok (v := .string (strB es)) rfl rfl (by decide) rfl (Ob_conv rfl rfl (run_b2s Try.underlying72 Try.underlying5 Try.underlying9 (H.owA 0 rfl))) ?_; clear hok a; intro a hok
   refine s_runk TB_Varnum hok 1 rfl rfl ?_; clear hok a; intro a hok
   refine s_end hok [0, 2, 7, 3, 21, 22, 4, 23] rfl ?_; clear hok; intro hok
   refine p_then (wp_ret ?_)
   refine f_ret hok (run_results1 rfl hok rfl) ?_
   refine ⟨?_, H.below fun _ h => h⟩
   ·clear hok H
    unfold vput vputL; rw [if_neg (by omega), hinv0_1, List.take_of_length_le (by rw [beL_len]; omega)]

-- (no catena/catenaref01.Put in this seat)

/-- so many bytes of a text as a number -/
def beV (s : ByteArray) (off : Nat) : Nat → Nat
 | 0 => 0
 | i + 1 => beV s off i * 256 + byteAt s (off + i)

theorem beV_lt (s : ByteArray) (off i : Nat) : beV s off i < 256 ^ i := by
 induction i with
 | zero => simp [beV]
 | succ i ih =>
  have := byteAt_lt s (off + i)
  simp only [beV, Nat.pow_succ]; omega

theorem beV_lt7 (s : ByteArray) (off i : Nat) (h : i < 8) : beV s off i < 72057594037927936 :=
 Nat.lt_of_lt_of_le (beV_lt s off i) (Nat.le_trans (Nat.pow_le_pow_right (by decide) (show i ≤ 7 by omega)) (by decide))

theorem beV_lt8 (s : ByteArray) (off i : Nat) (h : i ≤ 8) : beV s off i < 18446744073709551616 :=
 Nat.lt_of_lt_of_le (beV_lt s off i) (Nat.le_trans (Nat.pow_le_pow_right (by decide) h) (by decide))

theorem byteAt_from (s : ByteArray) (k i : Nat) (h : k + i < s.size) : byteAt (s.extract k s.size) i = byteAt s (k + i) := by
 have e : (s.extract k s.size).data.toList = s.data.toList.drop k := by
  rw [ByteArray.data_extract, Array.toList_extract, List.extract_eq_take_drop, List.take_of_length_le]
  rw [List.length_drop, Array.length_toList]; exact Nat.le_refl _
 unfold byteAt
 rw [e, List.getD_eq_getElem?_getD, List.getElem?_drop, ← List.getD_eq_getElem?_getD]

theorem vput_size (n : Nat) : (vput n).size = if n < 248 then 1 else 1 + needsN n := by
 unfold vput vputL
 rw [strB_size]
 split
 ·rfl
 ·rw [List.length_cons, beL_len]; omega

theorem beV_from (s : ByteArray) (k n : Nat) (h : k + n ≤ s.size) : ∀ i, i ≤ n → beV (s.extract k s.size) 0 i = beV s k i
 | 0, _ => rfl
 | i + 1, hi => by simp only [beV]; rw [beV_from s k n h i (by omega), Nat.zero_add, byteAt_from s k i (by omega)]

/-- the number at a place, the place behind it, the error -/
def vget (s : ByteArray) (at_ : Int) : Nat × Int × Int :=
 if at_ < 0 ∨ (s.size : Int) < at_ then (0, 0, 1)
 else if at_ = (s.size : Int) then (0, 0, 2)
 else if byteAt s at_.toNat < 248 then (byteAt s at_.toNat, at_ + 1, 0)
 else if s.size - (at_.toNat + 1) < byteAt s at_.toNat - 247 then (0, 0, 2)
 else if beV s (at_.toNat + 1) (byteAt s at_.toNat - 247) < 248 ∨ needsN (beV s (at_.toNat + 1) (byteAt s at_.toNat - 247)) ≠ byteAt s at_.toNat - 247 then (0, 0, 4)
 else (beV s (at_.toNat + 1) (byteAt s at_.toNat - 247), at_ + 1 + ((byteAt s at_.toNat - 247 : Nat) : Int), 0)

theorem vget_arg {s : ByteArray} {a : Int} (h : a < 0 ∨ (s.size : Int) < a) : vget s a = (0, 0, 1) := if_pos h

theorem vget_end {s : ByteArray} {a : Int} (h : a = (s.size : Int)) : vget s a = (0, 0, 2) := by unfold vget; rw [if_neg (by omega), if_pos h]

theorem vget_one {s : ByteArray} {a : Int} (h : ¬ (a < 0 ∨ (s.size : Int) < a)) (h1 : a ≠ (s.size : Int)) (h2 : byteAt s a.toNat < 248) : vget s a = (byteAt s a.toNat, a + 1, 0) := by unfold vget; rw [if_neg h, if_neg h1, if_pos h2]

theorem vget_few {s : ByteArray} {a : Int} (h : ¬ (a < 0 ∨ (s.size : Int) < a)) (h1 : a ≠ (s.size : Int)) (h2 : ¬ byteAt s a.toNat < 248) (h3 : s.size - (a.toNat + 1) < byteAt s a.toNat - 247) : vget s a = (0, 0, 2) := by unfold vget; rw [if_neg h, if_neg h1, if_neg h2, if_pos h3]

theorem vget_form {s : ByteArray} {a : Int} {n : Nat} (h : ¬ (a < 0 ∨ (s.size : Int) < a)) (h1 : a ≠ (s.size : Int)) (h2 : ¬ byteAt s a.toNat < 248) (h3 : ¬ s.size - (a.toNat + 1) < byteAt s a.toNat - 247) (hn : n = beV s (a.toNat + 1) (byteAt s a.toNat - 247)) (h4 : n < 248 ∨ needsN n ≠ byteAt s a.toNat - 247) : vget s a = (0, 0, 4) := by
 unfold vget; rw [← hn]; simp only [if_neg h, if_neg h1, if_neg h2, if_neg h3, if_pos h4]

theorem vget_many {s : ByteArray} {a : Int} {n : Nat} (h : ¬ (a < 0 ∨ (s.size : Int) < a)) (h1 : a ≠ (s.size : Int)) (h2 : ¬ byteAt s a.toNat < 248) (h3 : ¬ s.size - (a.toNat + 1) < byteAt s a.toNat - 247) (hn : n = beV s (a.toNat + 1) (byteAt s a.toNat - 247)) (h4 : ¬ (n < 248 ∨ needsN n ≠ byteAt s a.toNat - 247)) : vget s a = (n, a + 1 + ((byteAt s a.toNat - 247 : Nat) : Int), 0) := by
 unfold vget; rw [← hn]; simp only [if_neg h, if_neg h1, if_neg h2, if_neg h3, if_neg h4]

set_option maxHeartbeats 1000000 in
theorem c_vget (s : ByteArray) (at_ : Int) (w : World) (h_s : s.size ≤ maxLen) (h_at_ : i64ok at_) :
  Calls Try.prog 70 #[.string s, .int .i64 at_] w (Ret fun r w' => r = .tuple #[.int .u64 (((vget s at_).1 : Nat) : Int), .int .i64 ((vget s at_).2.1), .int .i64 ((vget s at_).2.2)] ∧ Below w.heap.size w w') := by
 obtain ⟨I, hI, H⟩ : ∃ I : Dm, (∀ k, I k → False) ∧ Hf I NoD w I w [] := ⟨NoD, fun _ h => h, (St.none _ _ fun _ h => h.elim).hf⟩
 unfold i64ok at h_at_
 unfold maxLen at h_s
 have hb8 := byteAt_lt s at_.toNat
 refine f_enter 74 Try.func70 rfl rfl (Nat.le_of_ble_eq_true rfl) fun a hok => ?_
 replace hok := hok.sub (ts := [0, 1]) rfl
 refine wp_seq (f_region hok ?_); clear hok; intro hok
 refine s_runk TB_Varnum hok 3 rfl rfl ?_; clear hok a; intro a hok
 refine s_end hok [0, 1, 4, 5, 6] rfl ?_; clear hok; intro hok
 refine p_then (wp_seq ?_)
 refine wp_block ?_
 refine wp_seq (f_region hok ?_); clear hok; intro hok
 refine s_runk TB_Varnum hok 3 rfl rfl ?_; clear hok a; intro a hok
 refine g_ob hok (p := (!(decide (at_ < 0)))) (v := .int .i64 at_) (S' := [(1, .int .i64 at_)]) rfl rfl rfl (wantB_f _) rfl (by decide) (fun hp hS => hS.sub (ts := [1]) rfl) (fun _ => Ob_c TB_Varnum rfl) ?_; clear hok a; intro a hok
 refine g_ob hok (p := (!(decide (at_ < 0)))) (v := .string s) (S' := [(0, .string s)]) rfl rfl rfl (wantB_f _) rfl (by decide) (fun hp hS => hS.sub (ts := [0]) rfl) (fun _ => Ob_c TB_Varnum rfl) ?_; clear hok a; intro a hok
 refine g_ob hok (p := (!(decide (at_ < 0)))) (v := .int .i64 (s.size : Int)) (S' := [(16, .string s)]) rfl rfl rfl (wantB_f _) rfl (by decide) (fun hp hS => (hS.conv (t := 16) rfl (cond_t hp)).sub (ts := [16]) rfl) (fun _ => Ob_c TB_Varnum rfl) ?_; clear hok a; intro a hok
 refine g_ob hok (p := (!(decide (at_ < 0)))) (v := .bool (decide (at_ > (s.size : Int)))) (S' := [(15, .int .i64 at_), (17, .int .i64 (s.size : Int))]) rfl rfl rfl (wantB_f _) rfl (by decide) (fun hp hS => ((hS.conv (t := 15) rfl (cond_t hp)).conv (t := 17) rfl (cond_t hp)).sub (ts := [15, 17]) rfl) (fun _ => Ob_c TB_Varnum rfl) ?_; clear hok a; intro a hok
 refine s_ob hok (v := .bool ((decide (at_ < 0)) || (decide (at_ > (s.size : Int))))) rfl rfl (by decide) rfl (Ob_pick rfl rfl rfl rfl (pick_or _ _)) ?_; clear hok a; intro a hok
 refine s_runk TB_Varnum hok 1 rfl rfl ?_; clear hok a; intro a hok
 refine s_end hok [0, 1, 4, 5, 6, 11] rfl ?_; clear hok; intro hok
 refine p_then ?_
 refine f_cond hok rfl (fun hc1 => ?_) (fun hc1 => ?_)
 ·replace hc1 := orT hc1 (fun h => of_decide_eq_true h) (fun h => of_decide_eq_true h)
  refine wp_seq (f_region hok ?_); clear hok; intro hok
  refine s_runk TB_Varnum hok 3 rfl rfl ?_; clear hok a; intro a hok
  refine s_end hok [0, 1, 4, 5, 6, 11] rfl ?_; clear hok; intro hok
  refine p_then (wp_ret ?_)
  refine p_blk_r ?_
  refine p_then_r ?_
  refine f_ret hok (run_results3 rfl hok rfl rfl rfl) ?_
  refine ⟨?_, H.below fun _ h => h⟩
  ·clear hok H
   rw [vget_arg (by omega)]; rfl
 ·replace hc1 := And.intro (of_decide_eq_false (orF1 hc1)) (of_decide_eq_false (orF2 hc1))
  refine wp_seq (f_region hok ?_); clear hok; intro hok
  refine s_runk TB_Varnum hok 5 rfl rfl ?_; clear hok a; intro a hok
  refine s_end hok [0, 1, 4, 5, 6, 11, 20] rfl ?_; clear hok; intro hok
  refine p_then ?_
  refine f_cond hok rfl (fun hc2 => ?_) (fun hc2 => ?_)
  ·replace hc2 := eq_of_beq hc2
   refine wp_seq (f_region hok ?_); clear hok; intro hok
   refine s_runk TB_Varnum hok 3 rfl rfl ?_; clear hok a; intro a hok
   refine s_end hok [0, 1, 4, 5, 6, 11, 20] rfl ?_; clear hok; intro hok
   refine p_then (wp_ret ?_)
   refine p_blk_r ?_
   refine p_then_r ?_
   refine f_ret hok (run_results3 rfl hok rfl rfl rfl) ?_
   refine ⟨?_, H.below fun _ h => h⟩
   ·clear hok H
    rw [vget_end (by omega)]; rfl
  ·replace hc2 := ne_of_beq_false hc2
   refine wp_seq (f_region hok ?_); clear hok; intro hok
   refine s_runk TB_Varnum hok 2 rfl rfl ?_; clear hok a; intro a hok
   have hi1 : at_.toNat < s.size := by omega
   refine s_ob hok (v := .int .u8 (byteAt s at_.toNat : Int)) rfl rfl (by decide) rfl (Ob_idxs TB_Varnum (at_.toNat) rfl rfl rfl rfl (by omega) hi1) ?_; clear hok a; intro a hok
   refine s_runk TB_Varnum hok 2 rfl rfl ?_; clear hok a; intro a hok
   refine s_end hok [0, 1, 4, 5, 6, 11, 20, 25] rfl ?_; clear hok; intro hok
   refine p_then ?_
   refine f_cond hok rfl (fun hc3 => ?_) (fun hc3 => ?_)
   ·replace hc3 := of_decide_eq_true hc3
    refine wp_seq (f_region hok ?_); clear hok; intro hok
    refine s_runk TB_Varnum hok 2 rfl rfl ?_; clear hok a; intro a hok
    have hi2 : at_.toNat < s.size := by omega
    refine s_ob hok (v := .int .u8 (byteAt s at_.toNat : Int)) rfl rfl (by decide) rfl (Ob_idxs TB_Varnum (at_.toNat) rfl rfl rfl rfl (by omega) hi2) ?_; clear hok a; intro a hok
    have hcv1 : ∀ w : World, (convert 5 22 (.int .u8 (byteAt s at_.toNat : Int))).run Try.prog w = .ok (.int .u64 (byteAt s at_.toNat : Int)) w := fun w => run_convi Try.underlying5 Try.underlying22 _ _ (IntWalk.u64_in _ (by omega)) w
    refine s_ob hok (v := .int .u64 (byteAt s at_.toNat : Int)) rfl rfl (by decide) rfl (Ob_conv rfl rfl (hcv1 _)) ?_; clear hok a; intro a hok
    refine s_runk TB_Varnum hok 1 rfl rfl ?_; clear hok a; intro a hok
    refine s_ob hok (v := .int .i64 (at_ + 1)) rfl rfl (by decide) rfl (Ob_add rfl rfl rfl (IntWalk.i64_in _ (by omega))) ?_; clear hok a; intro a hok
    refine s_runk TB_Varnum hok 3 rfl rfl ?_; clear hok a; intro a hok
    refine s_end hok [0, 1, 4, 5, 6, 11, 20, 25] rfl ?_; clear hok; intro hok
    refine p_then (wp_ret ?_)
    refine p_blk_r ?_
    refine p_then_r ?_
    refine f_ret hok (run_results3 rfl hok rfl rfl rfl) ?_
    refine ⟨?_, H.below fun _ h => h⟩
    ·clear hok H
     rw [vget_one (by omega) (by omega) (by omega)]
   ·replace hc3 := of_decide_eq_false hc3
    refine wp_skip ?_
    refine p_blk ?_
    refine p_then (wp_seq (f_region hok ?_)); clear hok; intro hok
    refine s_runk TB_Varnum hok 2 rfl rfl ?_; clear hok a; intro a hok
    have hi3 : at_.toNat < s.size := by omega
    refine s_ob hok (v := .int .u8 (byteAt s at_.toNat : Int)) rfl rfl (by decide) rfl (Ob_idxs TB_Varnum (at_.toNat) rfl rfl rfl rfl (by omega) hi3) ?_; clear hok a; intro a hok
    have hcv2 : ∀ w : World, (convert 5 3 (.int .u8 (byteAt s at_.toNat : Int))).run Try.prog w = .ok (.int .i64 (byteAt s at_.toNat : Int)) w := fun w => run_convi Try.underlying5 Try.underlying3 _ _ (IntWalk.i64_in _ (by omega)) w
    refine s_ob hok (v := .int .i64 (byteAt s at_.toNat : Int)) rfl rfl (by decide) rfl (Ob_conv rfl rfl (hcv2 _)) ?_; clear hok a; intro a hok
    refine s_ob hok (v := .int .i64 ((byteAt s at_.toNat : Int) - 247)) rfl rfl (by decide) rfl (Ob_sub rfl rfl rfl (IntWalk.i64_in _ (by omega))) ?_; clear hok a; intro a hok
    refine s_runk TB_Varnum hok 1 rfl rfl ?_; clear hok a; intro a hok
    refine s_end hok [0, 1, 4, 5, 6, 11, 20, 25, 7] rfl ?_; clear hok; intro hok
    refine p_then (wp_seq (f_region hok ?_)); clear hok; intro hok
    refine s_runk TB_Varnum hok 2 rfl rfl ?_; clear hok a; intro a hok
    refine s_ob hok (v := .int .i64 (at_ + 1)) rfl rfl (by decide) rfl (Ob_add rfl rfl rfl (IntWalk.i64_in _ (by omega))) ?_; clear hok a; intro a hok
    have hs1 : (at_ + 1).toNat ≤ s.size ∧ s.size ≤ s.size := by constructor <;> omega
    refine s_ob hok (v := .string (s.extract ((at_ + 1).toNat) s.size)) rfl rfl (by decide) rfl (Ob_ss_from TB_Varnum ((at_ + 1).toNat) rfl rfl rfl rfl (by omega) hs1.1) ?_; clear hok a; intro a hok
    refine s_runk TB_Varnum hok 1 rfl rfl ?_; clear hok a; intro a hok
    refine s_end hok [0, 1, 4, 5, 6, 11, 20, 25, 7, 8] rfl ?_; clear hok; intro hok
    refine p_then (wp_seq ?_)
    refine wp_seq (f_region hok ?_); clear hok; intro hok
    refine s_runk TB_Varnum hok 4 rfl rfl ?_; clear hok a; intro a hok
    refine s_end hok [0, 1, 4, 5, 6, 11, 20, 25, 7, 8, 48] rfl ?_; clear hok; intro hok
    refine p_then ?_
    refine f_cond hok rfl (fun hc4 => ?_) (fun hc4 => ?_)
    ·replace hc4 := of_decide_eq_true hc4
     refine wp_seq (f_region hok ?_); clear hok; intro hok
     refine s_runk TB_Varnum hok 3 rfl rfl ?_; clear hok a; intro a hok
     refine s_end hok [0, 1, 4, 5, 6, 11, 20, 25, 7, 8, 48] rfl ?_; clear hok; intro hok
     refine p_then (wp_ret ?_)
     refine p_then_r ?_
     refine f_ret hok (run_results3 rfl hok rfl rfl rfl) ?_
     refine ⟨?_, H.below fun _ h => h⟩
     ·clear hok H
      rw [vget_few (by omega) (by omega) (by omega) (by simp only [ByteArray.size_extract] at *; omega)]; rfl
    ·replace hc4 := of_decide_eq_false hc4
     refine wp_skip ?_
     refine p_then (wp_seq (f_region hok ?_)); clear hok; intro hok
     refine s_runk TB_Varnum hok 1 rfl rfl ?_; clear hok a; intro a hok
     refine s_end hok [0, 1, 4, 5, 6, 11, 20, 25, 7, 8, 48, 9] rfl ?_; clear hok; intro hok
     refine p_then (wp_seq ?_)
     refine wp_seq (f_region hok ?_); clear hok; intro hok
     refine s_runk TB_Varnum hok 2 rfl rfl ?_; clear hok a; intro a hok
     refine s_end hok [0, 1, 4, 5, 6, 11, 20, 25, 7, 8, 48, 9, 49, 50] rfl ?_; clear hok; intro hok
     refine p_then (wp_block ?_)
     refine f_loop (σ := Nat × Nat) (fun ⟨i, m⟩ a w' => Sl 74 [(0, .string s), (1, .int .i64 at_), (4, .int .u64 0), (5, .int .i64 0), (6, .int .i64 0), (11, .bool ((decide (at_ < 0)) || (decide (at_ > (s.size : Int))))), (20, .bool (at_ == (s.size : Int))), (25, .bool (decide ((byteAt s at_.toNat : Int) < 248))), (7, .int .i64 ((byteAt s at_.toNat : Int) - 247)), (8, .string (s.extract ((at_ + 1).toNat) s.size)), (48, .bool (decide (((s.extract ((at_ + 1).toNat) s.size).size : Int) < ((byteAt s at_.toNat : Int) - 247)))), (49, .int .i64 ((byteAt s at_.toNat : Int) - 247)), (50, .int .i64 (i : Int)), (9, .int .u64 (m : Int))] a ∧ (i ≤ byteAt s at_.toNat - 247) ∧ (m = beV (s.extract (at_ + 1).toNat s.size) 0 i) ∧ ∃ I2, Hf I NoD w I2 w' []) (fun ⟨i, m⟩ => byteAt s at_.toNat - 247 - i) (0, 0) ⟨hok.sub (ts := [0, 1, 4, 5, 6, 11, 20, 25, 7, 8, 48, 49, 50, 9]) rfl, by omega, by rfl, I, H⟩ ?_
     clear hok H
     rintro ⟨i, m⟩ a w1 ⟨hok, hinv0_0, hinv0_1, I1, H⟩
     have hb7 : i < 8 → m < 72057594037927936 := hinv0_1 ▸ beV_lt7 _ _ _
     have hb6 : i ≤ 8 → m < 18446744073709551616 := hinv0_1 ▸ beV_lt8 _ _ _
     have hb9 := byteAt_lt (s.extract (at_ + 1).toNat s.size) i
     have hex : (s.extract (at_ + 1).toNat s.size).size = s.size - (at_ + 1).toNat := (by simp)
     refine wp_seq (f_region hok ?_); clear hok; intro hok
     refine s_runk TB_Varnum hok 1 rfl rfl ?_; clear hok a; intro a hok
     refine s_end hok [0, 1, 4, 5, 6, 11, 20, 25, 7, 8, 48, 49, 50, 9, 51] rfl ?_; clear hok; intro hok
     refine p_then (wp_seq ?_)
     refine f_cond hok rfl (fun hc5 => ?_) (fun hc5 => ?_)
     ·replace hc5 := of_decide_eq_true hc5
      refine wp_skip ?_
      refine p_then (wp_seq ?_)
      refine wp_block ?_
      refine wp_seq (f_region hok ?_); clear hok; intro hok
      refine s_runk TB_Varnum hok 2 rfl rfl ?_; clear hok a; intro a hok
      refine s_end hok [0, 1, 4, 5, 6, 11, 20, 25, 7, 8, 48, 49, 50, 9, 51, 10] rfl ?_; clear hok; intro hok
      refine p_then ?_
      refine f_region hok ?_; clear hok; intro hok
      refine s_runk TB_Varnum hok 1 rfl rfl ?_; clear hok a; intro a hok
      refine s_ob hok (v := .int .u64 ((m * 256 : Nat) : Int)) rfl rfl (by decide) rfl (Ob_shl rfl rfl rfl (by decide) (shl_byte m (by omega))) ?_; clear hok a; intro a hok
      refine s_runk TB_Varnum hok 2 rfl rfl ?_; clear hok a; intro a hok
      have hi4 : i < (s.extract ((at_ + 1).toNat) s.size).size := by omega
      refine s_ob hok (v := .int .u8 (byteAt (s.extract ((at_ + 1).toNat) s.size) i : Int)) rfl rfl (by decide) rfl (Ob_idxs TB_Varnum (i) rfl rfl rfl rfl rfl hi4) ?_; clear hok a; intro a hok
      have hcv3 : ∀ w : World, (convert 5 22 (.int .u8 (byteAt (s.extract ((at_ + 1).toNat) s.size) i : Int))).run Try.prog w = .ok (.int .u64 (byteAt (s.extract ((at_ + 1).toNat) s.size) i : Int)) w := fun w => run_convi Try.underlying5 Try.underlying22 _ _ (IntWalk.u64_in _ (by omega)) w
      refine s_ob hok (v := .int .u64 (byteAt (s.extract ((at_ + 1).toNat) s.size) i : Int)) rfl rfl (by decide) rfl (Ob_conv rfl rfl (hcv3 _)) ?_; clear hok a; intro a hok
      refine s_ob hok (v := .int .u64 ((m * 256 + (byteAt (s.extract ((at_ + 1).toNat) s.size) i) : Nat) : Int)) rfl rfl (by decide) rfl (Ob_or rfl rfl rfl (or_byte m (byteAt (s.extract ((at_ + 1).toNat) s.size) i) (by omega) (by omega))) ?_; clear hok a; intro a hok
      refine s_runk TB_Varnum hok 1 rfl rfl ?_; clear hok a; intro a hok
      refine s_end hok [0, 1, 4, 5, 6, 11, 20, 25, 7, 8, 48, 49, 50, 9, 51, 10] rfl ?_; clear hok; intro hok
      refine p_blk ?_
      refine p_then ?_
      refine f_region hok ?_; clear hok; intro hok
      refine s_ob hok (v := .int .i64 ((i : Int) + 1)) rfl rfl (by decide) rfl (Ob_add rfl rfl rfl (IntWalk.i64_in _ (by omega))) ?_; clear hok a; intro a hok
      refine s_runk TB_Varnum hok 1 rfl rfl ?_; clear hok a; intro a hok
      refine s_end hok [0, 1, 4, 5, 6, 11, 20, 25, 7, 8, 48, 49, 50, 9, 51, 10] rfl ?_; clear hok; intro hok
      refine p_then ?_
      refine ⟨(i + 1, m * 256 + byteAt (s.extract (at_ + 1).toNat s.size) i), ⟨hok.sub (ts := [0, 1, 4, 5, 6, 11, 20, 25, 7, 8, 48, 49, 50, 9]) rfl, ?_, ?_, I1, H.sub [] rfl⟩, by dsimp only; omega⟩
      ·clear hok H
       omega
      ·clear hok H
       rw [hinv0_1, beV, Nat.zero_add]
     ·replace hc5 := of_decide_eq_false hc5
      refine wp_exit ?_
      refine p_then_x ?_
      refine p_then_x ?_
      refine f_exit_here ?_
      refine p_then (wp_seq ?_)
      refine wp_seq ?_
      refine f_quiet hok ?_; clear hok; intro hok
      refine q_runk TB_Varnum hok 3 rfl rfl ?_; clear hok a; intro a hok
      refine gq_ob hok (p := (!(decide ((m : Int) < 248)))) (v := .int .u64 (m : Int)) (S' := [(9, .int .u64 (m : Int))]) rfl rfl rfl (wantB_f _) rfl (by decide) (fun hp hS => hS.sub (ts := [9]) rfl) (fun _ => fun _ _ => Ob_c TB_Varnum rfl) ?_; clear hok a; intro a hok
      refine gq_call hok (p := (!(decide ((m : Int) < 248)))) (v := .int .i64 (needsN m : Int)) (S' := [(64, .int .u64 (m : Int))]) (caps := #[]) fn_66_Varnum rfl rfl rfl (wantB_f _) rfl (by decide) (fun hp hS => (hS.conv (t := 64) rfl (cond_t hp)).sub (ts := [64]) rfl) rfl rfl rfl rfl (fun hp => ?_) ?_
      ·have hg1 := of_decide_eq_false (notT hp)
       exact fun _ hw => c_needs m _ (show m < 18446744073709551616 by omega)
      clear hok a; intro a hok
      refine gq_ob hok (p := (!(decide ((m : Int) < 248)))) (v := .int .i64 ((byteAt s at_.toNat : Int) - 247)) (S' := [(7, .int .i64 ((byteAt s at_.toNat : Int) - 247))]) rfl rfl rfl (wantB_f _) rfl (by decide) (fun hp hS => hS.sub (ts := [7]) rfl) (fun _ => fun _ _ => Ob_c TB_Varnum rfl) ?_; clear hok a; intro a hok
      refine gq_ob hok (p := (!(decide ((m : Int) < 248)))) (v := .bool ((needsN m : Int) != ((byteAt s at_.toNat : Int) - 247))) (S' := [(65, .int .i64 (needsN m : Int)), (66, .int .i64 ((byteAt s at_.toNat : Int) - 247))]) rfl rfl rfl (wantB_f _) rfl (by decide) (fun hp hS => ((hS.conv (t := 65) rfl (cond_t hp)).conv (t := 66) rfl (cond_t hp)).sub (ts := [65, 66]) rfl) (fun _ => fun _ _ => Ob_c TB_Varnum rfl) ?_; clear hok a; intro a hok
      refine q_ob hok (v := .bool ((decide ((m : Int) < 248)) || ((needsN m : Int) != ((byteAt s at_.toNat : Int) - 247)))) rfl rfl (by decide) rfl (fun _ _ => Ob_pick rfl rfl rfl rfl (pick_or _ _)) ?_; clear hok a; intro a hok
      refine q_end hok [0, 1, 4, 5, 6, 11, 20, 25, 7, 8, 48, 49, 50, 9, 51, 68] rfl ?_; clear hok; intro w2 hb hok
      replace H := H.blw hb
      clear hb
      refine p_then ?_
      refine f_cond hok rfl (fun hc6 => ?_) (fun hc6 => ?_)
      ·replace hc6 := orT hc6 (fun h => of_decide_eq_true h) (fun h => bne_iff_ne.1 h)
       refine wp_seq (f_region hok ?_); clear hok; intro hok
       refine s_runk TB_Varnum hok 3 rfl rfl ?_; clear hok a; intro a hok
       refine s_end hok [0, 1, 4, 5, 6, 11, 20, 25, 7, 8, 48, 49, 50, 9, 51, 68] rfl ?_; clear hok; intro hok
       refine p_then (wp_ret ?_)
       refine p_then_r ?_
       refine f_ret hok (run_results3 rfl hok rfl rfl rfl) ?_
       refine ⟨?_, H.below fun _ h => h⟩
       ·clear hok H
        have e : m = beV s (at_.toNat + 1) (byteAt s at_.toNat - 247) := (by rw [hinv0_1, show (at_ + 1).toNat = at_.toNat + 1 by omega, show i = byteAt s at_.toNat - 247 by omega, beV_from _ _ (byteAt s at_.toNat - 247) (by omega) _ (Nat.le_refl _)]); rw [vget_form (by omega) (by omega) (by omega) (by omega) e (by rcases hc6 with h | h <;> omega)]; rfl
      ·replace hc6 := And.intro (of_decide_eq_false (orF1 hc6)) (bne_eq_false_iff_eq.1 (orF2 hc6))
       refine wp_skip ?_
       refine p_then (wp_seq (f_region hok ?_)); clear hok; intro hok
       refine s_runk TB_Varnum hok 2 rfl rfl ?_; clear hok a; intro a hok
       refine s_ob hok (v := .int .i64 (at_ + 1)) rfl rfl (by decide) rfl (Ob_add rfl rfl rfl (IntWalk.i64_in _ (by omega))) ?_; clear hok a; intro a hok
       refine s_runk TB_Varnum hok 1 rfl rfl ?_; clear hok a; intro a hok
       refine s_ob hok (v := .int .i64 (at_ + 1 + ((byteAt s at_.toNat : Int) - 247))) rfl rfl (by decide) rfl (Ob_add rfl rfl rfl (IntWalk.i64_in _ (by omega))) ?_; clear hok a; intro a hok
       refine s_runk TB_Varnum hok 3 rfl rfl ?_; clear hok a; intro a hok
       refine s_end hok [0, 1, 4, 5, 6, 11, 20, 25, 7, 8, 48, 49, 50, 9, 51, 68] rfl ?_; clear hok; intro hok
       refine p_then (wp_ret ?_)
       refine f_ret hok (run_results3 rfl hok rfl rfl rfl) ?_
       refine ⟨?_, H.below fun _ h => h⟩
       ·clear hok H
        have e : m = beV s (at_.toNat + 1) (byteAt s at_.toNat - 247) := (by rw [hinv0_1, show (at_ + 1).toNat = at_.toNat + 1 by omega, show i = byteAt s at_.toNat - 247 by omega, beV_from _ _ (byteAt s at_.toNat - 247) (by omega) _ (Nat.le_refl _)]); rw [vget_many (by omega) (by omega) (by omega) (by omega) e (by omega)]; rw [show ((byteAt s at_.toNat - 247 : Nat) : Int) = (byteAt s at_.toNat : Int) - 247 by omega]

-- (no catena/catenaref01.Get in this seat)

end Go.Proofs.Ythmjkcdpbbcdgaa
