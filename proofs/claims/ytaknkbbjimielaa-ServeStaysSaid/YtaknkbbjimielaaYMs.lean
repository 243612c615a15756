/- Messages: what is wrong with one, for the program and for the document. -/
import Derived.Test.YtaknkbbjimielaaYItem
import Derived.Test.YtaknkbbjimielaaYRv
namespace Go.Proofs.Ytaknkbbjimielaa
open Go.RowKit
def tMsL : TabL := ⟨[(37888, 0), (37889, 1), (37890, 2), (37891, 3), (37895, 7), (37896, 8), (37897, 9), (37898, 10), (37899, 11), (37900, 12), (37901, 13), (37902, 16), (37903, 19), (37904, 20), (37905, 21), (82944, 0), (82945, 1)], [9], [], [(33, (114, 4)), (34, (23, 1)), (35, (81, 2))], [(3, (1, false)), (9, (1, false)), (26, (1, false)), (29, (3, true)), (32, (3, true)), (33, (1, false)), (34, (1, false)), (35, (1, false)), (37, (22, true)), (81, (2, true)), (114, (4, true)), (135, (16, true))]⟩

def tMs : Tab Try.prog := ⟨tMsL, by kernel_rfl⟩

theorem fn_39_YMs : IsFn Try.prog 39 := ⟨_, Try.func39, by kernel_rfl, by kernel_rfl⟩

theorem fn_49_YMs : IsFn Try.prog 49 := ⟨_, Try.func49, by kernel_rfl, by kernel_rfl⟩

theorem fn_50_YMs : IsFn Try.prog 50 := ⟨_, Try.func50, by kernel_rfl, by kernel_rfl⟩

theorem fn_68_YMs : IsFn Try.prog 68 := ⟨_, Try.func68, by kernel_rfl, by kernel_rfl⟩

theorem fn_69_YMs : IsFn Try.prog 69 := ⟨_, Try.func69, by kernel_rfl, by kernel_rfl⟩

theorem fn_70_YMs : IsFn Try.prog 70 := ⟨_, Try.func70, by kernel_rfl, by kernel_rfl⟩

theorem fn_71_YMs : IsFn Try.prog 71 := ⟨_, Try.func71, by kernel_rfl, by kernel_rfl⟩

theorem fn_72_YMs : IsFn Try.prog 72 := ⟨_, Try.func72, by kernel_rfl, by kernel_rfl⟩

theorem fn_73_YMs : IsFn Try.prog 73 := ⟨_, Try.func73, by kernel_rfl, by kernel_rfl⟩

theorem fn_74_YMs : IsFn Try.prog 74 := ⟨_, Try.func74, by kernel_rfl, by kernel_rfl⟩

theorem fn_75_YMs : IsFn Try.prog 75 := ⟨_, Try.func75, by kernel_rfl, by kernel_rfl⟩

theorem fn_76_YMs : IsFn Try.prog 76 := ⟨_, Try.func76, by kernel_rfl, by kernel_rfl⟩

theorem fn_83_YMs : IsFn Try.prog 83 := ⟨_, Try.func83, by kernel_rfl, by kernel_rfl⟩

theorem fn_91_YMs : IsFn Try.prog 91 := ⟨_, Try.func91, by kernel_rfl, by kernel_rfl⟩

def F_mess_number (c : Int) : Option (Option Nat) := if (c == 101) = true then (some (some 1)) else (if (c == 115) = true then (some (some 3)) else (if (c == 114) = true then (some (some 2)) else (if (c == 110) = true then (some (some 7)) else (if (c == 109) = true then (some (some 8)) else (if (c == 112) = true then (some (some 9)) else (some none))))))

set_option maxHeartbeats 1000000 in
theorem c_mess_number {I D : Dm} {b_m : Nat} {c : Int} {w : World} {rr : Option Nat} (hF : F_mess_number c = some rr) (H : St I D w []) :
  Calls Try.prog 68 #[pp b_m 0, .int .i32 c] w (Ret fun vv w' => vv = iptV b_m rr ∧ ∃ I', Hf I D w I' w' []) := by
 replace H := H.hf
 unfold F_mess_number at hF
 refine f_enter 36 Try.func68 rfl rfl (Nat.le_of_ble_eq_true rfl) fun a Z => ?_
 replace Z := Z.sub (ts := [0, 1]) rfl
 refine wp_seq (f_region Z ?_); clear Z; intro Z
 refine s_runk tMs Z 1 rfl rfl fun a Z => ?_
 refine s_end Z [0, 1] rfl fun Z => ?_
 refine p_then (wp_seq ?_)
 refine wp_seq (f_region Z ?_); clear Z; intro Z
 refine s_runk tMs Z 1 rfl rfl fun a Z => ?_
 refine s_end Z [0, 5] rfl fun Z => ?_
 refine p_then (wp_block ?_)
 refine wp_seq (f_region Z ?_); clear Z; intro Z
 refine s_runk tMs Z 2 rfl rfl fun a Z => ?_
 refine s_end Z [0, 5, 6] rfl fun Z => ?_
 refine p_then ?_
 refine f_cond Z rfl (fun hc1 => ?_) (fun hc1 => ?_)
 ·replace hF := ite_t hc1 hF
  refine wp_seq (f_region Z ?_); clear Z; intro Z
  refine s_runk tMs Z 4 rfl rfl fun a Z => ?_
  refine s_end Z [4] rfl fun Z => ?_
  refine p_then (wp_ret ?_)
  refine p_blk_r ?_
  refine p_then_r ?_
  obtain rfl := some_in hF
  exact f_ret Z (run_results1 rfl Z rfl) ⟨rfl, I, (H.sub [] rfl).eq rfl⟩
 ·replace hF := ite_f hc1 hF
  refine wp_seq (f_region Z ?_); clear Z; intro Z
  refine s_runk tMs Z 2 rfl rfl fun a Z => ?_
  refine s_end Z [0, 5, 11] rfl fun Z => ?_
  refine p_then ?_
  refine f_cond Z rfl (fun hc2 => ?_) (fun hc2 => ?_)
  ·replace hF := ite_t hc2 hF
   refine wp_seq (f_region Z ?_); clear Z; intro Z
   refine s_runk tMs Z 4 rfl rfl fun a Z => ?_
   refine s_end Z [4] rfl fun Z => ?_
   refine p_then (wp_ret ?_)
   refine p_blk_r ?_
   refine p_then_r ?_
   obtain rfl := some_in hF
   exact f_ret Z (run_results1 rfl Z rfl) ⟨rfl, I, (H.sub [] rfl).eq rfl⟩
  ·replace hF := ite_f hc2 hF
   refine wp_seq (f_region Z ?_); clear Z; intro Z
   refine s_runk tMs Z 2 rfl rfl fun a Z => ?_
   refine s_end Z [0, 5, 16] rfl fun Z => ?_
   refine p_then ?_
   refine f_cond Z rfl (fun hc3 => ?_) (fun hc3 => ?_)
   ·replace hF := ite_t hc3 hF
    refine wp_seq (f_region Z ?_); clear Z; intro Z
    refine s_runk tMs Z 4 rfl rfl fun a Z => ?_
    refine s_end Z [4] rfl fun Z => ?_
    refine p_then (wp_ret ?_)
    refine p_blk_r ?_
    refine p_then_r ?_
    obtain rfl := some_in hF
    exact f_ret Z (run_results1 rfl Z rfl) ⟨rfl, I, (H.sub [] rfl).eq rfl⟩
   ·replace hF := ite_f hc3 hF
    refine wp_seq (f_region Z ?_); clear Z; intro Z
    refine s_runk tMs Z 2 rfl rfl fun a Z => ?_
    refine s_end Z [0, 5, 21] rfl fun Z => ?_
    refine p_then ?_
    refine f_cond Z rfl (fun hc4 => ?_) (fun hc4 => ?_)
    ·replace hF := ite_t hc4 hF
     refine wp_seq (f_region Z ?_); clear Z; intro Z
     refine s_runk tMs Z 4 rfl rfl fun a Z => ?_
     refine s_end Z [4] rfl fun Z => ?_
     refine p_then (wp_ret ?_)
     refine p_blk_r ?_
     refine p_then_r ?_
     obtain rfl := some_in hF
     exact f_ret Z (run_results1 rfl Z rfl) ⟨rfl, I, (H.sub [] rfl).eq rfl⟩
    ·replace hF := ite_f hc4 hF
     refine wp_seq (f_region Z ?_); clear Z; intro Z
     refine s_runk tMs Z 2 rfl rfl fun a Z => ?_
     refine s_end Z [0, 5, 26] rfl fun Z => ?_
     refine p_then ?_
     refine f_cond Z rfl (fun hc5 => ?_) (fun hc5 => ?_)
     ·replace hF := ite_t hc5 hF
      refine wp_seq (f_region Z ?_); clear Z; intro Z
      refine s_runk tMs Z 4 rfl rfl fun a Z => ?_
      refine s_end Z [4] rfl fun Z => ?_
      refine p_then (wp_ret ?_)
      refine p_blk_r ?_
      refine p_then_r ?_
      obtain rfl := some_in hF
      exact f_ret Z (run_results1 rfl Z rfl) ⟨rfl, I, (H.sub [] rfl).eq rfl⟩
     ·replace hF := ite_f hc5 hF
      refine wp_seq (f_region Z ?_); clear Z; intro Z
      refine s_runk tMs Z 2 rfl rfl fun a Z => ?_
      refine s_end Z [0, 31] rfl fun Z => ?_
      refine p_then ?_
      refine f_cond Z rfl (fun hc6 => ?_) (fun hc6 => ?_)
      ·replace hF := ite_t hc6 hF
       refine wp_seq (f_region Z ?_); clear Z; intro Z
       refine s_runk tMs Z 4 rfl rfl fun a Z => ?_
       refine s_end Z [4] rfl fun Z => ?_
       refine p_then (wp_ret ?_)
       refine p_blk_r ?_
       refine p_then_r ?_
       obtain rfl := some_in hF
       exact f_ret Z (run_results1 rfl Z rfl) ⟨rfl, I, (H.sub [] rfl).eq rfl⟩
      ·replace hF := ite_f hc6 hF
       refine wp_skip ?_
       refine p_blk ?_
       refine p_then (wp_seq (f_region Z ?_)); clear Z; intro Z
       refine s_runk tMs Z 1 rfl rfl fun a Z => ?_
       refine s_end Z [4] rfl fun Z => ?_
       refine p_then (wp_ret ?_)
       obtain rfl := some_in hF
       exact f_ret Z (run_results1 rfl Z rfl) ⟨rfl, I, (H.sub [] rfl).eq rfl⟩

def F_mess_parts (k : Int) : Option (ByteArray × Bool) := if ((decide (k < 1)) || (decide (k ≥ 16))) = true then (some (⟨#[]⟩, false)) else (if (k == 0) = true then (some (⟨#[]⟩, true)) else if (k == 1) = true then (some (⟨#[67, 97]⟩, true)) else if (k == 2) = true then (some (⟨#[101, 115, 102, 97, 108]⟩, true)) else if (k == 3) = true then (some (⟨#[101, 110, 109, 112, 114, 97, 69]⟩, true)) else if (k == 4) = true then (some (⟨#[101, 110, 109, 112, 83]⟩, true)) else if (k == 5) = true then (some (⟨#[101, 66]⟩, true)) else if (k == 6) = true then (some (⟨#[114, 97]⟩, true)) else if (k == 7) = true then (some (⟨#[114, 120, 101, 110]⟩, true)) else if (k == 8) = true then (some (⟨#[114, 107, 97]⟩, true)) else if (k == 9) = true then (some (⟨#[114, 107, 116, 97, 110]⟩, true)) else if (k == 10) = true then (some (⟨#[114, 107, 97, 102, 82]⟩, true)) else if (k == 11) = true then (some (⟨#[114, 97]⟩, true)) else if (k == 12) = true then (some (⟨#[114, 110]⟩, true)) else if (k == 13) = true then (some (⟨#[114, 110]⟩, true)) else if (k == 14) = true then (some (⟨#[114, 110]⟩, true)) else if (k == 15) = true then (some (⟨#[]⟩, true)) else none)

set_option maxHeartbeats 1000000 in
theorem c_mess_parts {I D : Dm} {k : Int} {w : World} {rr : ByteArray × Bool} (hF : F_mess_parts k = some rr) (H : St I D w []) :
  Calls Try.prog 49 #[vI k] w (Ret fun vv w' => vv = .tuple #[vS rr.1, vT rr.2] ∧ ∃ I', Hf I D w I' w' []) := by
 replace H := H.hf
 unfold F_mess_parts at hF
 refine f_enter 15 Try.func49 rfl rfl (Nat.le_of_ble_eq_true rfl) fun a Z => ?_
 replace Z := Z.sub (ts := [0]) rfl
 refine wp_seq (f_region Z ?_); clear Z; intro Z
 refine s_runk tMs Z 2 rfl rfl fun a Z => ?_
 refine s_end Z [0] rfl fun Z => ?_
 refine p_then (wp_seq (f_region Z ?_)); clear Z; intro Z
 refine sO Z (.agg #[vS ⟨#[]⟩, vS ⟨#[67, 97]⟩, vS ⟨#[101, 115, 102, 97, 108]⟩, vS ⟨#[101, 110, 109, 112, 114, 97, 69]⟩, vS ⟨#[101, 110, 109, 112, 83]⟩, vS ⟨#[101, 66]⟩, vS ⟨#[114, 97]⟩, vS ⟨#[114, 120, 101, 110]⟩, vS ⟨#[114, 107, 97]⟩, vS ⟨#[114, 107, 116, 97, 110]⟩, vS ⟨#[114, 107, 97, 102, 82]⟩, vS ⟨#[114, 97]⟩, vS ⟨#[114, 110]⟩, vS ⟨#[114, 110]⟩, vS ⟨#[114, 110]⟩, vS ⟨#[]⟩]) rfl (Ob_build (vs := [(0, vS ⟨#[]⟩), (1, vS ⟨#[67, 97]⟩), (2, vS ⟨#[101, 115, 102, 97, 108]⟩), (3, vS ⟨#[101, 110, 109, 112, 114, 97, 69]⟩), (4, vS ⟨#[101, 110, 109, 112, 83]⟩), (5, vS ⟨#[101, 66]⟩), (6, vS ⟨#[114, 97]⟩), (7, vS ⟨#[114, 120, 101, 110]⟩), (8, vS ⟨#[114, 107, 97]⟩), (9, vS ⟨#[114, 107, 116, 97, 110]⟩), (10, vS ⟨#[114, 107, 97, 102, 82]⟩), (11, vS ⟨#[114, 97]⟩), (12, vS ⟨#[114, 110]⟩), (13, vS ⟨#[114, 110]⟩), (14, vS ⟨#[114, 110]⟩), (15, vS ⟨#[]⟩)]) rfl rfl (by go_simp <;> rfl)) fun a Z => ?_
 refine hA Z H [vS ByteArray.empty, vS ByteArray.empty, vS ByteArray.empty, vS ByteArray.empty, vS ByteArray.empty, vS ByteArray.empty, vS ByteArray.empty, vS ByteArray.empty, vS ByteArray.empty, vS ByteArray.empty, vS ByteArray.empty, vS ByteArray.empty, vS ByteArray.empty, vS ByteArray.empty, vS ByteArray.empty, vS ByteArray.empty] rfl rfl (by kernel_rfl) fun a w1 b1 H Z => ?_
 refine hT tMs Z H 0 rfl rfl rfl rfl rfl (onR 16 rfl one_nil) (Nat.le_of_ble_eq_true rfl) (putCells_all rfl) fun w2 H => ?_
 dsimp only [List.eraseIdx] at H
 refine s_end Z [0, 4] rfl fun Z => ?_
 refine p_then (wp_seq ?_)
 refine wp_seq (f_region Z ?_); clear Z; intro Z
 refine s_runk tMs Z 3 rfl rfl fun a Z => ?_
 refine gO Z (vI k) rfl (wantB_f _) (.n 0 rfl .z) (fun hp => Ob_c tMs rfl) fun a Z => ?_
 refine gO Z (vT (decide (k ≥ 16))) rfl (wantB_f _) (.c 9 rfl id .z) (fun hp => Ob_c tMs rfl) fun a Z => ?_
 refine sO Z (vT ((decide (k < 1)) || (decide (k ≥ 16)))) rfl (Ob_pick rfl rfl rfl rfl (pick_or _ _)) fun a Z => ?_
 refine s_end Z [0, 4, 11] rfl fun Z => ?_
 refine p_then ?_
 refine f_cond Z rfl (fun hc1 => ?_) (fun hc1 => ?_)
 ·replace hF := ite_t hc1 hF
  refine wp_seq (f_region Z ?_); clear Z; intro Z
  refine s_runk tMs Z 2 rfl rfl fun a Z => ?_
  refine s_end Z [2, 3] rfl fun Z => ?_
  refine p_then (wp_ret ?_)
  refine p_then_r ?_
  obtain rfl := some_in hF
  exact f_ret Z (run_results2 rfl Z rfl rfl) ⟨rfl, I, (H.sub [] rfl).eq rfl⟩
 ·replace hF := ite_f hc1 hF
  refine wp_skip ?_
  refine p_then (wp_seq ?_)
  refine bsplit (k == 0) (fun hi1 => ?_) (fun hi1 => ?_)
  ·replace hF := ite_t hi1 hF
   refine f_region Z fun Z => ?_
   refine s_runk tMs Z 1 rfl rfl fun a Z => ?_
   refine sO Z (pp b1 0) rfl (Ob_apix (m := 1) 0 rfl rfl rfl Try.underlying135 (by kernel_rfl) (eq_of_beq hi1) (by decide)) fun a Z => ?_
   refine sO Z _ rfl (oL tMs rfl rfl (H.bc 0 0 rfl rfl)) fun a Z => ?_
   refine s_runk tMs Z 2 rfl rfl fun a Z => ?_
   refine s_end Z [2, 3] rfl fun Z => ?_
   refine p_then (wp_ret ?_)
   obtain rfl := some_in hF
   exact f_ret Z (run_results2 rfl Z rfl rfl) ⟨rfl, I, (H.sub [] rfl).eq rfl⟩
  replace hF := ite_f hi1 hF
  refine bsplit (k == 1) (fun hi2 => ?_) (fun hi2 => ?_)
  ·replace hF := ite_t hi2 hF
   refine f_region Z fun Z => ?_
   refine s_runk tMs Z 1 rfl rfl fun a Z => ?_
   refine sO Z (pp b1 1) rfl (Ob_apix (m := 1) 1 rfl rfl rfl Try.underlying135 (by kernel_rfl) (eq_of_beq hi2) (by decide)) fun a Z => ?_
   refine sO Z _ rfl (oL tMs rfl rfl (H.bc 0 1 rfl rfl)) fun a Z => ?_
   refine s_runk tMs Z 2 rfl rfl fun a Z => ?_
   refine s_end Z [2, 3] rfl fun Z => ?_
   refine p_then (wp_ret ?_)
   obtain rfl := some_in hF
   exact f_ret Z (run_results2 rfl Z rfl rfl) ⟨rfl, I, (H.sub [] rfl).eq rfl⟩
  replace hF := ite_f hi2 hF
  refine bsplit (k == 2) (fun hi3 => ?_) (fun hi3 => ?_)
  ·replace hF := ite_t hi3 hF
   refine f_region Z fun Z => ?_
   refine s_runk tMs Z 1 rfl rfl fun a Z => ?_
   refine sO Z (pp b1 2) rfl (Ob_apix (m := 1) 2 rfl rfl rfl Try.underlying135 (by kernel_rfl) (eq_of_beq hi3) (by decide)) fun a Z => ?_
   refine sO Z _ rfl (oL tMs rfl rfl (H.bc 0 2 rfl rfl)) fun a Z => ?_
   refine s_runk tMs Z 2 rfl rfl fun a Z => ?_
   refine s_end Z [2, 3] rfl fun Z => ?_
   refine p_then (wp_ret ?_)
   obtain rfl := some_in hF
   exact f_ret Z (run_results2 rfl Z rfl rfl) ⟨rfl, I, (H.sub [] rfl).eq rfl⟩
  replace hF := ite_f hi3 hF
  refine bsplit (k == 3) (fun hi4 => ?_) (fun hi4 => ?_)
  ·replace hF := ite_t hi4 hF
   refine f_region Z fun Z => ?_
   refine s_runk tMs Z 1 rfl rfl fun a Z => ?_
   refine sO Z (pp b1 3) rfl (Ob_apix (m := 1) 3 rfl rfl rfl Try.underlying135 (by kernel_rfl) (eq_of_beq hi4) (by decide)) fun a Z => ?_
   refine sO Z _ rfl (oL tMs rfl rfl (H.bc 0 3 rfl rfl)) fun a Z => ?_
   refine s_runk tMs Z 2 rfl rfl fun a Z => ?_
   refine s_end Z [2, 3] rfl fun Z => ?_
   refine p_then (wp_ret ?_)
   obtain rfl := some_in hF
   exact f_ret Z (run_results2 rfl Z rfl rfl) ⟨rfl, I, (H.sub [] rfl).eq rfl⟩
  replace hF := ite_f hi4 hF
  refine bsplit (k == 4) (fun hi5 => ?_) (fun hi5 => ?_)
  ·replace hF := ite_t hi5 hF
   refine f_region Z fun Z => ?_
   refine s_runk tMs Z 1 rfl rfl fun a Z => ?_
   refine sO Z (pp b1 4) rfl (Ob_apix (m := 1) 4 rfl rfl rfl Try.underlying135 (by kernel_rfl) (eq_of_beq hi5) (by decide)) fun a Z => ?_
   refine sO Z _ rfl (oL tMs rfl rfl (H.bc 0 4 rfl rfl)) fun a Z => ?_
   refine s_runk tMs Z 2 rfl rfl fun a Z => ?_
   refine s_end Z [2, 3] rfl fun Z => ?_
   refine p_then (wp_ret ?_)
   obtain rfl := some_in hF
   exact f_ret Z (run_results2 rfl Z rfl rfl) ⟨rfl, I, (H.sub [] rfl).eq rfl⟩
  replace hF := ite_f hi5 hF
  refine bsplit (k == 5) (fun hi6 => ?_) (fun hi6 => ?_)
  ·replace hF := ite_t hi6 hF
   refine f_region Z fun Z => ?_
   refine s_runk tMs Z 1 rfl rfl fun a Z => ?_
   refine sO Z (pp b1 5) rfl (Ob_apix (m := 1) 5 rfl rfl rfl Try.underlying135 (by kernel_rfl) (eq_of_beq hi6) (by decide)) fun a Z => ?_
   refine sO Z _ rfl (oL tMs rfl rfl (H.bc 0 5 rfl rfl)) fun a Z => ?_
   refine s_runk tMs Z 2 rfl rfl fun a Z => ?_
   refine s_end Z [2, 3] rfl fun Z => ?_
   refine p_then (wp_ret ?_)
   obtain rfl := some_in hF
   exact f_ret Z (run_results2 rfl Z rfl rfl) ⟨rfl, I, (H.sub [] rfl).eq rfl⟩
  replace hF := ite_f hi6 hF
  refine bsplit (k == 6) (fun hi7 => ?_) (fun hi7 => ?_)
  ·replace hF := ite_t hi7 hF
   refine f_region Z fun Z => ?_
   refine s_runk tMs Z 1 rfl rfl fun a Z => ?_
   refine sO Z (pp b1 6) rfl (Ob_apix (m := 1) 6 rfl rfl rfl Try.underlying135 (by kernel_rfl) (eq_of_beq hi7) (by decide)) fun a Z => ?_
   refine sO Z _ rfl (oL tMs rfl rfl (H.bc 0 6 rfl rfl)) fun a Z => ?_
   refine s_runk tMs Z 2 rfl rfl fun a Z => ?_
   refine s_end Z [2, 3] rfl fun Z => ?_
   refine p_then (wp_ret ?_)
   obtain rfl := some_in hF
   exact f_ret Z (run_results2 rfl Z rfl rfl) ⟨rfl, I, (H.sub [] rfl).eq rfl⟩
  replace hF := ite_f hi7 hF
  refine bsplit (k == 7) (fun hi8 => ?_) (fun hi8 => ?_)
  ·replace hF := ite_t hi8 hF
   refine f_region Z fun Z => ?_
   refine s_runk tMs Z 1 rfl rfl fun a Z => ?_
   refine sO Z (pp b1 7) rfl (Ob_apix (m := 1) 7 rfl rfl rfl Try.underlying135 (by kernel_rfl) (eq_of_beq hi8) (by decide)) fun a Z => ?_
   refine sO Z _ rfl (oL tMs rfl rfl (H.bc 0 7 rfl rfl)) fun a Z => ?_
   refine s_runk tMs Z 2 rfl rfl fun a Z => ?_
   refine s_end Z [2, 3] rfl fun Z => ?_
   refine p_then (wp_ret ?_)
   obtain rfl := some_in hF
   exact f_ret Z (run_results2 rfl Z rfl rfl) ⟨rfl, I, (H.sub [] rfl).eq rfl⟩
  replace hF := ite_f hi8 hF
  refine bsplit (k == 8) (fun hi9 => ?_) (fun hi9 => ?_)
  ·replace hF := ite_t hi9 hF
   refine f_region Z fun Z => ?_
   refine s_runk tMs Z 1 rfl rfl fun a Z => ?_
   refine sO Z (pp b1 8) rfl (Ob_apix (m := 1) 8 rfl rfl rfl Try.underlying135 (by kernel_rfl) (eq_of_beq hi9) (by decide)) fun a Z => ?_
   refine sO Z _ rfl (oL tMs rfl rfl (H.bc 0 8 rfl rfl)) fun a Z => ?_
   refine s_runk tMs Z 2 rfl rfl fun a Z => ?_
   refine s_end Z [2, 3] rfl fun Z => ?_
   refine p_then (wp_ret ?_)
   obtain rfl := some_in hF
   exact f_ret Z (run_results2 rfl Z rfl rfl) ⟨rfl, I, (H.sub [] rfl).eq rfl⟩
  replace hF := ite_f hi9 hF
  refine bsplit (k == 9) (fun hi10 => ?_) (fun hi10 => ?_)
  ·replace hF := ite_t hi10 hF
   refine f_region Z fun Z => ?_
   refine s_runk tMs Z 1 rfl rfl fun a Z => ?_
   refine sO Z (pp b1 9) rfl (Ob_apix (m := 1) 9 rfl rfl rfl Try.underlying135 (by kernel_rfl) (eq_of_beq hi10) (by decide)) fun a Z => ?_
   refine sO Z _ rfl (oL tMs rfl rfl (H.bc 0 9 rfl rfl)) fun a Z => ?_
   refine s_runk tMs Z 2 rfl rfl fun a Z => ?_
   refine s_end Z [2, 3] rfl fun Z => ?_
   refine p_then (wp_ret ?_)
   obtain rfl := some_in hF
   exact f_ret Z (run_results2 rfl Z rfl rfl) ⟨rfl, I, (H.sub [] rfl).eq rfl⟩
  replace hF := ite_f hi10 hF
  refine bsplit (k == 10) (fun hi11 => ?_) (fun hi11 => ?_)
  ·replace hF := ite_t hi11 hF
   refine f_region Z fun Z => ?_
   refine s_runk tMs Z 1 rfl rfl fun a Z => ?_
   refine sO Z (pp b1 10) rfl (Ob_apix (m := 1) 10 rfl rfl rfl Try.underlying135 (by kernel_rfl) (eq_of_beq hi11) (by decide)) fun a Z => ?_
   refine sO Z _ rfl (oL tMs rfl rfl (H.bc 0 10 rfl rfl)) fun a Z => ?_
   refine s_runk tMs Z 2 rfl rfl fun a Z => ?_
   refine s_end Z [2, 3] rfl fun Z => ?_
   refine p_then (wp_ret ?_)
   obtain rfl := some_in hF
   exact f_ret Z (run_results2 rfl Z rfl rfl) ⟨rfl, I, (H.sub [] rfl).eq rfl⟩
  replace hF := ite_f hi11 hF
  refine bsplit (k == 11) (fun hi12 => ?_) (fun hi12 => ?_)
  ·replace hF := ite_t hi12 hF
   refine f_region Z fun Z => ?_
   refine s_runk tMs Z 1 rfl rfl fun a Z => ?_
   refine sO Z (pp b1 11) rfl (Ob_apix (m := 1) 11 rfl rfl rfl Try.underlying135 (by kernel_rfl) (eq_of_beq hi12) (by decide)) fun a Z => ?_
   refine sO Z _ rfl (oL tMs rfl rfl (H.bc 0 11 rfl rfl)) fun a Z => ?_
   refine s_runk tMs Z 2 rfl rfl fun a Z => ?_
   refine s_end Z [2, 3] rfl fun Z => ?_
   refine p_then (wp_ret ?_)
   obtain rfl := some_in hF
   exact f_ret Z (run_results2 rfl Z rfl rfl) ⟨rfl, I, (H.sub [] rfl).eq rfl⟩
  replace hF := ite_f hi12 hF
  refine bsplit (k == 12) (fun hi13 => ?_) (fun hi13 => ?_)
  ·replace hF := ite_t hi13 hF
   refine f_region Z fun Z => ?_
   refine s_runk tMs Z 1 rfl rfl fun a Z => ?_
   refine sO Z (pp b1 12) rfl (Ob_apix (m := 1) 12 rfl rfl rfl Try.underlying135 (by kernel_rfl) (eq_of_beq hi13) (by decide)) fun a Z => ?_
   refine sO Z _ rfl (oL tMs rfl rfl (H.bc 0 12 rfl rfl)) fun a Z => ?_
   refine s_runk tMs Z 2 rfl rfl fun a Z => ?_
   refine s_end Z [2, 3] rfl fun Z => ?_
   refine p_then (wp_ret ?_)
   obtain rfl := some_in hF
   exact f_ret Z (run_results2 rfl Z rfl rfl) ⟨rfl, I, (H.sub [] rfl).eq rfl⟩
  replace hF := ite_f hi13 hF
  refine bsplit (k == 13) (fun hi14 => ?_) (fun hi14 => ?_)
  ·replace hF := ite_t hi14 hF
   refine f_region Z fun Z => ?_
   refine s_runk tMs Z 1 rfl rfl fun a Z => ?_
   refine sO Z (pp b1 13) rfl (Ob_apix (m := 1) 13 rfl rfl rfl Try.underlying135 (by kernel_rfl) (eq_of_beq hi14) (by decide)) fun a Z => ?_
   refine sO Z _ rfl (oL tMs rfl rfl (H.bc 0 13 rfl rfl)) fun a Z => ?_
   refine s_runk tMs Z 2 rfl rfl fun a Z => ?_
   refine s_end Z [2, 3] rfl fun Z => ?_
   refine p_then (wp_ret ?_)
   obtain rfl := some_in hF
   exact f_ret Z (run_results2 rfl Z rfl rfl) ⟨rfl, I, (H.sub [] rfl).eq rfl⟩
  replace hF := ite_f hi14 hF
  refine bsplit (k == 14) (fun hi15 => ?_) (fun hi15 => ?_)
  ·replace hF := ite_t hi15 hF
   refine f_region Z fun Z => ?_
   refine s_runk tMs Z 1 rfl rfl fun a Z => ?_
   refine sO Z (pp b1 14) rfl (Ob_apix (m := 1) 14 rfl rfl rfl Try.underlying135 (by kernel_rfl) (eq_of_beq hi15) (by decide)) fun a Z => ?_
   refine sO Z _ rfl (oL tMs rfl rfl (H.bc 0 14 rfl rfl)) fun a Z => ?_
   refine s_runk tMs Z 2 rfl rfl fun a Z => ?_
   refine s_end Z [2, 3] rfl fun Z => ?_
   refine p_then (wp_ret ?_)
   obtain rfl := some_in hF
   exact f_ret Z (run_results2 rfl Z rfl rfl) ⟨rfl, I, (H.sub [] rfl).eq rfl⟩
  replace hF := ite_f hi15 hF
  refine bsplit (k == 15) (fun hi16 => ?_) (fun hi16 => ?_)
  ·replace hF := ite_t hi16 hF
   refine f_region Z fun Z => ?_
   refine s_runk tMs Z 1 rfl rfl fun a Z => ?_
   refine sO Z (pp b1 15) rfl (Ob_apix (m := 1) 15 rfl rfl rfl Try.underlying135 (by kernel_rfl) (eq_of_beq hi16) (by decide)) fun a Z => ?_
   refine sO Z _ rfl (oL tMs rfl rfl (H.bc 0 15 rfl rfl)) fun a Z => ?_
   refine s_runk tMs Z 2 rfl rfl fun a Z => ?_
   refine s_end Z [2, 3] rfl fun Z => ?_
   refine p_then (wp_ret ?_)
   obtain rfl := some_in hF
   exact f_ret Z (run_results2 rfl Z rfl rfl) ⟨rfl, I, (H.sub [] rfl).eq rfl⟩
  replace hF := ite_f hi16 hF
  cases hF

def F_mess_long (s0 : ByteArray) (most : Int) : Option Int := if (decide ((s0.size : Int) > most)) = true then (some 3) else (some 0)

set_option maxHeartbeats 1000000 in
theorem c_mess_long {I D : Dm} {s0 : ByteArray} {most : Int} {w : World} {rr : Int} (hF : F_mess_long s0 most = some rr) (H : St I D w []) :
  Calls Try.prog 69 #[vS s0, vI most] w (Ret fun vv w' => vv = vI rr ∧ ∃ I', Hf I D w I' w' []) := by
 replace H := H.hf
 unfold F_mess_long at hF
 refine f_enter 9 Try.func69 rfl rfl (Nat.le_of_ble_eq_true rfl) fun a Z => ?_
 replace Z := Z.sub (ts := [0, 1]) rfl
 refine wp_seq (f_region Z ?_); clear Z; intro Z
 refine s_runk tMs Z 1 rfl rfl fun a Z => ?_
 refine s_end Z [0, 1] rfl fun Z => ?_
 refine p_then (wp_seq ?_)
 refine wp_seq (f_region Z ?_); clear Z; intro Z
 refine s_runk tMs Z 4 rfl rfl fun a Z => ?_
 refine s_end Z [8] rfl fun Z => ?_
 refine p_then ?_
 refine f_cond Z rfl (fun hc1 => ?_) (fun hc1 => ?_)
 ·replace hF := ite_t hc1 hF
  refine wp_seq (f_region Z ?_); clear Z; intro Z
  refine s_runk tMs Z 1 rfl rfl fun a Z => ?_
  refine s_end Z [4] rfl fun Z => ?_
  refine p_then (wp_ret ?_)
  refine p_then_r ?_
  obtain rfl := some_in hF
  exact f_ret Z (run_results1 rfl Z rfl) ⟨rfl, I, (H.sub [] rfl).eq rfl⟩
 ·replace hF := ite_f hc1 hF
  refine wp_skip ?_
  refine p_then (wp_seq (f_region Z ?_)); clear Z; intro Z
  refine s_runk tMs Z 1 rfl rfl fun a Z => ?_
  refine s_end Z [4] rfl fun Z => ?_
  refine p_then (wp_ret ?_)
  obtain rfl := some_in hF
  exact f_ret Z (run_results1 rfl Z rfl) ⟨rfl, I, (H.sub [] rfl).eq rfl⟩

def F_mess_full (n0 : Int) (most : Int) : Option Int := if (decide (n0 > most)) = true then (some 6) else (some 0)

set_option maxHeartbeats 1000000 in
theorem c_mess_full {I D : Dm} {n0 : Int} {most : Int} {w : World} {rr : Int} (hF : F_mess_full n0 most = some rr) (H : St I D w []) :
  Calls Try.prog 72 #[vI n0, vI most] w (Ret fun vv w' => vv = vI rr ∧ ∃ I', Hf I D w I' w' []) := by
 replace H := H.hf
 unfold F_mess_full at hF
 refine f_enter 8 Try.func72 rfl rfl (Nat.le_of_ble_eq_true rfl) fun a Z => ?_
 replace Z := Z.sub (ts := [0, 1]) rfl
 refine wp_seq (f_region Z ?_); clear Z; intro Z
 refine s_runk tMs Z 1 rfl rfl fun a Z => ?_
 refine s_end Z [0, 1] rfl fun Z => ?_
 refine p_then (wp_seq ?_)
 refine wp_seq (f_region Z ?_); clear Z; intro Z
 refine s_runk tMs Z 3 rfl rfl fun a Z => ?_
 refine s_end Z [7] rfl fun Z => ?_
 refine p_then ?_
 refine f_cond Z rfl (fun hc1 => ?_) (fun hc1 => ?_)
 ·replace hF := ite_t hc1 hF
  refine wp_seq (f_region Z ?_); clear Z; intro Z
  refine s_runk tMs Z 1 rfl rfl fun a Z => ?_
  refine s_end Z [4] rfl fun Z => ?_
  refine p_then (wp_ret ?_)
  refine p_then_r ?_
  obtain rfl := some_in hF
  exact f_ret Z (run_results1 rfl Z rfl) ⟨rfl, I, (H.sub [] rfl).eq rfl⟩
 ·replace hF := ite_f hc1 hF
  refine wp_skip ?_
  refine p_then (wp_seq (f_region Z ?_)); clear Z; intro Z
  refine s_runk tMs Z 1 rfl rfl fun a Z => ?_
  refine s_end Z [4] rfl fun Z => ?_
  refine p_then (wp_ret ?_)
  obtain rfl := some_in hF
  exact f_ret Z (run_results1 rfl Z rfl) ⟨rfl, I, (H.sub [] rfl).eq rfl⟩

def F_mess_entries_l1 (l : List EEntry) (rc : Int → Option Int) (sg : Int) : Option Int := match sg with | x => if (decide (x < (l.length : Int))) = true then (chk ((0 : Int) ≤ x ∧ x < (l.length : Int)) ((F_item_Check ({ (l.getD (x).toNat default) with batch := ({ client := ((l.getD (x).toNat default).batch).client, req := ((l.getD (x).toNat default).batch).req, ops := ((l.getD (x).toNat default).batch).ops } : EBatch) } : EEntry)).bind fun c => (if (c != 0) = true then (some c) else (chk (inI (x + 1)) (rc (x + 1)))))) else (some 0)

def F_mess_entries (l : List EEntry) : Option Int := iter (F_mess_entries_l1 l) FU 0

set_option maxHeartbeats 1000000 in
theorem c_mess_entries {I D : Dm} {l : List EEntry} {v1_l : Value} {w : World} {rr : Int} (hF : F_mess_entries l = some rr) (H : St I D w [SlC NEEntry v1_l l]) :
  Calls Try.prog 74 #[v1_l] w (Ret fun vv w' => vv = vI rr ∧ ∃ I', Hf I D w I' w' []) := by
 replace H := H.hf
 unfold F_mess_entries at hF
 refine f_enter 18 Try.func74 rfl rfl (Nat.le_of_ble_eq_true rfl) fun a Z => ?_
 replace Z := Z.sub (ts := [0]) rfl
 refine wp_seq (f_region Z ?_); clear Z; intro Z
 refine s_runk tMs Z 1 rfl rfl fun a Z => ?_
 refine s_end Z [0] rfl fun Z => ?_
 refine p_then (wp_seq ?_)
 refine wp_seq (f_region Z ?_); clear Z; intro Z
 refine s_runk tMs Z 1 rfl rfl fun a Z => ?_
 refine sO Z (vI (ln l)) rfl (Ob_slen tMs rfl rfl rfl (H.slshape 0 rfl)) fun a Z => ?_
 refine s_runk tMs Z 1 rfl rfl fun a Z => ?_
 refine s_end Z [6, 7, 8] rfl fun Z => ?_
 refine p_then (wp_block ?_)
 refine f_iter hF (fun sg a' w' => match sg with | x => Sl 18 [(6, v1_l), (7, vI (ln l)), (8, vI x)] a' ∧ ∃ I2, Hf I D w I2 w' [SlC NEEntry v1_l l]) ⟨Z.sub (ts := [6, 7, 8]) rfl, ⟨I, (H.sub [(0, true)] rfl).eq rfl⟩⟩ ?_
 rintro rc x a w1 ⟨Z, I1, H⟩ hF
 unfold F_mess_entries_l1 at hF
 try dsimp only at hF
 refine wp_seq (f_region Z ?_); clear Z; intro Z
 refine s_runk tMs Z 1 rfl rfl fun a Z => ?_
 refine s_end Z [6, 7, 8, 9] rfl fun Z => ?_
 refine p_then (wp_seq ?_)
 refine f_cond Z rfl (fun hc1 => ?_) (fun hc1 => ?_)
 ·replace hF := ite_t hc1 hF
  refine wp_skip ?_
  refine p_then (wp_seq ?_)
  refine wp_block ?_
  refine wp_seq ?_
  obtain ⟨hg1, hF⟩ := chk_in hF
  refine f_region Z fun Z => ?_
  refine sO Z (.pointer (some ⟨blkOf v1_l, oofOf v1_l + (x).toNat * 4, none⟩)) rfl (Ob_sidx tMs rfl rfl rfl rfl (slPl (H.sl 0 rfl) hg1) hg1) fun a Z => ?_
  obtain ⟨_, ⟨u1, rfl, L1⟩, H⟩ := H.elG 0 rfl (x) (NEEntry.dft _ _)
  replace H := H.addsl L1
  replace H : Hf I D w I1 w1 [SlC NEOp u1 (((gi l x).batch).ops), AtG ((0 : Int) ≤ x ∧ x < (ln l)) (blkOf v1_l) (oofOf v1_l + (x).toNat * 4) (cEEntry (gi l x) u1), SlC NEEntry v1_l l] := H
  refine sO Z (.agg (cEEntry (gi l x) u1).toArray) rfl (oA tMs rfl rfl ((H.atg 1 rfl hg1).part 0 rfl)) fun a Z => ?_
  refine hA Z H [vI 0, vI 0, nS, vU 0] rfl rfl (by kernel_rfl) fun a w2 b1 H Z => ?_
  refine hT tMs Z H 0 rfl rfl rfl rfl rfl (onR 2 rfl (one_cons (slS.one (H.slshape 1 rfl)) (one_cons rfl one_nil))) (Nat.le_of_ble_eq_true rfl) rfl fun w3 H => ?_
  dsimp only [List.eraseIdx] at H
  refine s_end Z [6, 7, 8, 4] rfl fun Z => ?_
  refine p_then (wp_seq ?_)
  obtain ⟨c, hx1, hF⟩ := bnd_in hF
  refine f_region Z fun Z => ?_
  refine sO Z (.agg (cEEntry (gi l x) u1).toArray) rfl (oA tMs rfl rfl ((H.bx 0 rfl).part 0 rfl)) fun a Z => ?_
  refine hC Z H [(1, true)] rfl #[] fn_91_YMs rfl rfl (fun D h => have q := c_item_Check hx1 h; q) fun vv a w4 D2 hr hF2 Z => ?_
  obtain ⟨rfl, I2, K⟩ := hr
  have H := (hF2 K).nf rfl
  refine s_runk tMs Z 1 rfl rfl fun a Z => ?_
  refine s_end Z [6, 7, 8, 5] rfl fun Z => ?_
  refine p_then (wp_seq (f_region Z ?_)); clear Z; intro Z
  refine s_runk tMs Z 2 rfl rfl fun a Z => ?_
  refine s_end Z [6, 7, 8, 5, 15] rfl fun Z => ?_
  refine p_then ?_
  refine f_cond Z rfl (fun hc2 => ?_) (fun hc2 => ?_)
  ·replace hF := ite_t hc2 hF
   refine wp_seq (f_region Z ?_); clear Z; intro Z
   refine s_runk tMs Z 2 rfl rfl fun a Z => ?_
   refine s_end Z [2] rfl fun Z => ?_
   refine p_then (wp_ret ?_)
   refine p_blk_r ?_
   refine p_then_r ?_
   refine p_then_r ?_
   refine p_blk_r ?_
   refine p_then_r ?_
   obtain rfl := some_in hF
   exact f_ret Z (run_results1 rfl Z rfl) ⟨rfl, I2, (H.sub [] rfl).eq rfl⟩
  ·replace hF := ite_f hc2 hF
   refine wp_skip ?_
   refine p_blk ?_
   refine p_then ?_
   obtain ⟨hg2, hF⟩ := chk_in hF
   refine f_region Z fun Z => ?_
   refine sO Z (vI (x + 1)) rfl (Ob_add rfl rfl rfl (wrI hg2)) fun a Z => ?_
   refine s_runk tMs Z 1 rfl rfl fun a Z => ?_
   refine s_end Z [6, 7, 8] rfl fun Z => ?_
   refine p_then ?_
   exact ⟨(x + 1), ⟨Z.sub (ts := [6, 7, 8]) rfl, ⟨I2, (H.sub [(3, true)] rfl).eq rfl⟩⟩, hF⟩
 ·replace hF := ite_f hc1 hF
  refine wp_exit ?_
  refine p_then_x ?_
  refine p_then_x ?_
  refine f_exit_here ?_
  refine p_then (wp_seq (f_region Z ?_)); clear Z; intro Z
  refine s_runk tMs Z 1 rfl rfl fun a Z => ?_
  refine s_end Z [2] rfl fun Z => ?_
  refine p_then (wp_ret ?_)
  obtain rfl := some_in hF
  exact f_ret Z (run_results1 rfl Z rfl) ⟨rfl, I1, (H.sub [] rfl).eq rfl⟩

def F_mess_wrong_1 (p0 : EMsg) : Option Int := (F_mess_entries p0.entries).bind fun e => (some e)

set_option maxHeartbeats 1000000 in
theorem c_mess_wrong_1 {I D : Dm} {b_p0 : Nat} {p0 : EMsg} {v1_p0 : Value} {v2_p0 : Value} {v3_p0 : Value} {v4_p0 : Value} {v5_p0 : Value} {w : World} {rr : Int} (hF : F_mess_wrong_1 p0 = some rr) (H : St I D w [BxC b_p0 37 (cEMsg p0 v1_p0 v2_p0 v3_p0 v4_p0 v5_p0), SlC NEMember v1_p0 p0.conf.members, SlC NEOp v2_p0 p0.batch.ops, SlC NEEntry v3_p0 p0.entries, SlC Nu64 v4_p0 p0.stamps, SlC NEPair v5_p0 p0.pairs]) :
  Calls Try.prog 73 #[pp b_p0 0] w (Ret fun vv w' => vv = vI rr ∧ ∃ I', Hf I D w I' w' [BxC b_p0 37 (cEMsg p0 v1_p0 v2_p0 v3_p0 v4_p0 v5_p0)]) := by
 replace H := H.hf
 unfold F_mess_wrong_1 at hF
 refine f_enter 5 Try.func73 rfl rfl (Nat.le_of_ble_eq_true rfl) fun a Z => ?_
 replace Z := Z.sub (ts := [0]) rfl
 refine wp_seq (f_region Z ?_); clear Z; intro Z
 refine s_runk tMs Z 1 rfl rfl fun a Z => ?_
 refine s_end Z [0] rfl fun Z => ?_
 refine p_then (wp_seq ?_)
 obtain ⟨e, hx1, hF⟩ := bnd_in hF
 refine f_region Z fun Z => ?_
 refine s_runk tMs Z 1 rfl rfl fun a Z => ?_
 refine sO Z _ rfl (oL tMs rfl rfl (H.bc 0 19 rfl rfl)) fun a Z => ?_
 refine hC Z H [(3, true)] rfl #[] fn_74_YMs rfl rfl (fun D h => have q := c_mess_entries hx1 h; q) fun vv a w1 D2 hr hF2 Z => ?_
 obtain ⟨rfl, I1, K⟩ := hr
 have H := (hF2 K).nf rfl
 refine s_runk tMs Z 1 rfl rfl fun a Z => ?_
 refine s_end Z [1] rfl fun Z => ?_
 refine p_then (wp_ret ?_)
 obtain rfl := some_in hF
 exact f_ret Z (run_results1 rfl Z rfl) ⟨rfl, I1, (H.sub [(0, false)] rfl).eq rfl⟩

def F_mess_or__mess_wrong_1 (e : Int) (p0 : EMsg) : Option Int := if (e != 0) = true then (some e) else ((F_mess_wrong_1 p0).bind fun x0 => (some x0))

set_option maxHeartbeats 1000000 in
theorem c_mess_or__mess_wrong_1 {I D : Dm} {e : Int} {b_p0 : Nat} {p0 : EMsg} {v1_p0 : Value} {v2_p0 : Value} {v3_p0 : Value} {v4_p0 : Value} {v5_p0 : Value} {w : World} {rr : Int} (hF : F_mess_or__mess_wrong_1 e p0 = some rr) (H : St I D w [BxC b_p0 37 (cEMsg p0 v1_p0 v2_p0 v3_p0 v4_p0 v5_p0), SlC NEMember v1_p0 p0.conf.members, SlC NEOp v2_p0 p0.batch.ops, SlC NEEntry v3_p0 p0.entries, SlC Nu64 v4_p0 p0.stamps, SlC NEPair v5_p0 p0.pairs]) :
  Calls Try.prog 71 #[vI e, .func (.func 73) #[] #[pp b_p0 0]] w (Ret fun vv w' => vv = vI rr ∧ ∃ I', Hf I D w I' w' [BxC b_p0 37 (cEMsg p0 v1_p0 v2_p0 v3_p0 v4_p0 v5_p0)]) := by
 replace H := H.hf
 unfold F_mess_or__mess_wrong_1 at hF
 refine f_enter 10 Try.func71 rfl rfl (Nat.le_of_ble_eq_true rfl) fun a Z => ?_
 replace Z := Z.sub (ts := [0, 1]) rfl
 refine wp_seq (f_region Z ?_); clear Z; intro Z
 refine s_runk tMs Z 1 rfl rfl fun a Z => ?_
 refine s_end Z [0, 1] rfl fun Z => ?_
 refine p_then (wp_seq ?_)
 refine wp_seq (f_region Z ?_); clear Z; intro Z
 refine s_runk tMs Z 2 rfl rfl fun a Z => ?_
 refine s_end Z [0, 1, 6] rfl fun Z => ?_
 refine p_then ?_
 refine f_cond Z rfl (fun hc1 => ?_) (fun hc1 => ?_)
 ·replace hF := ite_t hc1 hF
  refine wp_seq (f_region Z ?_); clear Z; intro Z
  refine s_runk tMs Z 2 rfl rfl fun a Z => ?_
  refine s_end Z [4] rfl fun Z => ?_
  refine p_then (wp_ret ?_)
  refine p_then_r ?_
  obtain rfl := some_in hF
  exact f_ret Z (run_results1 rfl Z rfl) ⟨rfl, I, (H.sub [(0, false)] rfl).eq rfl⟩
 ·replace hF := ite_f hc1 hF
  refine wp_skip ?_
  refine p_then (wp_seq ?_)
  obtain ⟨x0, hx1, hF⟩ := bnd_in hF
  refine f_region Z fun Z => ?_
  refine s_runk tMs Z 1 rfl rfl fun a Z => ?_
  refine hC Z H [(0, false), (0, true), (1, true), (2, true), (3, true), (4, true)] rfl #[pp b_p0 0] fn_73_YMs rfl rfl (fun D h => have q := c_mess_wrong_1 hx1 h; q) fun vv a w1 D2 hr hF2 Z => ?_
  obtain ⟨rfl, I1, K⟩ := hr
  have H := (hF2 K).nf rfl
  refine s_runk tMs Z 1 rfl rfl fun a Z => ?_
  refine s_end Z [4] rfl fun Z => ?_
  refine p_then (wp_ret ?_)
  obtain rfl := some_in hF
  exact f_ret Z (run_results1 rfl Z rfl) ⟨rfl, I1, (H.sub [(0, false)] rfl).eq rfl⟩

def F_mess_pairs_l1 (l : List EPair) (rc : Int → Option Int) (sg : Int) : Option Int := match sg with | x => if (decide (x < (l.length : Int))) = true then (chk ((0 : Int) ≤ x ∧ x < (l.length : Int)) ((F_keys_Check ((l.getD (x).toNat default).key)).bind fun c => (if (c != 0) = true then (some c) else ((F_mess_long ((l.getD (x).toNat default).val) 8).bind fun l_2 => (if (l_2 != 0) = true then (some l_2) else (chk (inI (x + 1)) (rc (x + 1)))))))) else (some 0)

def F_mess_pairs (l : List EPair) : Option Int := iter (F_mess_pairs_l1 l) FU 0

set_option maxHeartbeats 1000000 in
theorem c_mess_pairs {I D : Dm} {l : List EPair} {v1_l : Value} {w : World} {rr : Int} (hF : F_mess_pairs l = some rr) (H : St I D w [SlC NEPair v1_l l]) :
  Calls Try.prog 76 #[v1_l] w (Ret fun vv w' => vv = vI rr ∧ ∃ I', Hf I D w I' w' []) := by
 replace H := H.hf
 unfold F_mess_pairs at hF
 refine f_enter 26 Try.func76 rfl rfl (Nat.le_of_ble_eq_true rfl) fun a Z => ?_
 replace Z := Z.sub (ts := [0]) rfl
 refine wp_seq (f_region Z ?_); clear Z; intro Z
 refine s_runk tMs Z 1 rfl rfl fun a Z => ?_
 refine s_end Z [0] rfl fun Z => ?_
 refine p_then (wp_seq ?_)
 refine wp_seq (f_region Z ?_); clear Z; intro Z
 refine s_runk tMs Z 1 rfl rfl fun a Z => ?_
 refine sO Z (vI (ln l)) rfl (Ob_slen tMs rfl rfl rfl (H.slshape 0 rfl)) fun a Z => ?_
 refine s_runk tMs Z 1 rfl rfl fun a Z => ?_
 refine s_end Z [7, 8, 9] rfl fun Z => ?_
 refine p_then (wp_block ?_)
 refine f_iter hF (fun sg a' w' => match sg with | x => Sl 26 [(7, v1_l), (8, vI (ln l)), (9, vI x)] a' ∧ ∃ I2, Hf I D w I2 w' [SlC NEPair v1_l l]) ⟨Z.sub (ts := [7, 8, 9]) rfl, ⟨I, (H.sub [(0, true)] rfl).eq rfl⟩⟩ ?_
 rintro rc x a w1 ⟨Z, I1, H⟩ hF
 unfold F_mess_pairs_l1 at hF
 try dsimp only at hF
 refine wp_seq (f_region Z ?_); clear Z; intro Z
 refine s_runk tMs Z 1 rfl rfl fun a Z => ?_
 refine s_end Z [7, 8, 9, 10] rfl fun Z => ?_
 refine p_then (wp_seq ?_)
 refine f_cond Z rfl (fun hc1 => ?_) (fun hc1 => ?_)
 ·replace hF := ite_t hc1 hF
  refine wp_skip ?_
  refine p_then (wp_seq ?_)
  refine wp_block ?_
  refine wp_seq ?_
  obtain ⟨hg1, hF⟩ := chk_in hF
  refine f_region Z fun Z => ?_
  refine sO Z (.pointer (some ⟨blkOf v1_l, oofOf v1_l + (x).toNat * 2, none⟩)) rfl (Ob_sidx tMs rfl rfl rfl rfl (slPl (H.sl 0 rfl) hg1) hg1) fun a Z => ?_
  refine sO Z (.agg #[vS ((gi l x).key), vS ((gi l x).val)]) rfl (oA tMs rfl rfl ((slFl (H.sl 0 rfl) hg1).part 0 rfl)) fun a Z => ?_
  refine hA Z H [vS ByteArray.empty, vS ByteArray.empty] rfl rfl (by kernel_rfl) fun a w2 b1 H Z => ?_
  refine hT tMs Z H 0 rfl rfl rfl rfl rfl (onR 2 rfl one_nil) (Nat.le_of_ble_eq_true rfl) rfl fun w3 H => ?_
  dsimp only [List.eraseIdx] at H
  refine s_end Z [7, 8, 9, 4] rfl fun Z => ?_
  refine p_then (wp_seq ?_)
  refine wp_seq ?_
  obtain ⟨c, hx1, hF⟩ := bnd_in hF
  refine f_region Z fun Z => ?_
  refine s_runk tMs Z 1 rfl rfl fun a Z => ?_
  refine sO Z _ rfl (oL tMs rfl rfl (H.bc 0 0 rfl rfl)) fun a Z => ?_
  refine hC Z H [] rfl #[] fn_83_YMs rfl rfl (fun D h => have q := c_keys_Check hx1 h; q) fun vv a w4 D2 hr hF2 Z => ?_
  obtain ⟨rfl, I2, K⟩ := hr
  have H := (hF2 K).nf rfl
  refine s_runk tMs Z 1 rfl rfl fun a Z => ?_
  refine s_end Z [7, 8, 9, 4, 5] rfl fun Z => ?_
  refine p_then (wp_seq (f_region Z ?_)); clear Z; intro Z
  refine s_runk tMs Z 2 rfl rfl fun a Z => ?_
  refine s_end Z [7, 8, 9, 4, 5, 17] rfl fun Z => ?_
  refine p_then ?_
  refine f_cond Z rfl (fun hc2 => ?_) (fun hc2 => ?_)
  ·replace hF := ite_t hc2 hF
   refine wp_seq (f_region Z ?_); clear Z; intro Z
   refine s_runk tMs Z 2 rfl rfl fun a Z => ?_
   refine s_end Z [2] rfl fun Z => ?_
   refine p_then (wp_ret ?_)
   refine p_then_r ?_
   refine p_blk_r ?_
   refine p_then_r ?_
   refine p_then_r ?_
   refine p_blk_r ?_
   refine p_then_r ?_
   obtain rfl := some_in hF
   exact f_ret Z (run_results1 rfl Z rfl) ⟨rfl, I2, (H.sub [] rfl).eq rfl⟩
  ·replace hF := ite_f hc2 hF
   refine wp_skip ?_
   refine p_then (wp_seq ?_)
   obtain ⟨l_2, hx2, hF⟩ := bnd_in hF
   refine f_region Z fun Z => ?_
   refine s_runk tMs Z 1 rfl rfl fun a Z => ?_
   refine sO Z _ rfl (oL tMs rfl rfl (H.bc 0 1 rfl rfl)) fun a Z => ?_
   refine hC Z H [] rfl #[] fn_69_YMs rfl rfl (fun D h => have q := c_mess_long hx2 h; q) fun vv a w5 D2 hr hF2 Z => ?_
   obtain ⟨rfl, I3, K⟩ := hr
   have H := (hF2 K).nf rfl
   refine s_runk tMs Z 1 rfl rfl fun a Z => ?_
   refine s_end Z [7, 8, 9, 6] rfl fun Z => ?_
   refine p_then (wp_seq (f_region Z ?_)); clear Z; intro Z
   refine s_runk tMs Z 2 rfl rfl fun a Z => ?_
   refine s_end Z [7, 8, 9, 6, 23] rfl fun Z => ?_
   refine p_then ?_
   refine f_cond Z rfl (fun hc3 => ?_) (fun hc3 => ?_)
   ·replace hF := ite_t hc3 hF
    refine wp_seq (f_region Z ?_); clear Z; intro Z
    refine s_runk tMs Z 2 rfl rfl fun a Z => ?_
    refine s_end Z [2] rfl fun Z => ?_
    refine p_then (wp_ret ?_)
    refine p_blk_r ?_
    refine p_then_r ?_
    refine p_then_r ?_
    refine p_blk_r ?_
    refine p_then_r ?_
    obtain rfl := some_in hF
    exact f_ret Z (run_results1 rfl Z rfl) ⟨rfl, I3, (H.sub [] rfl).eq rfl⟩
   ·replace hF := ite_f hc3 hF
    refine wp_skip ?_
    refine p_blk ?_
    refine p_then ?_
    obtain ⟨hg2, hF⟩ := chk_in hF
    refine f_region Z fun Z => ?_
    refine sO Z (vI (x + 1)) rfl (Ob_add rfl rfl rfl (wrI hg2)) fun a Z => ?_
    refine s_runk tMs Z 1 rfl rfl fun a Z => ?_
    refine s_end Z [7, 8, 9] rfl fun Z => ?_
    refine p_then ?_
    exact ⟨(x + 1), ⟨Z.sub (ts := [7, 8, 9]) rfl, ⟨I3, (H.sub [(1, true)] rfl).eq rfl⟩⟩, hF⟩
 ·replace hF := ite_f hc1 hF
  refine wp_exit ?_
  refine p_then_x ?_
  refine p_then_x ?_
  refine f_exit_here ?_
  refine p_then (wp_seq (f_region Z ?_)); clear Z; intro Z
  refine s_runk tMs Z 1 rfl rfl fun a Z => ?_
  refine s_end Z [2] rfl fun Z => ?_
  refine p_then (wp_ret ?_)
  obtain rfl := some_in hF
  exact f_ret Z (run_results1 rfl Z rfl) ⟨rfl, I1, (H.sub [] rfl).eq rfl⟩

def F_mess_wrong_2 (p0 : EMsg) : Option Int := (F_mess_pairs p0.pairs).bind fun p => (some p)

set_option maxHeartbeats 1000000 in
theorem c_mess_wrong_2 {I D : Dm} {b_p0 : Nat} {p0 : EMsg} {v1_p0 : Value} {v2_p0 : Value} {v3_p0 : Value} {v4_p0 : Value} {v5_p0 : Value} {w : World} {rr : Int} (hF : F_mess_wrong_2 p0 = some rr) (H : St I D w [BxC b_p0 37 (cEMsg p0 v1_p0 v2_p0 v3_p0 v4_p0 v5_p0), SlC NEMember v1_p0 p0.conf.members, SlC NEOp v2_p0 p0.batch.ops, SlC NEEntry v3_p0 p0.entries, SlC Nu64 v4_p0 p0.stamps, SlC NEPair v5_p0 p0.pairs]) :
  Calls Try.prog 75 #[pp b_p0 0] w (Ret fun vv w' => vv = vI rr ∧ ∃ I', Hf I D w I' w' [BxC b_p0 37 (cEMsg p0 v1_p0 v2_p0 v3_p0 v4_p0 v5_p0)]) := by
 replace H := H.hf
 unfold F_mess_wrong_2 at hF
 refine f_enter 5 Try.func75 rfl rfl (Nat.le_of_ble_eq_true rfl) fun a Z => ?_
 replace Z := Z.sub (ts := [0]) rfl
 refine wp_seq (f_region Z ?_); clear Z; intro Z
 refine s_runk tMs Z 1 rfl rfl fun a Z => ?_
 refine s_end Z [0] rfl fun Z => ?_
 refine p_then (wp_seq ?_)
 obtain ⟨p, hx1, hF⟩ := bnd_in hF
 refine f_region Z fun Z => ?_
 refine s_runk tMs Z 1 rfl rfl fun a Z => ?_
 refine sO Z _ rfl (oL tMs rfl rfl (H.bc 0 21 rfl rfl)) fun a Z => ?_
 refine hC Z H [(5, true)] rfl #[] fn_76_YMs rfl rfl (fun D h => have q := c_mess_pairs hx1 h; q) fun vv a w1 D2 hr hF2 Z => ?_
 obtain ⟨rfl, I1, K⟩ := hr
 have H := (hF2 K).nf rfl
 refine s_runk tMs Z 1 rfl rfl fun a Z => ?_
 refine s_end Z [1] rfl fun Z => ?_
 refine p_then (wp_ret ?_)
 obtain rfl := some_in hF
 exact f_ret Z (run_results1 rfl Z rfl) ⟨rfl, I1, (H.sub [(0, false)] rfl).eq rfl⟩

def F_mess_or__mess_wrong_2 (e : Int) (p0 : EMsg) : Option Int := if (e != 0) = true then (some e) else ((F_mess_wrong_2 p0).bind fun x0 => (some x0))

set_option maxHeartbeats 1000000 in
theorem c_mess_or__mess_wrong_2 {I D : Dm} {e : Int} {b_p0 : Nat} {p0 : EMsg} {v1_p0 : Value} {v2_p0 : Value} {v3_p0 : Value} {v4_p0 : Value} {v5_p0 : Value} {w : World} {rr : Int} (hF : F_mess_or__mess_wrong_2 e p0 = some rr) (H : St I D w [BxC b_p0 37 (cEMsg p0 v1_p0 v2_p0 v3_p0 v4_p0 v5_p0), SlC NEMember v1_p0 p0.conf.members, SlC NEOp v2_p0 p0.batch.ops, SlC NEEntry v3_p0 p0.entries, SlC Nu64 v4_p0 p0.stamps, SlC NEPair v5_p0 p0.pairs]) :
  Calls Try.prog 71 #[vI e, .func (.func 75) #[] #[pp b_p0 0]] w (Ret fun vv w' => vv = vI rr ∧ ∃ I', Hf I D w I' w' [BxC b_p0 37 (cEMsg p0 v1_p0 v2_p0 v3_p0 v4_p0 v5_p0)]) := by
 replace H := H.hf
 unfold F_mess_or__mess_wrong_2 at hF
 refine f_enter 10 Try.func71 rfl rfl (Nat.le_of_ble_eq_true rfl) fun a Z => ?_
 replace Z := Z.sub (ts := [0, 1]) rfl
 refine wp_seq (f_region Z ?_); clear Z; intro Z
 refine s_runk tMs Z 1 rfl rfl fun a Z => ?_
 refine s_end Z [0, 1] rfl fun Z => ?_
 refine p_then (wp_seq ?_)
 refine wp_seq (f_region Z ?_); clear Z; intro Z
 refine s_runk tMs Z 2 rfl rfl fun a Z => ?_
 refine s_end Z [0, 1, 6] rfl fun Z => ?_
 refine p_then ?_
 refine f_cond Z rfl (fun hc1 => ?_) (fun hc1 => ?_)
 ·replace hF := ite_t hc1 hF
  refine wp_seq (f_region Z ?_); clear Z; intro Z
  refine s_runk tMs Z 2 rfl rfl fun a Z => ?_
  refine s_end Z [4] rfl fun Z => ?_
  refine p_then (wp_ret ?_)
  refine p_then_r ?_
  obtain rfl := some_in hF
  exact f_ret Z (run_results1 rfl Z rfl) ⟨rfl, I, (H.sub [(0, false)] rfl).eq rfl⟩
 ·replace hF := ite_f hc1 hF
  refine wp_skip ?_
  refine p_then (wp_seq ?_)
  obtain ⟨x0, hx1, hF⟩ := bnd_in hF
  refine f_region Z fun Z => ?_
  refine s_runk tMs Z 1 rfl rfl fun a Z => ?_
  refine hC Z H [(0, false), (0, true), (1, true), (2, true), (3, true), (4, true)] rfl #[pp b_p0 0] fn_75_YMs rfl rfl (fun D h => have q := c_mess_wrong_2 hx1 h; q) fun vv a w1 D2 hr hF2 Z => ?_
  obtain ⟨rfl, I1, K⟩ := hr
  have H := (hF2 K).nf rfl
  refine s_runk tMs Z 1 rfl rfl fun a Z => ?_
  refine s_end Z [4] rfl fun Z => ?_
  refine p_then (wp_ret ?_)
  obtain rfl := some_in hF
  exact f_ret Z (run_results1 rfl Z rfl) ⟨rfl, I1, (H.sub [(0, false)] rfl).eq rfl⟩

def F_mess_wrong_k1 : Option Int := some 0

def F_mess_wrong (m : EMsg) (c : Int) : Option Int := (F_mess_number c).bind fun n0 => (if (!n0.isNone) = true then (chk (n0.isSome = true) ((selI [(1, m.epoch), (2, m.req), (3, m.serial), (7, m.n), (8, m.m), (9, m.p)] n0).bind fun k => (chk ((!(decide (k < 0))) = true → n0.isSome = true) ((gif (!(decide (k < 0))) (selI [(1, m.epoch), (2, m.req), (3, m.serial), (7, m.n), (8, m.m), (9, m.p)] n0) default).bind fun k_2 => (if ((decide (k < 0)) || (decide (k_2 > 1073741824))) = true then (some 5) else (some 0)))))) else (if (c == 120) = true then (if ((decide (m.e < 0)) || (decide (m.e > 21))) = true then (some 1) else (F_mess_wrong_k1)) else (if (c == 107) = true then ((F_mess_long m.key 8).bind fun l => (some l)) else (if (c == 116) = true then ((F_mess_long m.to_ 8).bind fun l_2 => (some l_2)) else (if (c == 67) = true then ((F_conf_Check m.conf).bind fun c_2 => (some c_2)) else (if (c == 66) = true then ((F_ops_Check m.batch).bind fun c_3 => (some c_3)) else (if (c == 69) = true then ((F_mess_full (m.entries.length : Int) 4).bind fun f => ((F_mess_or__mess_wrong_1 f m).bind fun x0 => (some x0))) else (if (c == 83) = true then ((F_mess_full (m.stamps.length : Int) 8).bind fun f_2 => (some f_2)) else (if (c == 82) = true then ((F_mess_full (m.pairs.length : Int) 32).bind fun f_3 => ((F_mess_or__mess_wrong_2 f_3 m).bind fun x0_2 => (some x0_2))) else (F_mess_wrong_k1))))))))))

set_option maxHeartbeats 1000000 in
theorem c_mess_wrong {I D : Dm} {m : EMsg} {v1_m : Value} {v2_m : Value} {v3_m : Value} {v4_m : Value} {v5_m : Value} {c : Int} {w : World} {rr : Int} (hF : F_mess_wrong m c = some rr) (H : St I D w [SlC NEMember v1_m m.conf.members, SlC NEOp v2_m m.batch.ops, SlC NEEntry v3_m m.entries, SlC Nu64 v4_m m.stamps, SlC NEPair v5_m m.pairs]) :
  Calls Try.prog 50 #[.agg (cEMsg m v1_m v2_m v3_m v4_m v5_m).toArray, .int .i32 c] w (Ret fun vv w' => vv = vI rr ∧ ∃ I', Hf I D w I' w' []) := by
 replace H := H.hf
 unfold F_mess_wrong at hF
 refine f_enter 73 Try.func50 rfl rfl (Nat.le_of_ble_eq_true rfl) fun a Z => ?_
 replace Z := Z.sub (ts := [0, 1]) rfl
 refine wp_seq (f_region Z ?_); clear Z; intro Z
 refine h_boxv Z H (cl := (cEMsg m v1_m v2_m v3_m v4_m v5_m)) rfl rfl rfl (by decide) rfl rfl rfl fun a w1 b1 H Z => ?_
 refine s_runk tMs Z 1 rfl rfl fun a Z => ?_
 refine s_end Z [1, 2] rfl fun Z => ?_
 refine p_then (wp_seq ?_)
 refine wp_seq ?_
 obtain ⟨n0, hx1, hF⟩ := bnd_in hF
 refine f_region Z fun Z => ?_
 refine s_runk tMs Z 1 rfl rfl fun a Z => ?_
 refine hC Z H [] rfl #[] fn_68_YMs rfl rfl (fun D h => have q := c_mess_number hx1 h; q) fun vv a w2 D2 hr hF2 Z => ?_
 obtain ⟨rfl, I1, K⟩ := hr
 have H := (hF2 K).nf rfl
 refine s_runk tMs Z 1 rfl rfl fun a Z => ?_
 refine s_end Z [1, 2, 5] rfl fun Z => ?_
 refine p_then (wp_seq (f_region Z ?_)); clear Z; intro Z
 refine s_runk tMs Z 1 rfl rfl fun a Z => ?_
 refine sO Z (vT (!n0.isNone)) rfl (Ob_ieq rfl rfl rfl (.inr ⟨rfl, rfl⟩) Try.underlying136) fun a Z => ?_
 refine s_end Z [1, 2, 5, 9] rfl fun Z => ?_
 refine p_then ?_
 refine f_cond Z rfl (fun hc1 => ?_) (fun hc1 => ?_)
 ·replace hF := ite_t hc1 hF
  refine wp_seq ?_
  refine wp_seq ?_
  obtain ⟨hg1, hF⟩ := chk_in hF
  obtain ⟨k, hx2, hF⟩ := bnd_in hF
  obtain ⟨hg2, hF⟩ := chk_in hF
  obtain ⟨k_2, hx3, hF⟩ := bnd_in hF
  refine f_region Z fun Z => ?_
  refine s_runk tMs Z 1 rfl rfl fun a Z => ?_
  refine sO Z (iptV b1 n0) rfl (Ob_inil rfl rfl hg1) fun a Z => ?_
  refine sO Z (vI k) rfl (Ob_iload tMs rfl rfl rfl hx2 (H.bx 0 rfl) ⟨rfl, rfl, rfl, rfl, rfl, rfl, trivial⟩) fun a Z => ?_
  refine s_runk tMs Z 2 rfl rfl fun a Z => ?_
  refine gO Z (iptV b1 n0) rfl (wantB_f _) (.n 5 rfl .z) (fun hp => Ob_c tMs rfl) fun a Z => ?_
  refine gO Z (iptV b1 n0) rfl (wantB_f _) (.c 15 rfl id .z) (fun hp => Ob_inil rfl rfl (hg2 hp)) fun a Z => ?_
  refine gO Z (vI k_2) rfl (wantB_f _) (.c 16 rfl id .z) (fun hp => Ob_iload tMs rfl rfl rfl (gif_in hx3 hp) (H.bx 0 rfl) ⟨rfl, rfl, rfl, rfl, rfl, rfl, trivial⟩) fun a Z => ?_
  refine gO Z (vT (decide (k_2 > 1073741824))) rfl (wantB_f _) (.c 17 rfl id .z) (fun hp => Ob_c tMs rfl) fun a Z => ?_
  refine sO Z (vT ((decide (k < 0)) || (decide (k_2 > 1073741824)))) rfl (Ob_pick rfl rfl rfl rfl (pick_or _ _)) fun a Z => ?_
  refine s_end Z [19] rfl fun Z => ?_
  refine p_then ?_
  refine f_cond Z rfl (fun hc2 => ?_) (fun hc2 => ?_)
  ·replace hF := ite_t hc2 hF
   refine wp_seq (f_region Z ?_); clear Z; intro Z
   refine s_runk tMs Z 1 rfl rfl fun a Z => ?_
   refine s_end Z [4] rfl fun Z => ?_
   refine p_then (wp_ret ?_)
   refine p_then_r ?_
   refine p_then_r ?_
   obtain rfl := some_in hF
   exact f_ret Z (run_results1 rfl Z rfl) ⟨rfl, I1, (H.sub [] rfl).eq rfl⟩
  ·replace hF := ite_f hc2 hF
   refine wp_skip ?_
   refine p_then (wp_seq (f_region Z ?_)); clear Z; intro Z
   refine s_runk tMs Z 1 rfl rfl fun a Z => ?_
   refine s_end Z [4] rfl fun Z => ?_
   refine p_then (wp_ret ?_)
   refine p_then_r ?_
   obtain rfl := some_in hF
   exact f_ret Z (run_results1 rfl Z rfl) ⟨rfl, I1, (H.sub [] rfl).eq rfl⟩
 ·replace hF := ite_f hc1 hF
  refine wp_skip ?_
  refine p_then ?_
  refine f_cut (fun a' w' => Sl 73 [] a' ∧ (∃ I2, Hf I D w I2 w' []) ∧ F_mess_wrong_k1 = some rr) ?_ ?_
  ·rintro a w3 ⟨Z, ⟨I2, H⟩, hF⟩
   unfold F_mess_wrong_k1 at hF
   try dsimp only at hF
   refine wp_seq (f_region Z ?_); clear Z; intro Z
   refine s_runk tMs Z 1 rfl rfl fun a Z => ?_
   refine s_end Z [4] rfl fun Z => ?_
   refine p_then (wp_ret ?_)
   obtain rfl := some_in hF
   exact f_ret Z (run_results1 rfl Z rfl) ⟨rfl, I2, (H.sub [] rfl).eq rfl⟩
  ·skip
   refine wp_seq (f_region Z ?_); clear Z; intro Z
   refine s_runk tMs Z 1 rfl rfl fun a Z => ?_
   refine s_end Z [2, 20] rfl fun Z => ?_
   refine p_then (wp_block ?_)
   refine wp_seq (f_region Z ?_); clear Z; intro Z
   refine s_runk tMs Z 2 rfl rfl fun a Z => ?_
   refine s_end Z [2, 20, 21] rfl fun Z => ?_
   refine p_then ?_
   refine f_cond Z rfl (fun hc3 => ?_) (fun hc3 => ?_)
   ·replace hF := ite_t hc3 hF
    refine wp_seq (f_region Z ?_); clear Z; intro Z
    refine s_runk tMs Z 1 rfl rfl fun a Z => ?_
    refine sO Z _ rfl (oL tMs rfl rfl (H.bc 0 10 rfl rfl)) fun a Z => ?_
    refine s_runk tMs Z 2 rfl rfl fun a Z => ?_
    refine gO Z (pp b1 10) rfl (wantB_f _) (.n 2 rfl .z) (fun hp => Ob_c tMs rfl) fun a Z => ?_
    refine gO Z _ rfl (wantB_f _) (.c 27 rfl id .z) (fun hp => oL tMs rfl rfl (H.bc 0 10 rfl rfl)) fun a Z => ?_
    refine gO Z (vT (decide (m.e > 21))) rfl (wantB_f _) (.c 28 rfl id .z) (fun hp => Ob_c tMs rfl) fun a Z => ?_
    refine sO Z (vT ((decide (m.e < 0)) || (decide (m.e > 21)))) rfl (Ob_pick rfl rfl rfl rfl (pick_or _ _)) fun a Z => ?_
    refine s_end Z [30] rfl fun Z => ?_
    refine p_then ?_
    refine f_cond Z rfl (fun hc4 => ?_) (fun hc4 => ?_)
    ·replace hF := ite_t hc4 hF
     refine wp_seq (f_region Z ?_); clear Z; intro Z
     refine s_runk tMs Z 1 rfl rfl fun a Z => ?_
     refine s_end Z [4] rfl fun Z => ?_
     refine p_then (wp_ret ?_)
     refine p_blk_r ?_
     refine p_then_r ?_
     obtain rfl := some_in hF
     exact f_ret Z (run_results1 rfl Z rfl) ⟨rfl, I1, (H.sub [] rfl).eq rfl⟩
    ·replace hF := ite_f hc4 hF
     refine wp_skip ?_
     refine p_blk ?_
     refine p_then ?_
     exact ⟨Z.sub (ts := []) rfl, ⟨I1, (H.sub [] rfl).eq rfl⟩, hF⟩
   ·replace hF := ite_f hc3 hF
    refine wp_seq (f_region Z ?_); clear Z; intro Z
    refine s_runk tMs Z 2 rfl rfl fun a Z => ?_
    refine s_end Z [2, 20, 31] rfl fun Z => ?_
    refine p_then ?_
    refine f_cond Z rfl (fun hc5 => ?_) (fun hc5 => ?_)
    ·replace hF := ite_t hc5 hF
     refine wp_seq ?_
     obtain ⟨l, hx4, hF⟩ := bnd_in hF
     refine f_region Z fun Z => ?_
     refine s_runk tMs Z 1 rfl rfl fun a Z => ?_
     refine sO Z _ rfl (oL tMs rfl rfl (H.bc 0 11 rfl rfl)) fun a Z => ?_
     refine hC Z H [] rfl #[] fn_69_YMs rfl rfl (fun D h => have q := c_mess_long hx4 h; q) fun vv a w4 D2 hr hF2 Z => ?_
     obtain ⟨rfl, I3, K⟩ := hr
     have H := (hF2 K).nf rfl
     refine s_runk tMs Z 1 rfl rfl fun a Z => ?_
     refine s_end Z [4] rfl fun Z => ?_
     refine p_then (wp_ret ?_)
     refine p_blk_r ?_
     refine p_then_r ?_
     obtain rfl := some_in hF
     exact f_ret Z (run_results1 rfl Z rfl) ⟨rfl, I3, (H.sub [] rfl).eq rfl⟩
    ·replace hF := ite_f hc5 hF
     refine wp_seq (f_region Z ?_); clear Z; intro Z
     refine s_runk tMs Z 2 rfl rfl fun a Z => ?_
     refine s_end Z [2, 20, 36] rfl fun Z => ?_
     refine p_then ?_
     refine f_cond Z rfl (fun hc6 => ?_) (fun hc6 => ?_)
     ·replace hF := ite_t hc6 hF
      refine wp_seq ?_
      obtain ⟨l_2, hx5, hF⟩ := bnd_in hF
      refine f_region Z fun Z => ?_
      refine s_runk tMs Z 1 rfl rfl fun a Z => ?_
      refine sO Z _ rfl (oL tMs rfl rfl (H.bc 0 12 rfl rfl)) fun a Z => ?_
      refine hC Z H [] rfl #[] fn_69_YMs rfl rfl (fun D h => have q := c_mess_long hx5 h; q) fun vv a w5 D2 hr hF2 Z => ?_
      obtain ⟨rfl, I4, K⟩ := hr
      have H := (hF2 K).nf rfl
      refine s_runk tMs Z 1 rfl rfl fun a Z => ?_
      refine s_end Z [4] rfl fun Z => ?_
      refine p_then (wp_ret ?_)
      refine p_blk_r ?_
      refine p_then_r ?_
      obtain rfl := some_in hF
      exact f_ret Z (run_results1 rfl Z rfl) ⟨rfl, I4, (H.sub [] rfl).eq rfl⟩
     ·replace hF := ite_f hc6 hF
      refine wp_seq (f_region Z ?_); clear Z; intro Z
      refine s_runk tMs Z 2 rfl rfl fun a Z => ?_
      refine s_end Z [2, 20, 41] rfl fun Z => ?_
      refine p_then ?_
      refine f_cond Z rfl (fun hc7 => ?_) (fun hc7 => ?_)
      ·replace hF := ite_t hc7 hF
       refine wp_seq ?_
       obtain ⟨c_2, hx6, hF⟩ := bnd_in hF
       refine f_region Z fun Z => ?_
       refine s_runk tMs Z 1 rfl rfl fun a Z => ?_
       refine sO Z (.agg #[vI m.conf.epoch, v1_m, vU m.conf.floor]) rfl (oA tMs rfl rfl ((H.bx 0 rfl).part 13 rfl)) fun a Z => ?_
       refine hC Z H [(1, true)] rfl #[] fn_70_YMs rfl rfl (fun D h => have q := c_conf_Check hx6 h; q) fun vv a w6 D2 hr hF2 Z => ?_
       obtain ⟨rfl, I5, K⟩ := hr
       have H := (hF2 K).nf rfl
       refine s_runk tMs Z 1 rfl rfl fun a Z => ?_
       refine s_end Z [4] rfl fun Z => ?_
       refine p_then (wp_ret ?_)
       refine p_blk_r ?_
       refine p_then_r ?_
       obtain rfl := some_in hF
       exact f_ret Z (run_results1 rfl Z rfl) ⟨rfl, I5, (H.sub [] rfl).eq rfl⟩
      ·replace hF := ite_f hc7 hF
       refine wp_seq (f_region Z ?_); clear Z; intro Z
       refine s_runk tMs Z 2 rfl rfl fun a Z => ?_
       refine s_end Z [2, 20, 46] rfl fun Z => ?_
       refine p_then ?_
       refine f_cond Z rfl (fun hc8 => ?_) (fun hc8 => ?_)
       ·replace hF := ite_t hc8 hF
        refine wp_seq ?_
        obtain ⟨c_3, hx7, hF⟩ := bnd_in hF
        refine f_region Z fun Z => ?_
        refine s_runk tMs Z 1 rfl rfl fun a Z => ?_
        refine sO Z (.agg #[vI m.batch.client, vI m.batch.req, v2_m]) rfl (oA tMs rfl rfl ((H.bx 0 rfl).part 16 rfl)) fun a Z => ?_
        refine hC Z H [(2, true)] rfl #[] fn_39_YMs rfl rfl (fun D h => have q := c_ops_Check hx7 h; q) fun vv a w7 D2 hr hF2 Z => ?_
        obtain ⟨rfl, I6, K⟩ := hr
        have H := (hF2 K).nf rfl
        refine s_runk tMs Z 1 rfl rfl fun a Z => ?_
        refine s_end Z [4] rfl fun Z => ?_
        refine p_then (wp_ret ?_)
        refine p_blk_r ?_
        refine p_then_r ?_
        obtain rfl := some_in hF
        exact f_ret Z (run_results1 rfl Z rfl) ⟨rfl, I6, (H.sub [] rfl).eq rfl⟩
       ·replace hF := ite_f hc8 hF
        refine wp_seq (f_region Z ?_); clear Z; intro Z
        refine s_runk tMs Z 2 rfl rfl fun a Z => ?_
        refine s_end Z [2, 20, 51] rfl fun Z => ?_
        refine p_then ?_
        refine f_cond Z rfl (fun hc9 => ?_) (fun hc9 => ?_)
        ·replace hF := ite_t hc9 hF
         refine wp_seq ?_
         obtain ⟨f, hx8, hF⟩ := bnd_in hF
         obtain ⟨x0, hx9, hF⟩ := bnd_in hF
         refine f_region Z fun Z => ?_
         refine s_runk tMs Z 1 rfl rfl fun a Z => ?_
         refine sO Z _ rfl (oL tMs rfl rfl (H.bc 0 19 rfl rfl)) fun a Z => ?_
         refine sO Z (vI (ln m.entries)) rfl (Ob_slen tMs rfl rfl rfl (H.slshape 3 rfl)) fun a Z => ?_
         refine hC Z H [] rfl #[] fn_72_YMs rfl rfl (fun D h => have q := c_mess_full hx8 h; q) fun vv a w8 D2 hr hF2 Z => ?_
         obtain ⟨rfl, I7, K⟩ := hr
         have H := (hF2 K).nf rfl
         refine s_runk tMs Z 1 rfl rfl fun a Z => ?_
         refine hC Z H [(0, false), (0, true), (1, true), (2, true), (3, true), (4, true)] rfl #[] fn_71_YMs rfl rfl (fun D h => have q := c_mess_or__mess_wrong_1 hx9 h; q) fun vv a w9 D2 hr hF2 Z => ?_
         obtain ⟨rfl, I8, K⟩ := hr
         have H := (hF2 K).nf rfl
         refine s_runk tMs Z 1 rfl rfl fun a Z => ?_
         refine s_end Z [4] rfl fun Z => ?_
         refine p_then (wp_ret ?_)
         refine p_blk_r ?_
         refine p_then_r ?_
         obtain rfl := some_in hF
         exact f_ret Z (run_results1 rfl Z rfl) ⟨rfl, I8, (H.sub [] rfl).eq rfl⟩
        ·replace hF := ite_f hc9 hF
         refine wp_seq (f_region Z ?_); clear Z; intro Z
         refine s_runk tMs Z 2 rfl rfl fun a Z => ?_
         refine s_end Z [2, 20, 59] rfl fun Z => ?_
         refine p_then ?_
         refine f_cond Z rfl (fun hc10 => ?_) (fun hc10 => ?_)
         ·replace hF := ite_t hc10 hF
          refine wp_seq ?_
          obtain ⟨f_2, hx10, hF⟩ := bnd_in hF
          refine f_region Z fun Z => ?_
          refine s_runk tMs Z 1 rfl rfl fun a Z => ?_
          refine sO Z _ rfl (oL tMs rfl rfl (H.bc 0 20 rfl rfl)) fun a Z => ?_
          refine sO Z (vI (ln m.stamps)) rfl (Ob_slen tMs rfl rfl rfl (H.slshape 4 rfl)) fun a Z => ?_
          refine hC Z H [] rfl #[] fn_72_YMs rfl rfl (fun D h => have q := c_mess_full hx10 h; q) fun vv a w10 D2 hr hF2 Z => ?_
          obtain ⟨rfl, I9, K⟩ := hr
          have H := (hF2 K).nf rfl
          refine s_runk tMs Z 1 rfl rfl fun a Z => ?_
          refine s_end Z [4] rfl fun Z => ?_
          refine p_then (wp_ret ?_)
          refine p_blk_r ?_
          refine p_then_r ?_
          obtain rfl := some_in hF
          exact f_ret Z (run_results1 rfl Z rfl) ⟨rfl, I9, (H.sub [] rfl).eq rfl⟩
         ·replace hF := ite_f hc10 hF
          refine wp_seq (f_region Z ?_); clear Z; intro Z
          refine s_runk tMs Z 2 rfl rfl fun a Z => ?_
          refine s_end Z [2, 65] rfl fun Z => ?_
          refine p_then ?_
          refine f_cond Z rfl (fun hc11 => ?_) (fun hc11 => ?_)
          ·replace hF := ite_t hc11 hF
           refine wp_seq ?_
           obtain ⟨f_3, hx11, hF⟩ := bnd_in hF
           obtain ⟨x0_2, hx12, hF⟩ := bnd_in hF
           refine f_region Z fun Z => ?_
           refine s_runk tMs Z 1 rfl rfl fun a Z => ?_
           refine sO Z _ rfl (oL tMs rfl rfl (H.bc 0 21 rfl rfl)) fun a Z => ?_
           refine sO Z (vI (ln m.pairs)) rfl (Ob_slen tMs rfl rfl rfl (H.slshape 5 rfl)) fun a Z => ?_
           refine hC Z H [] rfl #[] fn_72_YMs rfl rfl (fun D h => have q := c_mess_full hx11 h; q) fun vv a w11 D2 hr hF2 Z => ?_
           obtain ⟨rfl, I10, K⟩ := hr
           have H := (hF2 K).nf rfl
           refine s_runk tMs Z 1 rfl rfl fun a Z => ?_
           refine hC Z H [(0, false), (0, true), (1, true), (2, true), (3, true), (4, true)] rfl #[] fn_71_YMs rfl rfl (fun D h => have q := c_mess_or__mess_wrong_2 hx12 h; q) fun vv a w12 D2 hr hF2 Z => ?_
           obtain ⟨rfl, I11, K⟩ := hr
           have H := (hF2 K).nf rfl
           refine s_runk tMs Z 1 rfl rfl fun a Z => ?_
           refine s_end Z [4] rfl fun Z => ?_
           refine p_then (wp_ret ?_)
           refine p_blk_r ?_
           refine p_then_r ?_
           obtain rfl := some_in hF
           exact f_ret Z (run_results1 rfl Z rfl) ⟨rfl, I11, (H.sub [] rfl).eq rfl⟩
          ·replace hF := ite_f hc11 hF
           refine wp_skip ?_
           refine p_blk ?_
           refine p_then ?_
           exact ⟨Z.sub (ts := []) rfl, ⟨I1, (H.sub [] rfl).eq rfl⟩, hF⟩

def F_mess_Check_l1 (m : EMsg) (p : ByteArray × Bool) (rc : Nat → Option Int) (sg : Nat) : Option Int := match sg with | yb2 => if (decide (yb2 < p.1.size)) = true then (chk (yb2 < p.1.size) ((F_mess_wrong m (runeAt p.1 yb2)).bind fun w0 => (if (w0 != 0) = true then (some w0) else (rc (nxP p.1 yb2))))) else (some 0)

def F_mess_Check (m : EMsg) : Option Int := (F_mess_parts m.k).bind fun p => (if (!p.2) = true then (some 11) else (iter (F_mess_Check_l1 m p) FU 0))

set_option maxHeartbeats 1000000 in
theorem c_mess_Check {I D : Dm} {m : EMsg} {v1_m : Value} {v2_m : Value} {v3_m : Value} {v4_m : Value} {v5_m : Value} {w : World} {rr : Int} (hF : F_mess_Check m = some rr) (H : St I D w [SlC NEMember v1_m m.conf.members, SlC NEOp v2_m m.batch.ops, SlC NEEntry v3_m m.entries, SlC Nu64 v4_m m.stamps, SlC NEPair v5_m m.pairs]) :
  Calls Try.prog 24 #[.agg (cEMsg m v1_m v2_m v3_m v4_m v5_m).toArray] w (Ret fun vv w' => vv = vI rr ∧ ∃ I', Hf I D w I' w' []) := by
 replace H := H.hf
 unfold F_mess_Check at hF
 refine f_enter 27 Try.func24 rfl rfl (Nat.le_of_ble_eq_true rfl) fun a Z => ?_
 replace Z := Z.sub (ts := [0]) rfl
 refine wp_seq (f_region Z ?_); clear Z; intro Z
 refine h_boxv Z H (cl := (cEMsg m v1_m v2_m v3_m v4_m v5_m)) rfl rfl rfl (by decide) rfl rfl rfl fun a w1 b1 H Z => ?_
 refine s_runk tMs Z 1 rfl rfl fun a Z => ?_
 refine s_end Z [1] rfl fun Z => ?_
 refine p_then (wp_seq ?_)
 obtain ⟨p, hx1, hF⟩ := bnd_in hF
 refine f_region Z fun Z => ?_
 refine s_runk tMs Z 1 rfl rfl fun a Z => ?_
 refine sO Z _ rfl (oL tMs rfl rfl (H.bc 0 0 rfl rfl)) fun a Z => ?_
 refine hC Z H [] rfl #[] fn_49_YMs rfl rfl (fun D h => have q := c_mess_parts hx1 h; q) fun vv a w2 D2 hr hF2 Z => ?_
 obtain ⟨rfl, I1, K⟩ := hr
 have H := (hF2 K).nf rfl
 refine s_runk tMs Z 5 rfl rfl fun a Z => ?_
 refine s_end Z [1, 3, 4] rfl fun Z => ?_
 refine p_then (wp_seq ?_)
 refine wp_seq (f_region Z ?_); clear Z; intro Z
 refine s_runk tMs Z 2 rfl rfl fun a Z => ?_
 refine s_end Z [1, 3, 15] rfl fun Z => ?_
 refine p_then ?_
 refine f_cond Z rfl (fun hc1 => ?_) (fun hc1 => ?_)
 ·replace hF := ite_t hc1 hF
  refine wp_seq (f_region Z ?_); clear Z; intro Z
  refine s_runk tMs Z 1 rfl rfl fun a Z => ?_
  refine s_end Z [2] rfl fun Z => ?_
  refine p_then (wp_ret ?_)
  refine p_then_r ?_
  obtain rfl := some_in hF
  exact f_ret Z (run_results1 rfl Z rfl) ⟨rfl, I1, (H.sub [] rfl).eq rfl⟩
 ·replace hF := ite_f hc1 hF
  refine wp_skip ?_
  refine p_then (wp_seq ?_)
  refine wp_seq (f_region Z ?_); clear Z; intro Z
  refine s_runk tMs Z 1 rfl rfl fun a Z => ?_
  refine h_srange Z H rfl rfl Try.underlying9 rfl rfl (by decide) rfl fun a w3 b2 H Z => ?_
  refine s_end Z [1, 17] rfl fun Z => ?_
  refine p_then (wp_block ?_)
  refine f_iter hF (fun sg a' w' => match sg with | yb2 => Sl 27 [(1, pp b1 0), (17, pp b2 0)] a' ∧ ∃ I2, Hf I D w I2 w' [BxC b1 37 (cEMsg m v1_m v2_m v3_m v4_m v5_m), ObC b2 (.stringIter p.1 yb2), SlC NEMember v1_m m.conf.members, SlC NEOp v2_m m.batch.ops, SlC NEEntry v3_m m.entries, SlC Nu64 v4_m m.stamps, SlC NEPair v5_m m.pairs]) ⟨Z.sub (ts := [1, 17]) rfl, ⟨I1, (H.sub [(1, false), (0, false), (0, true), (1, true), (2, true), (3, true), (4, true)] rfl).eq rfl⟩⟩ ?_
  rintro rc yb2 a w4 ⟨Z, I2, H⟩ hF
  unfold F_mess_Check_l1 at hF
  try dsimp only at hF
  refine wp_seq (f_region Z ?_); clear Z; intro Z
  refine h_snext Z H 1 rfl rfl rfl rfl rfl (by decide) rfl fun a w5 H Z => ?_
  dsimp only [List.eraseIdx] at H
  refine sO Z (vT (decide (yb2 < p.1.size))) rfl (Ob_nx0 rfl rfl) fun a Z => ?_
  refine s_end Z [1, 17, 18, 19] rfl fun Z => ?_
  refine p_then (wp_seq ?_)
  refine f_cond Z rfl (fun hc2 => ?_) (fun hc2 => ?_)
  ·replace hF := ite_t hc2 hF
   refine wp_skip ?_
   refine p_then (wp_block ?_)
   refine wp_seq ?_
   obtain ⟨hg1, hF⟩ := chk_in hF
   refine f_region Z fun Z => ?_
   refine sO Z (.int .i32 (runeAt p.1 yb2)) rfl (Ob_nx2 rfl rfl hg1) fun a Z => ?_
   refine s_runk tMs Z 1 rfl rfl fun a Z => ?_
   refine s_end Z [1, 17, 6] rfl fun Z => ?_
   refine p_then (wp_seq ?_)
   obtain ⟨w0, hx2, hF⟩ := bnd_in hF
   refine f_region Z fun Z => ?_
   refine sO Z (.agg (cEMsg m v1_m v2_m v3_m v4_m v5_m).toArray) rfl (oA tMs rfl rfl ((H.bx 1 rfl).part 0 rfl)) fun a Z => ?_
   refine s_runk tMs Z 1 rfl rfl fun a Z => ?_
   refine hC Z H [(2, true), (3, true), (4, true), (5, true), (6, true)] rfl #[] fn_50_YMs rfl rfl (fun D h => have q := c_mess_wrong hx2 h; q) fun vv a w6 D2 hr hF2 Z => ?_
   obtain ⟨rfl, I3, K⟩ := hr
   have H := (hF2 K).nf rfl
   refine s_runk tMs Z 1 rfl rfl fun a Z => ?_
   refine s_end Z [1, 17, 7] rfl fun Z => ?_
   refine p_then (wp_seq (f_region Z ?_)); clear Z; intro Z
   refine s_runk tMs Z 2 rfl rfl fun a Z => ?_
   refine s_end Z [1, 17, 7, 25] rfl fun Z => ?_
   refine p_then ?_
   refine f_cond Z rfl (fun hc3 => ?_) (fun hc3 => ?_)
   ·replace hF := ite_t hc3 hF
    refine wp_seq (f_region Z ?_); clear Z; intro Z
    refine s_runk tMs Z 2 rfl rfl fun a Z => ?_
    refine s_end Z [2] rfl fun Z => ?_
    refine p_then (wp_ret ?_)
    refine p_blk_r ?_
    refine p_then_r ?_
    refine p_blk_r ?_
    refine p_then_r ?_
    obtain rfl := some_in hF
    exact f_ret Z (run_results1 rfl Z rfl) ⟨rfl, I3, (H.sub [] rfl).eq rfl⟩
   ·replace hF := ite_f hc3 hF
    refine wp_skip ?_
    refine p_blk ?_
    refine p_then ?_
    exact ⟨(nxP p.1 yb2), ⟨Z.sub (ts := [1, 17]) rfl, ⟨I3, (H.sub [(1, false), (0, false), (0, true), (1, true), (2, true), (3, true), (4, true)] rfl).eq rfl⟩⟩, hF⟩
  ·replace hF := ite_f hc2 hF
   refine wp_exit ?_
   refine p_then_x ?_
   refine p_then_x ?_
   refine f_exit_here ?_
   refine p_then (wp_seq (f_region Z ?_)); clear Z; intro Z
   refine s_runk tMs Z 1 rfl rfl fun a Z => ?_
   refine s_end Z [2] rfl fun Z => ?_
   refine p_then (wp_ret ?_)
   obtain rfl := some_in hF
   exact f_ret Z (run_results1 rfl Z rfl) ⟨rfl, I2, (H.sub [] rfl).eq rfl⟩

def F_ref09_parts_k2 (k : Int) (x_2 : Bool) : Option ByteArray := if (x_2) = true then (some ⟨#[114, 110]⟩) else (if (k == 15) = true then (some ⟨#[]⟩) else (some ⟨#[63]⟩))

def F_ref09_parts_k1 (k : Int) (x : Bool) : Option ByteArray := if (x) = true then (some ⟨#[114, 97]⟩) else (if (k == 7) = true then (some ⟨#[114, 120, 101, 110]⟩) else (if (k == 8) = true then (some ⟨#[114, 107, 97]⟩) else (if (k == 9) = true then (some ⟨#[114, 107, 116, 97, 110]⟩) else (if (k == 10) = true then (some ⟨#[114, 107, 97, 102, 82]⟩) else (if (k == 12) = true then (F_ref09_parts_k2 k (k == 12)) else (if (k == 13) = true then (F_ref09_parts_k2 k (k == 13)) else (F_ref09_parts_k2 k (k == 14))))))))

def F_ref09_parts (k : Int) : Option ByteArray := if (k == 1) = true then (some ⟨#[67, 97]⟩) else (if (k == 2) = true then (some ⟨#[101, 115, 102, 97, 108]⟩) else (if (k == 3) = true then (some ⟨#[101, 110, 109, 112, 114, 97, 69]⟩) else (if (k == 4) = true then (some ⟨#[101, 110, 109, 112, 83]⟩) else (if (k == 5) = true then (some ⟨#[101, 66]⟩) else (if (k == 6) = true then (F_ref09_parts_k1 k (k == 6)) else (F_ref09_parts_k1 k (k == 11)))))))

end Go.Proofs.Ytaknkbbjimielaa
