/- The tail's timestamps. -/
import Derived.Test.YtmdoimpeacndaaaYRe
namespace Go.Proofs.Ytmdoimpeacndaaa
open Go.RowKit
def tRe2L : TabL := ⟨[], [], [], [(22, (57, 4)), (45, (82, 18))], [(3, (1, false)), (22, (1, false)), (24, (1, false)), (45, (1, false))]⟩

def tRe2 : Tab Try.prog := ⟨tRe2L, by kernel_rfl⟩

theorem fn_35_YRe2 : IsFn Try.prog 35 := ⟨_, Try.func35, by kernel_rfl, by kernel_rfl⟩

theorem fn_46_YRe2 : IsFn Try.prog 46 := ⟨_, Try.func46, by kernel_rfl, by kernel_rfl⟩

theorem fn_52_YRe2 : IsFn Try.prog 52 := ⟨_, Try.func52, by kernel_rfl, by kernel_rfl⟩

theorem fn_68_YRe2 : IsFn Try.prog 68 := ⟨_, Try.func68, by kernel_rfl, by kernel_rfl⟩

theorem fn_69_YRe2 : IsFn Try.prog 69 := ⟨_, Try.func69, by kernel_rfl, by kernel_rfl⟩

theorem E_45_YRe2 : Elem Try.prog 45 82 18 192 := ⟨Try.underlying45, by
 have h : (Try.prog.info? 82).map (fun i => (i.zero, i.size, i.bytes)) = some (some (.agg #[.int .i64 0, .int .i64 0, .int .u64 0, .int .i64 0, .slice none 0 0, .int .u64 0, .slice none 0 0, .int .i64 0, .int .i64 0, .slice none 0 0, .int .u64 0, .int .i64 0, .int .u64 0, .int .i64 0, .int .i64 0, .int .i64 0, .int .i64 0, .int .i64 0]), 18, 192) := by kernel_rfl
 obtain ⟨i, hi, h1⟩ := Option.map_eq_some_iff.1 h
 simp only [Prod.mk.injEq] at h1
 exact ⟨i, _, hi, h1.1, h1.2.1, h1.2.2, by rfl⟩, by decide⟩

def F_stamp_Next (last : Int) (floor : Int) : Option (Int × Int) := if (last == 18446744073709551615) = true then (some (0, 16)) else (chk (inU (last + 1)) (some (max (last + 1) floor, 0)))

set_option maxHeartbeats 1000000 in
theorem c_stamp_Next {I D : Dm} {last : Int} {floor : Int} {w : World} {rr : Int × Int} (hF : F_stamp_Next last floor = some rr) (H : St I D w []) :
  Calls Try.prog 69 #[.int .u64 last, .int .u64 floor] w (Ret fun vv w' => vv = .tuple #[.int .u64 rr.1, .int .i64 rr.2] ∧ ∃ I', Hf I D w I' w' []) := by
 replace H := H.hf
 unfold F_stamp_Next at hF
 refine f_enter 12 Try.func69 rfl rfl (Nat.le_of_ble_eq_true rfl) fun a Z => ?_
 replace Z := Z.sub (ts := [0, 1]) rfl
 refine wp_seq (f_region Z ?_); clear Z; intro Z
 refine s_runk tRe2 Z 2 rfl rfl ?_; clear Z a; intro a Z
 refine s_end Z [0, 1, 4, 5] rfl ?_; clear Z; intro Z
 refine p_then (wp_seq ?_)
 refine wp_seq (f_region Z ?_); clear Z; intro Z
 refine s_runk tRe2 Z 2 rfl rfl ?_; clear Z a; intro a Z
 refine s_end Z [0, 1, 4, 5, 7] rfl ?_; clear Z; intro Z
 refine p_then ?_
 refine f_cond Z rfl (fun hc1 => ?_) (fun hc1 => ?_)
 ·replace hF := ite_t hc1 hF
  refine wp_seq (f_region Z ?_); clear Z; intro Z
  refine s_runk tRe2 Z 2 rfl rfl ?_; clear Z a; intro a Z
  refine s_end Z [0, 1, 4, 5] rfl ?_; clear Z; intro Z
  refine p_then (wp_ret ?_)
  refine p_then_r ?_
  obtain rfl := some_in hF
  exact f_ret Z (run_results2 rfl Z rfl rfl) ⟨rfl, I, (H.sub [] rfl).eq rfl⟩
 ·replace hF := ite_f hc1 hF
  refine wp_skip ?_
  refine p_then (wp_seq ?_)
  obtain ⟨hg1, hF⟩ := chk_in hF
  refine f_region Z ?_; clear Z; intro Z
  refine s_runk tRe2 Z 1 rfl rfl ?_; clear Z a; intro a Z
  refine s_ob Z (v := .int .u64 (last + 1)) rfl rfl (by decide) rfl (Ob_add rfl rfl rfl (wrU hg1)) ?_; clear Z a; intro a Z
  refine s_runk tRe2 Z 4 rfl rfl ?_; clear Z a; intro a Z
  refine s_end Z [4, 5] rfl ?_; clear Z; intro Z
  refine p_then (wp_ret ?_)
  obtain rfl := some_in hF
  exact f_ret Z (run_results2 rfl Z rfl rfl) ⟨rfl, I, (H.sub [] rfl).eq rfl⟩

def F_stamp_next (last : Int) (floor : Int) : Option (Int × Int) := some (last, floor)

set_option maxHeartbeats 1000000 in
theorem c_stamp_next {I D : Dm} {last : Int} {floor : Int} {w : World} {rr : Int × Int} (hF : F_stamp_next last floor = some rr) (H : St I D w []) :
  Calls Try.prog 52 #[.int .u64 last, .int .u64 floor] w (Ret fun vv w' => ∃ g1 g2 : Nat, vv = .func (.func 68) #[] #[.pointer (some ⟨g1, 0, none⟩), .pointer (some ⟨g2, 0, none⟩)] ∧ ∃ I', Hf I D w I' w' [BxC g1 24 [.int .u64 rr.1], BxC g2 24 [.int .u64 rr.2]]) := by
 replace H := H.hf
 unfold F_stamp_next at hF
 refine f_enter 6 Try.func52 rfl rfl (Nat.le_of_ble_eq_true rfl) fun a Z => ?_
 replace Z := Z.sub (ts := [0, 1]) rfl
 refine wp_seq (f_region Z ?_); clear Z; intro Z
 refine h_boxv Z H (cl := [.int .u64 last]) rfl rfl rfl (by decide) rfl rfl rfl ?_; clear Z a H; intro a w1 b1 H Z
 refine h_boxv Z H (cl := [.int .u64 floor]) rfl rfl rfl (by decide) rfl rfl rfl ?_; clear Z a H; intro a w2 b2 H Z
 refine s_runk tRe2 Z 1 rfl rfl ?_; clear Z a; intro a Z
 refine s_end Z [2, 3, 4] rfl ?_; clear Z; intro Z
 refine p_then (wp_seq (f_region Z ?_)); clear Z; intro Z
 refine s_runk tRe2 Z 2 rfl rfl ?_; clear Z a; intro a Z
 refine s_end Z [4] rfl ?_; clear Z; intro Z
 refine p_then (wp_ret ?_)
 obtain rfl := some_in hF
 exact f_ret Z (run_results1 rfl Z rfl) ⟨b1, b2, rfl, I, (H.sub [(1, false), (0, false)] rfl).eq rfl⟩

def F_stamp_next_1_l1 {σ : Type} (y : Int → σ → Option (Bool × σ)) (p2 : Int) (rc : ((Bool × σ) × Int) → Option (Int × (Bool × σ))) (sg : (Bool × σ) × Int) : Option (Int × (Bool × σ)) := match sg with | (yY, yb_p1) => (F_stamp_Next yb_p1 p2).bind fun n0 => (if (n0.2 != 0) = true then (some (yb_p1, yY)) else (chk (yY.1 = true) ((y n0.1 yY.2).bind fun r0 => (if (!r0.1) = true then (some (yb_p1, r0)) else (rc (r0, n0.1))))))

def F_stamp_next_1 {σ : Type} (y : Int → σ → Option (Bool × σ)) (x0 : Bool × σ) (p1 : Int) (p2 : Int) : Option (Int × (Bool × σ)) := iter (F_stamp_next_1_l1 y p2) FU (x0, p1)

set_option maxHeartbeats 1000000 in
theorem c_stamp_next_1 {σ : Type} {I D : Dm} {Y : Bool × σ → Ch} {y : Int → σ → Option (Bool × σ)} {x0 : Bool × σ} {ly : Nat} {b_p1 : Nat} {p1 : Int} {b_p2 : Nat} {p2 : Int} {w : World} {rr : Int × (Bool × σ)} (hy : YieldOk Try.prog ly Y (fun (e_ : Int) (v_ : Unit) => .int .u64 e_) (fun (e_ : Int) (v_ : Unit) => []) y) (hF : F_stamp_next_1 y x0 p1 p2 = some rr) (H : St I D w [BxC b_p1 24 [.int .u64 p1], BxC b_p2 24 [.int .u64 p2], Y x0]) :
  Calls Try.prog 68 #[.func (.yield ly) #[] #[], .pointer (some ⟨b_p1, 0, none⟩), .pointer (some ⟨b_p2, 0, none⟩)] w (Ret fun vv w' => vv = .tuple #[] ∧ ∃ I', Hf I D w I' w' [BxC b_p1 24 [.int .u64 rr.1], BxC b_p2 24 [.int .u64 p2], Y rr.2]) := by
 replace H := H.hf
 unfold F_stamp_next_1 at hF
 refine f_enter 21 Try.func68 rfl rfl (Nat.le_of_ble_eq_true rfl) fun a Z => ?_
 replace Z := Z.sub (ts := [0, 1, 2]) rfl
 refine f_scope (l := 0) rfl ?_
 refine f_label hF (fun sg a' w' => match sg with | (yY, yb_p1) => Sl 21 [(0, .func (.yield ly) #[] #[]), (1, .pointer (some ⟨b_p1, 0, none⟩)), (2, .pointer (some ⟨b_p2, 0, none⟩))] a' ∧ ∃ I2, Hf I D w I2 w' [Y yY, BxC b_p1 24 [.int .u64 yb_p1], BxC b_p2 24 [.int .u64 p2]]) ⟨Z.sub (ts := [0, 1, 2]) rfl, ⟨I, (H.sub [(2, false), (0, false), (0, false)] rfl).eq rfl⟩⟩ ?_
 clear Z H hF a
 rintro rc ⟨yY, yb_p1⟩ a w1 ⟨Z, I1, H⟩ hF
 unfold F_stamp_next_1_l1 at hF
 try dsimp only at hF
 refine wp_seq ?_
 obtain ⟨n0, hx1, hF⟩ := bnd_in hF
 refine f_region Z ?_; clear Z; intro Z
 refine s_ob Z (v := .int .u64 yb_p1) rfl rfl (by decide) rfl (Ob_load tRe2 rfl rfl rfl ((H.bx 1 rfl).cell 0 rfl)) ?_; clear Z a; intro a Z
 refine s_ob Z (v := .int .u64 p2) rfl rfl (by decide) rfl (Ob_load tRe2 rfl rfl rfl ((H.bx 2 rfl).cell 0 rfl)) ?_; clear Z a; intro a Z
 refine h_call Z H (js := []) rfl (caps := #[]) fn_69_YRe2 rfl rfl rfl rfl rfl (by decide) rfl rfl (fun D1 hS => have hq := c_stamp_Next hx1 hS; hq) ?_; clear Z a; intro vv a w2 D2 hr hF2 Z
 obtain ⟨rfl, I2, K⟩ := hr
 have H : Hf I D w I2 w2 [Y yY, BxC b_p1 24 [.int .u64 yb_p1], BxC b_p2 24 [.int .u64 p2]] := hF2 K
 clear hF2 K
 refine s_runk tRe2 Z 5 rfl rfl ?_; clear Z a; intro a Z
 refine s_end Z [0, 1, 2, 7, 8, 9, 6, 10, 11, 4, 5] rfl ?_; clear Z; intro Z
 refine p_then (wp_seq ?_)
 refine wp_seq ?_
 refine f_regionY 5 (by kernel_rfl) (by rintro ⟨_, _, h⟩; exact h) Z ?_; clear Z; intro Z
 refine s_runk tRe2 Z 3 rfl rfl ?_; clear Z a; intro a Z
 refine g_ob Z (p := (!(n0.2 != 0))) (v := .func (.yield ly) #[] #[]) (S' := [(0, .func (.yield ly) #[] #[])]) rfl rfl rfl (wantB_f _) rfl (by decide) (fun hp hS => hS.sub (ts := [0]) rfl) (fun hp => Ob_c tRe2 rfl) ?_; clear Z a; intro a Z
 refine g_ob Z (p := (!(n0.2 != 0))) (v := .int .u64 n0.1) (S' := [(4, .int .u64 n0.1)]) rfl rfl rfl (wantB_f _) rfl (by decide) (fun hp hS => hS.sub (ts := [4]) rfl) (fun hp => Ob_c tRe2 rfl) ?_; clear Z a; intro a Z
 refine s_mid ?_
 refine bsplit (n0.2 != 0) (fun hc1 => ?_) (fun hc1 => ?_)
 ·replace hF := ite_t hc1 hF; replace Z := Z.cnv (t := 14) rfl (show Value.bool (n0.2 != 0) = .bool true from congrArg Value.bool hc1); replace Z := Z.sub (ts := [0, 1, 2, 4, 5, 6, 7, 8, 9, 10, 11, 12, 13, 14, 15, 16]) rfl
  refine gY_no Z rfl rfl rfl rfl rfl (by decide) ?_; clear Z; intro a Z
  refine l_back (by rintro ⟨_, _, h⟩; exact h) (by kernel_rfl) ?_
  refine g_if Z rfl rfl rfl (p := false) rfl rfl (by decide) (fun h => by cases h) ?_; clear Z; intro _ a Z
  refine s_ob Z (v := .bool true) rfl rfl (by decide) rfl (Ob_pick rfl rfl rfl rfl rfl) ?_; clear Z a; intro a Z
  refine s_end Z [0, 1, 2, 7, 8, 9, 6, 10, 11, 4, 5, 12, 13, 14, 19] rfl ?_; clear Z; intro Z
  refine p_then ?_
  refine wp_cond_true (Z.ev rfl) ?_
  refine wp_ret ?_
  refine p_then_r ?_
  refine p_jump_r ?_
  obtain rfl := some_in hF
  exact f_ret Z (run_results0 rfl) ⟨rfl, I2, (H.sub [(1, false), (1, false), (0, false)] rfl).eq rfl⟩
 ·replace hF := ite_f hc1 hF; replace Z := Z.cnv (t := 14) rfl (show Value.bool (n0.2 != 0) = .bool false from congrArg Value.bool hc1); replace Z := Z.sub (ts := [0, 1, 2, 4, 5, 6, 7, 8, 9, 10, 11, 12, 13, 14, 15, 16]) rfl
  replace Z := Z.cnv (t := 15) rfl (cond_t (by rw [hc1]; rfl)); replace Z := Z.sub (ts := [0, 1, 2, 4, 5, 6, 7, 8, 9, 10, 11, 12, 13, 14, 15, 16]) rfl
  replace Z := Z.cnv (t := 16) rfl (cond_t (by rw [hc1]; rfl)); replace Z := Z.sub (ts := [0, 1, 2, 4, 5, 6, 7, 8, 9, 10, 11, 12, 13, 14, 15, 16]) rfl
  obtain ⟨hg1, hF⟩ := chk_in hF
  obtain ⟨r0, hx2, hF⟩ := bnd_in hF
  refine gY_yes Z rfl rfl rfl rfl ?_
  refine h_yield Z H (js := [(0, false)]) rfl rfl rfl rfl rfl rfl (by decide) rfl rfl (fun D1 hS => have hq := hy n0.1 () yY _ hg1 hx2 hS; hq) ?_; clear Z a; intro vv a w3 D2 hr hF2 Z
  obtain ⟨rfl, I3, K⟩ := hr
  have H : Hf I D w I3 w3 [Y r0, BxC b_p1 24 [.int .u64 yb_p1], BxC b_p2 24 [.int .u64 p2]] := hF2 K
  clear hF2 K
  refine l_back (by rintro ⟨_, _, h⟩; exact h) (by kernel_rfl) ?_
  refine g_if Z rfl rfl rfl (p := true) rfl rfl (by decide) (fun _ => ?_) (fun h => by cases h)
  refine s_runk tRe2 Z 1 rfl rfl ?_; clear Z a; intro a Z
  refine s_ob Z (v := .bool (!r0.1)) rfl rfl (by decide) rfl (Ob_pick rfl rfl rfl rfl rfl) ?_; clear Z a; intro a Z
  refine s_end Z [0, 1, 2, 7, 8, 9, 6, 10, 11, 4, 5, 12, 13, 14, 15, 16, 17, 18, 19] rfl ?_; clear Z; intro Z
  refine p_then ?_
  refine f_cond Z rfl (fun hc2 => ?_) (fun hc2 => ?_)
  ·replace hF := ite_t hc2 hF
   refine wp_ret ?_
   refine p_then_r ?_
   refine p_jump_r ?_
   obtain rfl := some_in hF
   exact f_ret Z (run_results0 rfl) ⟨rfl, I3, (H.sub [(1, false), (1, false), (0, false)] rfl).eq rfl⟩
  ·replace hF := ite_f hc2 hF
   refine wp_skip ?_
   refine p_then (wp_seq (f_region Z ?_)); clear Z; intro Z
   refine s_runk tRe2 Z 1 rfl rfl ?_; clear Z a; intro a Z
   refine h_store tRe2 Z H 1 rfl rfl rfl rfl rfl rfl rfl rfl rfl (one_cons rfl one_nil) (Nat.le_of_ble_eq_true rfl) rfl ?_; clear H; intro w4 H
   dsimp only [List.eraseIdx] at H
   refine s_end Z [0, 1, 2, 7, 8, 9, 6, 10, 11, 4, 5, 12, 13, 14, 15, 16, 17, 18, 19, 20] rfl ?_; clear Z; intro Z
   refine p_then ?_
   refine wp_goto ?_
   refine p_jump_g ?_
   exact ⟨(r0, n0.1), ⟨Z.sub (ts := [0, 1, 2]) rfl, ⟨I3, (H.sub [(1, false), (0, false), (0, false)] rfl).eq rfl⟩⟩, hF⟩

def F_stamp_All_y1 (l : List EEntry) (n0 : Int) (e_ : Int) (sg : (List ENote) × Int) : Option (Bool × ((List ENote) × Int)) := match sg with | (out, i) => chk (((out.length + [({ (default : ENote) with k := 3, n := i, at_ := e_ } : ENote)].length : Nat) : Int) * 192 ≤ 140737488355328) (chk (inI (i + 1)) (if (decide (i + 1 ≥ min n0 (l.length : Int))) = true then (some (false, (out ++ [({ (default : ENote) with k := 3, n := i, at_ := e_ } : ENote)], i + 1))) else (some (true, (out ++ [({ (default : ENote) with k := 3, n := i, at_ := e_ } : ENote)], i + 1)))))

def F_stamp_All (l : List EEntry) (n0 : Int) (floor : Int) : Option (List ENote) := (F_item_Stamped l).bind fun s0 => (if (decide (s0 ≥ min n0 (l.length : Int))) = true then (some ([] : List ENote)) else ((F_item_Last l).bind fun l_2 => ((F_stamp_next l_2 floor).bind fun n0_2 => ((F_stamp_next_1 (F_stamp_All_y1 l n0) (true, (([] : List ENote), s0)) n0_2.1 n0_2.2).bind fun r0 => (if (r0.2.1) = true then (some r0.2.2.1) else (some r0.2.2.1))))))

set_option maxHeartbeats 1000000 in
theorem c_stamp_All {I D : Dm} {l : List EEntry} {v1_l : Value} {n0 : Int} {floor : Int} {w : World} {rr : List ENote} (hF : F_stamp_All l n0 floor = some rr) (H : St I D w [SlC NEEntry v1_l l]) :
  Calls Try.prog 24 #[v1_l, .int .i64 n0, .int .u64 floor] w (Ret fun vv w' => ∃ q1 : Value, vv = q1 ∧ ∃ I', Hf I D w I' w' [SlC NENote q1 rr]) := by
 replace H := H.hf
 unfold F_stamp_All at hF
 refine f_enterM 38 Try.func24 rfl rfl (Nat.le_of_ble_eq_true rfl) fun a Z => ?_
 replace Z := Z.sub (ts := [0, 1, 2]) rfl
 refine wp_seq (f_region Z ?_); clear Z; intro Z
 refine h_boxv Z H (cl := [v1_l]) rfl rfl rfl (by decide) rfl rfl (slS.cells (H.slshape 0 rfl)) ?_; clear Z a H; intro a w1 b1 H Z
 refine h_boxv Z H (cl := [.int .i64 n0]) rfl rfl rfl (by decide) rfl rfl rfl ?_; clear Z a H; intro a w2 b2 H Z
 refine s_runk tRe2 Z 1 rfl rfl ?_; clear Z a; intro a Z
 refine s_end Z [2, 3, 4, 6] rfl ?_; clear Z; intro Z
 refine p_then (wp_seq (f_region Z ?_)); clear Z; intro Z
 refine h_alloc Z H (cl := [.slice none 0 0]) (z := .slice none 0 0) rfl rfl rfl (by decide) rfl (by kernel_rfl) rfl ?_; clear Z a H; intro a w3 b3 H Z
 refine s_end Z [2, 3, 4, 6, 7] rfl ?_; clear Z; intro Z
 refine p_then (wp_seq ?_)
 obtain ⟨s0, hx1, hF⟩ := bnd_in hF
 refine f_region Z ?_; clear Z; intro Z
 refine s_ob Z (v := v1_l) rfl rfl (by decide) rfl (Ob_load tRe2 rfl rfl rfl ((H.bx 2 rfl).cell 0 rfl)) ?_; clear Z a; intro a Z
 refine h_call Z H (js := [(3, true)]) rfl (caps := #[]) fn_35_YRe2 rfl rfl rfl rfl rfl (by decide) rfl rfl (fun D1 hS => have hq := c_item_Stamped hx1 hS; hq) ?_; clear Z a; intro vv a w4 D2 hr hF2 Z
 obtain ⟨rfl, I1, K⟩ := hr
 have H : Hf I D w I1 w4 [BxC b3 45 [.slice none 0 0], BxC b2 3 [.int .i64 n0], BxC b1 22 [v1_l], SlC NEEntry v1_l l] := hF2 K
 clear hF2 K
 refine h_alloc Z H (cl := [.int .i64 0]) (z := .int .i64 0) rfl rfl rfl (by decide) rfl (by kernel_rfl) rfl ?_; clear Z a H; intro a w5 b4 H Z
 refine h_store tRe2 Z H 0 rfl rfl rfl rfl rfl rfl rfl rfl rfl (one_cons rfl one_nil) (Nat.le_of_ble_eq_true rfl) rfl ?_; clear H; intro w6 H
 dsimp only [List.eraseIdx] at H
 refine s_end Z [2, 3, 4, 6, 7, 8] rfl ?_; clear Z; intro Z
 refine p_then (wp_seq ?_)
 refine wp_seq (f_region Z ?_); clear Z; intro Z
 refine s_ob Z (v := .int .i64 s0) rfl rfl (by decide) rfl (Ob_load tRe2 rfl rfl rfl ((H.bx 0 rfl).cell 0 rfl)) ?_; clear Z a; intro a Z
 refine s_ob Z (v := .int .i64 n0) rfl rfl (by decide) rfl (Ob_load tRe2 rfl rfl rfl ((H.bx 2 rfl).cell 0 rfl)) ?_; clear Z a; intro a Z
 refine s_ob Z (v := v1_l) rfl rfl (by decide) rfl (Ob_load tRe2 rfl rfl rfl ((H.bx 3 rfl).cell 0 rfl)) ?_; clear Z a; intro a Z
 refine s_ob Z (v := .int .i64 (l.length : Int)) rfl rfl (by decide) rfl (Ob_slen tRe2 rfl rfl rfl (H.slshape 4 rfl)) ?_; clear Z a; intro a Z
 refine s_runk tRe2 Z 2 rfl rfl ?_; clear Z a; intro a Z
 refine s_end Z [2, 3, 4, 6, 7, 8, 17] rfl ?_; clear Z; intro Z
 refine p_then ?_
 refine f_cond Z rfl (fun hc1 => ?_) (fun hc1 => ?_)
 ·replace hF := ite_t hc1 hF
  refine wp_seq (f_region Z ?_); clear Z; intro Z
  refine s_runk tRe2 Z 1 rfl rfl ?_; clear Z a; intro a Z
  refine s_end Z [2, 3, 4, 6, 7, 8] rfl ?_; clear Z; intro Z
  refine p_then (wp_ret ?_)
  refine p_then_r ?_
  replace H : Hf I D w I1 w6 [SlC NENote (.slice none 0 0) ([] : List ENote), BxC b4 3 [.int .i64 s0], BxC b3 45 [.slice none 0 0], BxC b2 3 [.int .i64 n0], BxC b1 22 [v1_l], SlC NEEntry v1_l l] := H.slNil NENote
  obtain rfl := some_in hF
  exact f_retM0 Z (run_results1 rfl Z rfl) ⟨.slice none 0 0, rfl, I1, (H.sub [(0, true)] rfl).eq rfl⟩
 ·replace hF := ite_f hc1 hF
  refine wp_skip ?_
  refine p_then (wp_seq ?_)
  refine wp_seq ?_
  obtain ⟨l_2, hx2, hF⟩ := bnd_in hF
  obtain ⟨n0_2, hx3, hF⟩ := bnd_in hF
  refine f_region Z ?_; clear Z; intro Z
  refine s_ob Z (v := v1_l) rfl rfl (by decide) rfl (Ob_load tRe2 rfl rfl rfl ((H.bx 3 rfl).cell 0 rfl)) ?_; clear Z a; intro a Z
  refine h_call Z H (js := [(4, true)]) rfl (caps := #[]) fn_46_YRe2 rfl rfl rfl rfl rfl (by decide) rfl rfl (fun D1 hS => have hq := c_item_Last hx2 hS; hq) ?_; clear Z a; intro vv a w7 D2 hr hF2 Z
  obtain ⟨rfl, I2, K⟩ := hr
  have H : Hf I D w I2 w7 [BxC b4 3 [.int .i64 s0], BxC b3 45 [.slice none 0 0], BxC b2 3 [.int .i64 n0], BxC b1 22 [v1_l], SlC NEEntry v1_l l] := hF2 K
  clear hF2 K
  refine s_runk tRe2 Z 1 rfl rfl ?_; clear Z a; intro a Z
  refine h_call Z H (js := []) rfl (caps := #[]) fn_52_YRe2 rfl rfl rfl rfl rfl (by decide) rfl rfl (fun D1 hS => have hq := c_stamp_next hx3 hS; hq) ?_; clear Z a; intro vv a w8 D2 hr hF2 Z
  obtain ⟨g1, g2, rfl, I3, K⟩ := hr
  have H : Hf I D w I3 w8 [BxC g1 24 [.int .u64 n0_2.1], BxC g2 24 [.int .u64 n0_2.2], BxC b4 3 [.int .i64 s0], BxC b3 45 [.slice none 0 0], BxC b2 3 [.int .i64 n0], BxC b1 22 [v1_l], SlC NEEntry v1_l l] := hF2 K
  clear hF2 K
  refine s_end Z [3, 4, 6, 7, 8, 21] rfl ?_; clear Z; intro Z
  refine p_then (wp_block ?_)
  replace H : Hf I D w I3 w8 [OwC NENote 82 (.slice none 0 0) ([] : List ENote), BxC g1 24 [.int .u64 n0_2.1], BxC g2 24 [.int .u64 n0_2.2], BxC b4 3 [.int .i64 s0], BxC b3 45 [.slice none 0 0], BxC b2 3 [.int .i64 n0], BxC b1 22 [v1_l], SlC NEEntry v1_l l] := H.nilow NENote 82
  replace H := Hf.shutX (f := fun (xv_ : Value) => [BxC b1 22 [v1_l], BxC b2 3 [.int .i64 n0], BxC b3 45 [xv_], BxC b4 3 [.int .i64 s0], SlC NEEntry v1_l l, OwC NENote 82 xv_ ([] : List ENote)]) (.slice none 0 0) H [(6, false), (5, false), (4, false), (3, false), (3, true), (0, false)] rfl
  obtain ⟨r0, hx4, hF⟩ := bnd_in hF
  refine f_rangeFunc (KC := (fun (sg_ : (List ENote) × Int) => ExC fun (xv_ : Value) => [BxC b1 22 [v1_l], BxC b2 3 [.int .i64 n0], BxC b3 45 [xv_], BxC b4 3 [.int .i64 sg_.2], SlC NEEntry v1_l l, OwC NENote 82 xv_ sg_.1])) (s0 := (([] : List ENote), s0)) (enc := (fun (e_ : Int) (v_ : Unit) => .int .u64 e_)) (ech := (fun (e_ : Int) (v_ : Unit) => [])) (c0 := .exit 0) (rr := r0.2) Z H (js := [(0, false), (0, false), (0, false)]) rfl [BxC g1 24 [.int .u64 r0.1], BxC g2 24 [.int .u64 n0_2.2]] fn_68_YRe2 rfl (by decide) ?_ (fun L Y hyk hS => have hq := c_stamp_next_1 hyk hx4 hS; Ret.mono hq fun _ _ h => h.2) ?_
  ·clear hF H Z
   intro m I D w L D0 fn tm e_ v_ sg_ rr a hF Z H
   obtain ⟨out, i⟩ := sg_
   obtain ⟨v2, H⟩ := H.openX 1 rfl
   replace H : Hf I D w I w [BxC b1 22 [v1_l], BxC b2 3 [.int .i64 n0], BxC b3 45 [v2], BxC b4 3 [.int .i64 i], SlC NEEntry v1_l l, OwC NENote 82 v2 out, LpC L (lrec fn tm #[22] _ _ D0 .ready none)] := H
   unfold F_stamp_All_y1 at hF; try dsimp only at hF
   refine f_regionI (by kernel_rfl) (by rintro ⟨_, _, h⟩; exact h) Z ?_; clear Z; intro Z
   refine s_runk tRe2 Z 1 rfl rfl ?_; clear Z a; intro a Z
   refine s_end Z [3, 4, 6, 7, 8, 21, 22, 9] rfl ?_; clear Z; intro Z
   refine p_begin H 6 rfl fun w10 H => ?_
   replace H : Hf I D w I w10 [LpC L (lrec fn tm #[22] _ _ D0 .busy none), BxC b1 22 [v1_l], BxC b2 3 [.int .i64 n0], BxC b3 45 [v2], BxC b4 3 [.int .i64 i], SlC NEEntry v1_l l, OwC NENote 82 v2 out] := H
   refine wpIn_block ?_
   refine wpIn_seq ?_
   obtain ⟨hg1, hF⟩ := chk_in hF
   refine f_regionI (by kernel_rfl) (by rintro ⟨_, _, h⟩; exact h) Z ?_; clear Z; intro Z
   refine s_ob Z (v := v2) rfl rfl (by decide) rfl (Ob_load tRe2 rfl rfl rfl ((H.bx 3 rfl).cell 0 rfl)) ?_; clear Z a; intro a Z
   refine s_ob Z (v := .int .i64 i) rfl rfl (by decide) rfl (Ob_load tRe2 rfl rfl rfl ((H.bx 4 rfl).cell 0 rfl)) ?_; clear Z a; intro a Z
   refine s_runk tRe2 Z 1 rfl rfl ?_; clear Z a; intro a Z
   refine s_ob Z (v := .agg #[.int .i64 3, .int .i64 i, .int .u64 e_, .int .i64 0, .slice none 0 0, .int .u64 0, .slice none 0 0, .int .i64 0, .int .i64 0, .slice none 0 0, .int .u64 0, .int .i64 0, .int .u64 0, .int .i64 0, .int .i64 0, .int .i64 0, .int .i64 0, .int .i64 0]) rfl rfl (by decide) rfl (Ob_build (vs := [(0, .int .i64 3), (1, .int .i64 i), (2, .int .u64 e_)]) rfl rfl (by go_simp <;> rfl)) ?_; clear Z a; intro a Z
   refine h_bslice Z H (vs := [(0, .agg #[.int .i64 3, .int .i64 i, .int .u64 e_, .int .i64 0, .slice none 0 0, .int .u64 0, .slice none 0 0, .int .i64 0, .int .i64 0, .slice none 0 0, .int .u64 0, .int .i64 0, .int .u64 0, .int .i64 0, .int .i64 0, .int .i64 0, .int .i64 0, .int .i64 0])]) (cl := [.int .i64 3, .int .i64 i, .int .u64 e_, .int .i64 0, .slice none 0 0, .int .u64 0, .slice none 0 0, .int .i64 0, .int .i64 0, .slice none 0 0, .int .u64 0, .int .i64 0, .int .u64 0, .int .i64 0, .int .i64 0, .int .i64 0, .int .i64 0, .int .i64 0]) (e := 82) rfl rfl rfl (by decide) rfl rfl (fun w => run_bslice (z := .agg #[.int .i64 0, .int .i64 0, .int .u64 0, .int .i64 0, .slice none 0 0, .int .u64 0, .slice none 0 0, .int .i64 0, .int .i64 0, .slice none 0 0, .int .u64 0, .int .i64 0, .int .u64 0, .int .i64 0, .int .i64 0, .int .i64 0, .int .i64 0, .int .i64 0]) (m := 18) Try.underlying45 (by kernel_rfl) rfl rfl (by decide) (by simp [Instr.fill, Value.cells]) w) ?_; clear Z a H; intro a w11 b5 H Z
   replace H : Hf I D w I w11 [SlC NEMember (.slice none 0 0) ([] : List EMember), BxC b5 82 [.int .i64 3, .int .i64 i, .int .u64 e_, .int .i64 0, .slice none 0 0, .int .u64 0, .slice none 0 0, .int .i64 0, .int .i64 0, .slice none 0 0, .int .u64 0, .int .i64 0, .int .u64 0, .int .i64 0, .int .i64 0, .int .i64 0, .int .i64 0, .int .i64 0], LpC L (lrec fn tm #[22] _ _ D0 .busy none), BxC b1 22 [v1_l], BxC b2 3 [.int .i64 n0], BxC b3 45 [v2], BxC b4 3 [.int .i64 i], SlC NEEntry v1_l l, OwC NENote 82 v2 out] := H.slNil NEMember
   replace H : Hf I D w I w11 [SlC Ni64 (.slice none 0 0) ([] : List Int), SlC NEMember (.slice none 0 0) ([] : List EMember), BxC b5 82 [.int .i64 3, .int .i64 i, .int .u64 e_, .int .i64 0, .slice none 0 0, .int .u64 0, .slice none 0 0, .int .i64 0, .int .i64 0, .slice none 0 0, .int .u64 0, .int .i64 0, .int .u64 0, .int .i64 0, .int .i64 0, .int .i64 0, .int .i64 0, .int .i64 0], LpC L (lrec fn tm #[22] _ _ D0 .busy none), BxC b1 22 [v1_l], BxC b2 3 [.int .i64 n0], BxC b3 45 [v2], BxC b4 3 [.int .i64 i], SlC NEEntry v1_l l, OwC NENote 82 v2 out] := H.slNil Ni64
   replace H : Hf I D w I w11 [SlC NEOp (.slice none 0 0) ([] : List EOp), SlC Ni64 (.slice none 0 0) ([] : List Int), SlC NEMember (.slice none 0 0) ([] : List EMember), BxC b5 82 [.int .i64 3, .int .i64 i, .int .u64 e_, .int .i64 0, .slice none 0 0, .int .u64 0, .slice none 0 0, .int .i64 0, .int .i64 0, .slice none 0 0, .int .u64 0, .int .i64 0, .int .u64 0, .int .i64 0, .int .i64 0, .int .i64 0, .int .i64 0, .int .i64 0], LpC L (lrec fn tm #[22] _ _ D0 .busy none), BxC b1 22 [v1_l], BxC b2 3 [.int .i64 n0], BxC b3 45 [v2], BxC b4 3 [.int .i64 i], SlC NEEntry v1_l l, OwC NENote 82 v2 out] := H.slNil NEOp
   refine h_appO Z H 10 E_45_YRe2 [({ (default : ENote) with k := 3, n := i, at_ := e_ } : ENote)] rfl rfl rfl rfl rfl (by decide) rfl rfl rfl (slRep2.box1 (H.bx 3 rfl) ⟨_, _, _, rfl, (H.sl 2 rfl), (H.sl 1 rfl), (H.sl 0 rfl)⟩) hg1 (by decide) ?_; clear Z a H; intro v3 a w12 H Z
   dsimp only [List.eraseIdx] at H
   replace H : Hf I D w I w12 [OwC NENote 82 v3 (out ++ [({ (default : ENote) with k := 3, n := i, at_ := e_ } : ENote)]), SlC NEOp (.slice none 0 0) ([] : List EOp), SlC Ni64 (.slice none 0 0) ([] : List Int), SlC NEMember (.slice none 0 0) ([] : List EMember), LpC L (lrec fn tm #[22] _ _ D0 .busy none), BxC b1 22 [v1_l], BxC b2 3 [.int .i64 n0], BxC b3 45 [v2], BxC b4 3 [.int .i64 i], SlC NEEntry v1_l l] := H.sub [(0, false), (0, true), (1, true), (2, true), (4, false), (4, false), (4, false), (4, false), (4, false), (4, true)] rfl
   refine h_store tRe2 Z H 7 rfl rfl rfl rfl rfl rfl (slS.cells (H.owshape 0 rfl)) rfl rfl (one_cons (slS.one (H.owshape 0 rfl)) one_nil) (Nat.le_of_ble_eq_true rfl) rfl ?_; clear H; intro w13 H
   dsimp only [List.eraseIdx] at H
   refine s_end Z [3, 4, 6, 7, 8, 21, 22, 9, 23, 24, 25, 26, 27, 28] rfl ?_; clear Z; intro Z
   refine p_then ?_
   refine wpIn_seq ?_
   obtain ⟨hg2, hF⟩ := chk_in hF
   refine f_regionI (by kernel_rfl) (by rintro ⟨_, _, h⟩; exact h) Z ?_; clear Z; intro Z
   refine s_ob Z (v := .int .i64 i) rfl rfl (by decide) rfl (Ob_load tRe2 rfl rfl rfl ((H.bx 8 rfl).cell 0 rfl)) ?_; clear Z a; intro a Z
   refine s_ob Z (v := .int .i64 (i + 1)) rfl rfl (by decide) rfl (Ob_add rfl rfl rfl (wrI hg2)) ?_; clear Z a; intro a Z
   refine h_store tRe2 Z H 8 rfl rfl rfl rfl rfl rfl rfl rfl rfl (one_cons rfl one_nil) (Nat.le_of_ble_eq_true rfl) rfl ?_; clear H; intro w14 H
   dsimp only [List.eraseIdx] at H
   refine s_end Z [3, 4, 6, 7, 8, 21, 22, 9, 23, 24, 25, 26, 27, 28, 29, 30] rfl ?_; clear Z; intro Z
   refine p_then ?_
   refine wpIn_seq ?_
   refine f_regionI (by kernel_rfl) (by rintro ⟨_, _, h⟩; exact h) Z ?_; clear Z; intro Z
   refine s_ob Z (v := .int .i64 (i + 1)) rfl rfl (by decide) rfl (Ob_load tRe2 rfl rfl rfl ((H.bx 0 rfl).cell 0 rfl)) ?_; clear Z a; intro a Z
   refine s_ob Z (v := .int .i64 n0) rfl rfl (by decide) rfl (Ob_load tRe2 rfl rfl rfl ((H.bx 8 rfl).cell 0 rfl)) ?_; clear Z a; intro a Z
   refine s_ob Z (v := v1_l) rfl rfl (by decide) rfl (Ob_load tRe2 rfl rfl rfl ((H.bx 7 rfl).cell 0 rfl)) ?_; clear Z a; intro a Z
   refine s_ob Z (v := .int .i64 (l.length : Int)) rfl rfl (by decide) rfl (Ob_slen tRe2 rfl rfl rfl (H.slshape 9 rfl)) ?_; clear Z a; intro a Z
   refine s_runk tRe2 Z 2 rfl rfl ?_; clear Z a; intro a Z
   refine s_end Z [3, 4, 6, 7, 8, 21, 22, 9, 23, 24, 25, 26, 27, 28, 29, 30, 31, 32, 33, 34, 35, 36] rfl ?_; clear Z; intro Z
   refine p_then ?_
   refine f_condI Z rfl (fun hc2 => ?_) (fun hc2 => ?_)
   ·replace hF := ite_t hc2 hF
    refine wpIn_exit ?_
    refine f_exit_out (by decide) ?_
    refine y_exit H 6 rfl fun w15 H => ?_
    obtain rfl := some_in hF
    exact ⟨rfl, I, ((Hf.shutX (f := fun (xv_ : Value) => [BxC b1 22 [v1_l], BxC b2 3 [.int .i64 n0], BxC b3 45 [xv_], BxC b4 3 [.int .i64 (i + 1)], SlC NEEntry v1_l l, OwC NENote 82 xv_ (out ++ [({ (default : ENote) with k := 3, n := i, at_ := e_ } : ENote)])]) v3 H [(7, false), (7, false), (2, false), (1, false), (5, true), (1, false)] rfl).sub [(1, false), (0, false)] rfl).eq rfl⟩
   ·replace hF := ite_f hc2 hF
    refine wpIn_skip ?_
    refine p_blk ?_
    refine y_norm H 6 rfl fun w16 H => ?_
    obtain rfl := some_in hF
    exact ⟨rfl, I, ((Hf.shutX (f := fun (xv_ : Value) => [BxC b1 22 [v1_l], BxC b2 3 [.int .i64 n0], BxC b3 45 [xv_], BxC b4 3 [.int .i64 (i + 1)], SlC NEEntry v1_l l, OwC NENote 82 xv_ (out ++ [({ (default : ENote) with k := 3, n := i, at_ := e_ } : ENote)])]) v3 H [(7, false), (7, false), (2, false), (1, false), (5, true), (1, false)] rfl).sub [(1, false), (0, false)] rfl).eq rfl⟩
  ·intro D0_1 a w17 I5 Z H
   obtain ⟨v4, H⟩ := H.openX 1 rfl
   replace H : Hf I D w I5 w17 [BxC b1 22 [v1_l], BxC b2 3 [.int .i64 n0], BxC b3 45 [v4], BxC b4 3 [.int .i64 r0.2.2.2], SlC NEEntry v1_l l, OwC NENote 82 v4 r0.2.2.1, DfC D0_1, BxC g1 24 [.int .u64 r0.1], BxC g2 24 [.int .u64 n0_2.2], SlC NEEntry v1_l l] := H
   refine ⟨fun hc3 => ?_, fun hc3 => ?_⟩
   ·replace hF := ite_t hc3 hF
    refine p_blk ?_
    refine p_then (wp_seq (f_region Z ?_)); clear Z; intro Z
    refine s_ob Z (v := v4) rfl rfl (by decide) rfl (Ob_load tRe2 rfl rfl rfl ((H.bx 2 rfl).cell 0 rfl)) ?_; clear Z a; intro a Z
    refine s_runk tRe2 Z 1 rfl rfl ?_; clear Z a; intro a Z
    refine s_end Z [6] rfl ?_; clear Z; intro Z
    refine p_then (wp_ret ?_)
    refine f_retM Z H 6 rfl fun w18 H => ?_
    replace H : Hf I D w I5 w18 [ObC D0_1 (.deferred none), BxC b1 22 [v1_l], BxC b2 3 [.int .i64 n0], BxC b3 45 [v4], BxC b4 3 [.int .i64 r0.2.2.2], SlC NEEntry v1_l l, OwC NENote 82 v4 r0.2.2.1, BxC g1 24 [.int .u64 r0.1], BxC g2 24 [.int .u64 n0_2.2], SlC NEEntry v1_l l] := H
    obtain ⟨I6, _, H⟩ := H.frzow 6 rfl
    replace H : Hf I D w I6 w18 [SlC NENote v4 r0.2.2.1, ObC D0_1 (.deferred none), BxC b1 22 [v1_l], BxC b2 3 [.int .i64 n0], BxC b3 45 [v4], BxC b4 3 [.int .i64 r0.2.2.2], SlC NEEntry v1_l l, BxC g1 24 [.int .u64 r0.1], BxC g2 24 [.int .u64 n0_2.2], SlC NEEntry v1_l l] := H
    obtain rfl := some_in hF
    exact ⟨_, (run_results1 rfl Z rfl), v4, rfl, I6, (H.sub [(0, true)] rfl).eq rfl⟩
   ·replace hF := ite_f hc3 hF
    refine wp_exit ?_
    refine f_exit_here ?_
    refine p_then (wp_seq (f_region Z ?_)); clear Z; intro Z
    refine s_ob Z (v := v4) rfl rfl (by decide) rfl (Ob_load tRe2 rfl rfl rfl ((H.bx 2 rfl).cell 0 rfl)) ?_; clear Z a; intro a Z
    refine s_runk tRe2 Z 1 rfl rfl ?_; clear Z a; intro a Z
    refine s_end Z [6] rfl ?_; clear Z; intro Z
    refine p_then (wp_ret ?_)
    refine f_retM Z H 6 rfl fun w19 H => ?_
    replace H : Hf I D w I5 w19 [ObC D0_1 (.deferred none), BxC b1 22 [v1_l], BxC b2 3 [.int .i64 n0], BxC b3 45 [v4], BxC b4 3 [.int .i64 r0.2.2.2], SlC NEEntry v1_l l, OwC NENote 82 v4 r0.2.2.1, BxC g1 24 [.int .u64 r0.1], BxC g2 24 [.int .u64 n0_2.2], SlC NEEntry v1_l l] := H
    obtain ⟨I7, _, H⟩ := H.frzow 6 rfl
    replace H : Hf I D w I7 w19 [SlC NENote v4 r0.2.2.1, ObC D0_1 (.deferred none), BxC b1 22 [v1_l], BxC b2 3 [.int .i64 n0], BxC b3 45 [v4], BxC b4 3 [.int .i64 r0.2.2.2], SlC NEEntry v1_l l, BxC g1 24 [.int .u64 r0.1], BxC g2 24 [.int .u64 n0_2.2], SlC NEEntry v1_l l] := H
    obtain rfl := some_in hF
    exact ⟨_, (run_results1 rfl Z rfl), v4, rfl, I7, (H.sub [(0, true)] rfl).eq rfl⟩

end Go.Proofs.Ytmdoimpeacndaaa
