/- Many versions: the law MvccState walked. -/
import Derived.Test.YtfefmdllnjpmgaaYMW
namespace Go.Proofs.Ytfefmdllnjpmgaa
open Go.RowKit
def tMWStateL : TabL := ⟨[(32769, 1), (32770, 2)], [], [], [(22, (32, 6))], [(23, (1, false)), (30, (1, false))]⟩

def tMWState : Tab Try.prog := ⟨tMWStateL, by kernel_rfl⟩

theorem fn_8_YMWState : IsFn Try.prog 8 := ⟨_, Try.func8, by kernel_rfl, by kernel_rfl⟩

theorem fn_9_YMWState : IsFn Try.prog 9 := ⟨_, Try.func9, by kernel_rfl, by kernel_rfl⟩

theorem fn_10_YMWState : IsFn Try.prog 10 := ⟨_, Try.func10, by kernel_rfl, by kernel_rfl⟩

theorem fn_11_YMWState : IsFn Try.prog 11 := ⟨_, Try.func11, by kernel_rfl, by kernel_rfl⟩

theorem fn_12_YMWState : IsFn Try.prog 12 := ⟨_, Try.func12, by kernel_rfl, by kernel_rfl⟩

theorem fn_13_YMWState : IsFn Try.prog 13 := ⟨_, Try.func13, by kernel_rfl, by kernel_rfl⟩

theorem fn_15_YMWState : IsFn Try.prog 15 := ⟨_, Try.func15, by kernel_rfl, by kernel_rfl⟩

def F_law16_MvccState_k2 (i : Int) (rc : ((List EPair) × Int × Emvcc_Store) → Option Bool) (l_2 : List EPair) (x : List EOp) (x_2 : Int) (x_3 : Bool) (x_4 : Bool) (x_5 : Bool) (s0_2 : Emvcc_Store) : Option Bool := chk (inI (i + 1)) (rc (l_2, i + 1, s0_2))

def F_law16_MvccState_l1 (first : List Elaw16_Act) (t : Int) (rc : ((List EPair) × Int × Emvcc_Store) → Option Bool) (sg : (List EPair) × Int × Emvcc_Store) : Option Bool := match sg with | (l, i, s0) => if ((decide (i < (first.length : Int))) && (decide (i < 30))) = true then (chk ((0 : Int) ≤ i ∧ i < (first.length : Int)) (chk ((0 : Int) ≤ i ∧ i < (first.length : Int)) ((F_mvcc_Store_Put s0 ((first.getD (i).toNat default).t) ((first.getD (i).toNat default).ops)).bind fun p => (chk ((p.1 == 0) = true → (0 : Int) ≤ i ∧ i < (first.length : Int)) (if ((p.1 == 0) && (decide ((first.getD (i).toNat default).t ≤ t))) = true then (chk ((0 : Int) ≤ i ∧ i < (first.length : Int)) ((F_ref06_Over l ((first.getD (i).toNat default).ops)).bind fun o => (F_law16_MvccState_k2 i rc o ((first.getD (i).toNat default).ops) p.1 (p.1 == 0) (p.1 == 0) ((p.1 == 0) && (decide ((first.getD (i).toNat default).t ≤ t))) p.2))) else (F_law16_MvccState_k2 i rc l ((first.getD (i).toNat default).ops) p.1 (p.1 == 0) (p.1 == 0) ((p.1 == 0) && (decide ((first.getD (i).toNat default).t ≤ t))) p.2)))))) else ((F_mvcc_Store_Scan s0 ⟨#[]⟩ ⟨#[]⟩ t 1000).bind fun s0_3 => ((F_ref06_SamePairs s0_3.1 l).bind fun s0_4 => ((gif (s0_4 && (!s0_3.2.1)) (F_law16_awake) default).bind fun a0_2 => (some ((s0_4 && (!s0_3.2.1)) && a0_2)))))

def F_law16_MvccState (first : List Elaw16_Act) (t : Int) : Option Bool := (F_law16_few first).bind fun f => (if (!f) = true then ((F_law16_awake).bind fun a0 => (some a0)) else ((F_mvcc_New).bind fun n0 => (iter (F_law16_MvccState_l1 first t) FU (([] : List EPair), 0, n0))))

set_option maxHeartbeats 1000000 in
theorem c_law16_MvccState {I D : Dm} {first : List Elaw16_Act} {v1_first : Value} {t : Int} {w : World} {rr : Bool} (hF : F_law16_MvccState first t = some rr) (H : St I D w [SlC NElaw16_Act v1_first first]) :
  Calls Try.prog 4 #[v1_first, .int .u64 t] w (Ret fun vv w' => vv = .bool rr ∧ ∃ I', Hf I D w I' w' []) := by
 replace H := H.hf
 unfold F_law16_MvccState at hF
 refine f_enter 70 Try.func4 rfl rfl (Nat.le_of_ble_eq_true rfl) fun a Z => ?_
 replace Z := Z.sub (ts := [0, 1]) rfl
 refine wp_seq (f_region Z ?_); clear Z; intro Z
 refine s_runk tMWState Z 1 rfl rfl ?_; clear Z a; intro a Z
 refine s_end Z [0, 1, 4] rfl ?_; clear Z; intro Z
 refine p_then (wp_seq ?_)
 refine wp_seq ?_
 obtain ⟨f, hx1, hF⟩ := bnd_in hF
 refine f_region Z ?_; clear Z; intro Z
 refine s_runk tMWState Z 1 rfl rfl ?_; clear Z a; intro a Z
 refine h_call Z H (js := [(0, true)]) rfl (caps := #[]) fn_8_YMWState rfl rfl rfl rfl rfl (by decide) rfl rfl (fun D1 hS => have hq := c_law16_few hx1 hS; hq) ?_; clear Z a; intro vv a w1 D2 hr hF2 Z
 obtain ⟨rfl, I1, K⟩ := hr
 have H : Hf I D w I1 w1 [SlC NElaw16_Act v1_first first] := hF2 K
 clear hF2 K
 refine s_runk tMWState Z 1 rfl rfl ?_; clear Z a; intro a Z
 refine s_end Z [0, 1, 4, 12] rfl ?_; clear Z; intro Z
 refine p_then ?_
 refine f_cond Z rfl (fun hc1 => ?_) (fun hc1 => ?_)
 ·replace hF := ite_t hc1 hF
  refine wp_seq ?_
  obtain ⟨a0, hx2, hF⟩ := bnd_in hF
  refine f_region Z ?_; clear Z; intro Z
  refine h_call Z H (js := []) rfl (caps := #[]) fn_9_YMWState rfl rfl rfl rfl rfl (by decide) rfl rfl (fun D1 hS => have hq := c_law16_awake hx2 hS; hq) ?_; clear Z a; intro vv a w2 D2 hr hF2 Z
  obtain ⟨rfl, I2, K⟩ := hr
  have H : Hf I D w I2 w2 [SlC NElaw16_Act v1_first first] := hF2 K
  clear hF2 K
  refine s_runk tMWState Z 1 rfl rfl ?_; clear Z a; intro a Z
  refine s_end Z [0, 1, 4] rfl ?_; clear Z; intro Z
  refine p_then (wp_ret ?_)
  refine p_then_r ?_
  obtain rfl := some_in hF
  exact f_ret Z (run_results1 rfl Z rfl) ⟨rfl, I2, (H.sub [] rfl).eq rfl⟩
 ·replace hF := ite_f hc1 hF
  refine wp_skip ?_
  refine p_then (wp_seq ?_)
  obtain ⟨n0, hx3, hF⟩ := bnd_in hF
  refine f_region Z ?_; clear Z; intro Z
  refine h_call Z H (js := []) rfl (caps := #[]) fn_10_YMWState rfl rfl rfl rfl rfl (by decide) rfl rfl (fun D1 hS => have hq := c_mvcc_New hx3 hS; hq) ?_; clear Z a; intro vv a w3 D2 hr hF2 Z
  obtain ⟨g1, rfl, I3, K⟩ := hr
  have H : Hf I D w I3 w3 [OEmvcc_Store g1 n0, SlC NElaw16_Act v1_first first] := hF2 K
  clear hF2 K
  refine s_runk tMWState Z 1 rfl rfl ?_; clear Z a; intro a Z
  refine s_end Z [0, 1, 4, 5] rfl ?_; clear Z; intro Z
  refine p_then (wp_seq (f_region Z ?_)); clear Z; intro Z
  refine s_runk tMWState Z 1 rfl rfl ?_; clear Z a; intro a Z
  refine s_end Z [0, 1, 4, 5, 6] rfl ?_; clear Z; intro Z
  refine p_then (wp_seq ?_)
  refine wp_seq (f_region Z ?_); clear Z; intro Z
  refine s_runk tMWState Z 1 rfl rfl ?_; clear Z a; intro a Z
  refine s_end Z [0, 1, 4, 5, 6, 7] rfl ?_; clear Z; intro Z
  refine p_then (wp_block ?_)
  replace H : Hf I D w I3 w3 [SlC NEPair (.slice none 0 0) ([] : List EPair), OEmvcc_Store g1 n0, SlC NElaw16_Act v1_first first] := H.slNil NEPair
  refine f_iter hF (fun sg a' w' => match sg with | (l, i, s0) => ∃ v2 : Value, Sl 70 [(0, v1_first), (1, .int .u64 t), (4, .bool false), (5, .pointer (some ⟨g1, 0, none⟩)), (6, v2), (7, .int .i64 i)] a' ∧ ∃ I2, Hf I D w I2 w' [OEmvcc_Store g1 s0, SlC NElaw16_Act v1_first first, SlC NEPair v2 l]) ⟨.slice none 0 0, Z.sub (ts := [0, 1, 4, 5, 6, 7]) rfl, ⟨I3, (H.sub [(1, false), (1, true), (0, true)] rfl).eq rfl⟩⟩ ?_
  clear Z H hF a
  rintro rc ⟨l, i, s0⟩ a w4 ⟨v2, Z, I4, H⟩ hF
  unfold F_law16_MvccState_l1 at hF
  try dsimp only at hF
  refine wp_seq ?_
  refine wp_seq (f_region Z ?_); clear Z; intro Z
  refine s_runk tMWState Z 2 rfl rfl ?_; clear Z a; intro a Z
  refine s_ob Z (v := .int .i64 (first.length : Int)) rfl rfl (by decide) rfl (Ob_slen tMWState rfl rfl rfl (H.slshape 1 rfl)) ?_; clear Z a; intro a Z
  refine s_runk tMWState Z 2 rfl rfl ?_; clear Z a; intro a Z
  refine g_ob Z (p := (decide (i < (first.length : Int)))) (v := .int .i64 i) (S' := [(7, .int .i64 i)]) rfl rfl rfl (wantB_t _) rfl (by decide) (fun hp hS => hS.sub (ts := [7]) rfl) (fun hp => Ob_c tMWState rfl) ?_; clear Z a; intro a Z
  refine g_ob Z (p := (decide (i < (first.length : Int)))) (v := .bool (decide (i < 30))) (S' := [(20, .int .i64 i)]) rfl rfl rfl (wantB_t _) rfl (by decide) (fun hp hS => (hS.conv (t := 20) rfl (cond_t hp)).sub (ts := [20]) rfl) (fun hp => Ob_c tMWState rfl) ?_; clear Z a; intro a Z
  refine s_ob Z (v := .bool ((decide (i < (first.length : Int))) && (decide (i < 30)))) rfl rfl (by decide) rfl (Ob_pick rfl rfl rfl rfl (pick_and _ _)) ?_; clear Z a; intro a Z
  refine s_end Z [0, 1, 4, 5, 6, 7, 15, 16, 17, 18, 19, 22] rfl ?_; clear Z; intro Z
  refine p_then ?_
  refine f_cond Z rfl (fun hc2 => ?_) (fun hc2 => ?_)
  ·replace hF := ite_t hc2 hF
   refine wp_skip ?_
   refine p_then ?_
   refine f_cut (fun a' w' => ∃ (l_2 : List EPair) (x : List EOp) (x_2 : Int) (x_3 : Bool) (x_4 : Bool) (x_5 : Bool) (s0_2 : Emvcc_Store), ∃ v3 v4 : Value, Sl 70 [(0, v1_first), (1, .int .u64 t), (4, .bool false), (5, .pointer (some ⟨g1, 0, none⟩)), (6, v3), (7, .int .i64 i), (15, .int .i64 i), (16, v1_first), (17, .int .i64 (first.length : Int)), (18, .bool (decide (i < (first.length : Int)))), (19, .bool (decide (i < (first.length : Int)))), (22, .bool ((decide (i < (first.length : Int))) && (decide (i < 30)))), (25, .pointer (some ⟨g1, 0, none⟩)), (26, v1_first), (27, .int .i64 i), (28, .pointer (some ⟨blkOf v1_first, oofOf v1_first + (i).toNat * 6, none⟩)), (29, .pointer (some ⟨blkOf v1_first, oofOf v1_first + (i).toNat * 6 + 1, none⟩)), (30, .int .u64 ((first.getD (i).toNat default).t)), (31, v1_first), (32, .int .i64 i), (33, .pointer (some ⟨blkOf v1_first, oofOf v1_first + (i).toNat * 6, none⟩)), (34, .pointer (some ⟨blkOf v1_first, oofOf v1_first + (i).toNat * 6 + 2, none⟩)), (35, v4), (36, .int .i64 x_2), (37, .bool x_3), (38, .bool x_4), (46, .bool x_5)] a' ∧ (∃ I2, Hf I D w I2 w' [OEmvcc_Store g1 s0_2, SlC NElaw16_Act v1_first first, SlC NEPair v3 l_2, SlC NEOp v4 x]) ∧ F_law16_MvccState_k2 i rc l_2 x x_2 x_3 x_4 x_5 s0_2 = some rr) ?_ ?_
   ·rintro a w5 ⟨l_2, x, x_2, x_3, x_4, x_5, s0_2, v3, v4, Z, ⟨I5, H⟩, hF⟩
    unfold F_law16_MvccState_k2 at hF
    try dsimp only at hF
    obtain ⟨hg1, hF⟩ := chk_in hF
    refine f_region Z ?_; clear Z; intro Z
    refine s_runk tMWState Z 1 rfl rfl ?_; clear Z a; intro a Z
    refine s_ob Z (v := .int .i64 (i + 1)) rfl rfl (by decide) rfl (Ob_add rfl rfl rfl (wrI hg1)) ?_; clear Z a; intro a Z
    refine s_runk tMWState Z 1 rfl rfl ?_; clear Z a; intro a Z
    refine s_end Z [0, 1, 4, 5, 6, 7, 15, 16, 17, 18, 19, 22, 25, 26, 27, 28, 29, 30, 31, 32, 33, 34, 35, 36, 37, 38, 46, 23, 24] rfl ?_; clear Z; intro Z
    refine p_then ?_
    exact ⟨(l_2, i + 1, s0_2), ⟨v3, Z.sub (ts := [0, 1, 4, 5, 6, 7]) rfl, ⟨I5, (H.sub [(0, false), (0, true), (1, true)] rfl).eq rfl⟩⟩, hF⟩
   ·skip
    refine wp_block ?_
    refine wp_seq ?_
    obtain ⟨hg2, hF⟩ := chk_in hF
    obtain ⟨_, ⟨u1, rfl, L1⟩, H⟩ := H.elG 1 rfl (i) (NElaw16_Act.dft _ _)
    replace H := H.addsl L1
    replace H : Hf I D w I4 w4 [SlC NEOp u1 ((first.getD (i).toNat default).ops), AtG ((0 : Int) ≤ i ∧ i < (first.length : Int)) (blkOf v1_first) (oofOf v1_first + (i).toNat * 6) [.int .i64 ((first.getD (i).toNat default).c), .int .u64 ((first.getD (i).toNat default).t), u1, .string ((first.getD (i).toNat default).k), .string ((first.getD (i).toNat default).to_), .int .i64 ((first.getD (i).toNat default).n)], OEmvcc_Store g1 s0, SlC NElaw16_Act v1_first first, SlC NEPair v2 l] := H
    obtain ⟨hg3, hF⟩ := chk_in hF
    obtain ⟨p, hx4, hF⟩ := bnd_in hF
    obtain ⟨hg4, hF⟩ := chk_in hF
    refine f_regionL Z (by kernel_rfl) (by kernel_rfl) (by decide) (by decide) [11] [(0, 0, 0), (0, 0, 0), (0, 0, 0), (6, 0, 0), (14, 0, 0), (30, 0, 0), (0, 0, 0), (0, 0, 0), (192, 0, 0), (448, 0, 0), (960, 0, 0), (2047, 0, 0), (4095, 1, 1), (8191, 1, 1), (16383, 1, 1), (16383, 1, 1), (65535, 1, 1), (131071, 1, 1), (262143, 1, 1), (16383, 1, 1), (1048575, 1, 1), (2097151, 1, 1)] (by kernel_rfl) (fun jj vv => cond (Nat.blt jj 11) (cond (Nat.blt jj 5) (cond (Nat.blt jj 2) (cond (Nat.blt jj 1) (vv = .pointer (some ⟨g1, 0, none⟩)) (vv = v1_first)) (cond (Nat.blt jj 3) (vv = .int .i64 i) (cond (Nat.blt jj 4) (vv = .pointer (some ⟨blkOf v1_first, oofOf v1_first + (i).toNat * 6, none⟩)) (vv = .pointer (some ⟨blkOf v1_first, oofOf v1_first + (i).toNat * 6 + 1, none⟩))))) (cond (Nat.blt jj 8) (cond (Nat.blt jj 6) (vv = .int .u64 ((first.getD (i).toNat default).t)) (cond (Nat.blt jj 7) (vv = v1_first) (vv = .int .i64 i))) (cond (Nat.blt jj 9) (vv = .pointer (some ⟨blkOf v1_first, oofOf v1_first + (i).toNat * 6, none⟩)) (cond (Nat.blt jj 10) (vv = .pointer (some ⟨blkOf v1_first, oofOf v1_first + (i).toNat * 6 + 2, none⟩)) (vv = u1))))) (cond (Nat.blt jj 16) (cond (Nat.blt jj 13) (cond (Nat.blt jj 12) (vv = .int .i64 p.1) (vv = .bool (p.1 == 0))) (cond (Nat.blt jj 14) (vv = .bool (p.1 == 0)) (cond (Nat.blt jj 15) (vv = cond (p.1 == 0) (v1_first) undef) (vv = cond (p.1 == 0) (.int .i64 i) undef)))) (cond (Nat.blt jj 19) (cond (Nat.blt jj 17) (vv = cond (p.1 == 0) (.pointer (some ⟨blkOf v1_first, oofOf v1_first + (i).toNat * 6, none⟩)) undef) (cond (Nat.blt jj 18) (vv = cond (p.1 == 0) (.pointer (some ⟨blkOf v1_first, oofOf v1_first + (i).toNat * 6 + 1, none⟩)) undef) (vv = cond (p.1 == 0) (.int .u64 ((first.getD (i).toNat default).t)) undef))) (cond (Nat.blt jj 20) (vv = cond (p.1 == 0) (.int .u64 t) undef) (cond (Nat.blt jj 21) (vv = cond (p.1 == 0) (.bool (decide ((first.getD (i).toNat default).t ≤ t))) undef) (vv = .bool ((p.1 == 0) && (decide ((first.getD (i).toNat default).t ≤ t))))))))) (fun ss vals1 xw => match ss with | 0 => Gx I D w I4 w4 xw [SlC NEOp u1 ((first.getD (i).toNat default).ops), AtG ((0 : Int) ≤ i ∧ i < (first.length : Int)) (blkOf v1_first) (oofOf v1_first + (i).toNat * 6) [.int .i64 ((first.getD (i).toNat default).c), .int .u64 ((first.getD (i).toNat default).t), u1, .string ((first.getD (i).toNat default).k), .string ((first.getD (i).toNat default).to_), .int .i64 ((first.getD (i).toNat default).n)], OEmvcc_Store g1 s0, SlC NElaw16_Act v1_first first, SlC NEPair v2 l] | _ => Gx I D w I4 w4 xw [OEmvcc_Store g1 p.2, SlC NEOp u1 ((first.getD (i).toNat default).ops), AtG ((0 : Int) ≤ i ∧ i < (first.length : Int)) (blkOf v1_first) (oofOf v1_first + (i).toNat * 6) [.int .i64 ((first.getD (i).toNat default).c), .int .u64 ((first.getD (i).toNat default).t), u1, .string ((first.getD (i).toNat default).k), .string ((first.getD (i).toNat default).to_), .int .i64 ((first.getD (i).toNat default).n)], SlC NElaw16_Act v1_first first, SlC NEPair v2 l]) (fun _ => Gx.start H) ?_ ?_
    ·intro fr hfr hfe
     refine .cons (fun ss hlo hhi vals1 xw hG hV => ?_) ?_
     ·obtain rfl : ss = 0 := Nat.le_antisymm hhi hlo
      rw [← hfe]
      have hS := (hfr vals1).sub (ts := [5]) (S' := [(5, .pointer (some ⟨g1, 0, none⟩))]) rfl
      exact L_val hS rfl (Ob_c tMWState rfl) ⟨rfl, hG⟩
     refine .cons (fun ss hlo hhi vals1 xw hG hV => ?_) ?_
     ·obtain rfl : ss = 0 := Nat.le_antisymm hhi hlo
      rw [← hfe]
      have hS := (hfr vals1).sub (ts := [0]) (S' := [(0, v1_first)]) rfl
      exact L_val hS rfl (Ob_c tMWState rfl) ⟨rfl, hG⟩
     refine .cons (fun ss hlo hhi vals1 xw hG hV => ?_) ?_
     ·obtain rfl : ss = 0 := Nat.le_antisymm hhi hlo
      rw [← hfe]
      have hS := (hfr vals1).sub (ts := [7]) (S' := [(7, .int .i64 i)]) rfl
      exact L_val hS rfl (Ob_c tMWState rfl) ⟨rfl, hG⟩
     refine .cons (fun ss hlo hhi vals1 xw hG hV => ?_) ?_
     ·obtain rfl : ss = 0 := Nat.le_antisymm hhi hlo
      rw [← hfe]
      have hS := (hfr vals1).sub (ts := [26, 27]) (S' := [(26, vals1 1), (27, vals1 2)]) rfl
      replace hS := hS.conv (t := 26) rfl (show (vals1 1) = v1_first from hV 1 (by decide))
      replace hS := hS.conv (t := 27) rfl (show (vals1 2) = .int .i64 i from hV 2 (by decide))
      obtain ⟨I2, hI2, H⟩ := Gx.ex hG
      exact L_val hS rfl (Ob_sidx tMWState rfl rfl rfl rfl (slPl (H.sl 3 rfl) hg2) hg2) ⟨rfl, hG⟩
     refine .cons (fun ss hlo hhi vals1 xw hG hV => ?_) ?_
     ·obtain rfl : ss = 0 := Nat.le_antisymm hhi hlo
      rw [← hfe]
      have hS := (hfr vals1).sub (ts := [28]) (S' := [(28, vals1 3)]) rfl
      replace hS := hS.conv (t := 28) rfl (show (vals1 3) = .pointer (some ⟨blkOf v1_first, oofOf v1_first + (i).toNat * 6, none⟩) from hV 3 (by decide))
      exact L_val hS rfl (Ob_c tMWState rfl) ⟨rfl, hG⟩
     refine .cons (fun ss hlo hhi vals1 xw hG hV => ?_) ?_
     ·obtain rfl : ss = 0 := Nat.le_antisymm hhi hlo
      rw [← hfe]
      have hS := (hfr vals1).sub (ts := [29]) (S' := [(29, vals1 4)]) rfl
      replace hS := hS.conv (t := 29) rfl (show (vals1 4) = .pointer (some ⟨blkOf v1_first, oofOf v1_first + (i).toNat * 6 + 1, none⟩) from hV 4 (by decide))
      obtain ⟨I2, hI2, H⟩ := Gx.ex hG
      exact L_val hS rfl (Ob_load tMWState rfl rfl rfl ((H.atg 1 rfl hg2) 1 _ rfl)) ⟨rfl, hG⟩
     refine .cons (fun ss hlo hhi vals1 xw hG hV => ?_) ?_
     ·obtain rfl : ss = 0 := Nat.le_antisymm hhi hlo
      rw [← hfe]
      have hS := (hfr vals1).sub (ts := [0]) (S' := [(0, v1_first)]) rfl
      exact L_val hS rfl (Ob_c tMWState rfl) ⟨rfl, hG⟩
     refine .cons (fun ss hlo hhi vals1 xw hG hV => ?_) ?_
     ·obtain rfl : ss = 0 := Nat.le_antisymm hhi hlo
      rw [← hfe]
      have hS := (hfr vals1).sub (ts := [7]) (S' := [(7, .int .i64 i)]) rfl
      exact L_val hS rfl (Ob_c tMWState rfl) ⟨rfl, hG⟩
     refine .cons (fun ss hlo hhi vals1 xw hG hV => ?_) ?_
     ·obtain rfl : ss = 0 := Nat.le_antisymm hhi hlo
      rw [← hfe]
      have hS := (hfr vals1).sub (ts := [31, 32]) (S' := [(31, vals1 6), (32, vals1 7)]) rfl
      replace hS := hS.conv (t := 31) rfl (show (vals1 6) = v1_first from hV 6 (by decide))
      replace hS := hS.conv (t := 32) rfl (show (vals1 7) = .int .i64 i from hV 7 (by decide))
      obtain ⟨I2, hI2, H⟩ := Gx.ex hG
      exact L_val hS rfl (Ob_sidx tMWState rfl rfl rfl rfl (slPl (H.sl 3 rfl) hg3) hg3) ⟨rfl, hG⟩
     refine .cons (fun ss hlo hhi vals1 xw hG hV => ?_) ?_
     ·obtain rfl : ss = 0 := Nat.le_antisymm hhi hlo
      rw [← hfe]
      have hS := (hfr vals1).sub (ts := [33]) (S' := [(33, vals1 8)]) rfl
      replace hS := hS.conv (t := 33) rfl (show (vals1 8) = .pointer (some ⟨blkOf v1_first, oofOf v1_first + (i).toNat * 6, none⟩) from hV 8 (by decide))
      exact L_val hS rfl (Ob_c tMWState rfl) ⟨rfl, hG⟩
     refine .cons (fun ss hlo hhi vals1 xw hG hV => ?_) ?_
     ·obtain rfl : ss = 0 := Nat.le_antisymm hhi hlo
      rw [← hfe]
      have hS := (hfr vals1).sub (ts := [34]) (S' := [(34, vals1 9)]) rfl
      replace hS := hS.conv (t := 34) rfl (show (vals1 9) = .pointer (some ⟨blkOf v1_first, oofOf v1_first + (i).toNat * 6 + 2, none⟩) from hV 9 (by decide))
      obtain ⟨I2, hI2, H⟩ := Gx.ex hG
      exact L_val hS rfl (Ob_load tMWState rfl rfl rfl ((H.atg 1 rfl hg3) 2 _ rfl)) ⟨rfl, hG⟩
     refine .cons (fun ss hlo hhi vals1 xw hG hV => ?_) ?_
     ·obtain rfl : ss = 0 := Nat.le_antisymm hhi hlo
      rw [← hfe]
      have hS := (hfr vals1).sub (ts := [25, 30, 35]) (S' := [(25, vals1 0), (30, vals1 5), (35, vals1 10)]) rfl
      replace hS := hS.conv (t := 25) rfl (show (vals1 0) = .pointer (some ⟨g1, 0, none⟩) from hV 0 (by decide))
      replace hS := hS.conv (t := 30) rfl (show (vals1 5) = .int .u64 ((first.getD (i).toNat default).t) from hV 5 (by decide))
      replace hS := hS.conv (t := 35) rfl (show (vals1 10) = u1 from hV 10 (by decide))
      obtain ⟨I2, hI2, H⟩ := Gx.ex hG
      refine L_hcall H (js := [(2, false), (0, true)]) rfl (caps := #[]) hS fn_11_YMWState rfl rfl rfl rfl rfl (fun D1 hS => have hq := c_mvcc_Store_Put hx4 hS; hq) fun _ yw D1 hr hF2 => ?_
      obtain ⟨rfl, I3, K⟩ := hr
      obtain ⟨hK, H2⟩ := hF2 K
      exact ⟨rfl, Gx.go hG hI2 hK K.imm H2⟩
     refine .cons (fun ss hlo hhi vals1 xw hG hV => ?_) ?_
     ·obtain rfl : ss = 1 := Nat.le_antisymm hhi hlo
      rw [← hfe]
      have hS := (hfr vals1).sub (ts := [36]) (S' := [(36, vals1 11)]) rfl
      replace hS := hS.conv (t := 36) rfl (show (vals1 11) = .int .i64 p.1 from hV 11 (by decide))
      exact L_val hS rfl (Ob_c tMWState rfl) ⟨rfl, hG⟩
     refine .cons (fun ss hlo hhi vals1 xw hG hV => ?_) ?_
     ·obtain rfl : ss = 1 := Nat.le_antisymm hhi hlo
      rw [← hfe]
      have hS := (hfr vals1).sub (ts := [37]) (S' := [(37, vals1 12)]) rfl
      replace hS := hS.conv (t := 37) rfl (show (vals1 12) = .bool (p.1 == 0) from hV 12 (by decide))
      exact L_val hS rfl (Ob_c tMWState rfl) ⟨rfl, hG⟩
     refine .cons (fun ss hlo hhi vals1 xw hG hV => ?_) ?_
     ·obtain rfl : ss = 1 := Nat.le_antisymm hhi hlo
      rw [← hfe]
      have hS := (hfr vals1).sub (ts := [38, 0]) (S' := [(38, vals1 13), (0, v1_first)]) rfl
      replace hS := hS.conv (t := 38) rfl (show (vals1 13) = .bool (p.1 == 0) from hV 13 (by decide))
      refine L_gw (p := (p.1 == 0)) hS rfl rfl rfl (wantB_t _) (fun hp => ?_) (fun hp => ⟨by rw [hp]; rfl, hG⟩)
      exact L_val hS rfl (Ob_c tMWState rfl) ⟨(by rw [hp]; rfl), hG⟩
     refine .cons (fun ss hlo hhi vals1 xw hG hV => ?_) ?_
     ·obtain rfl : ss = 1 := Nat.le_antisymm hhi hlo
      rw [← hfe]
      have hS := (hfr vals1).sub (ts := [38, 7]) (S' := [(38, vals1 13), (7, .int .i64 i)]) rfl
      replace hS := hS.conv (t := 38) rfl (show (vals1 13) = .bool (p.1 == 0) from hV 13 (by decide))
      refine L_gw (p := (p.1 == 0)) hS rfl rfl rfl (wantB_t _) (fun hp => ?_) (fun hp => ⟨by rw [hp]; rfl, hG⟩)
      exact L_val hS rfl (Ob_c tMWState rfl) ⟨(by rw [hp]; rfl), hG⟩
     refine .cons (fun ss hlo hhi vals1 xw hG hV => ?_) ?_
     ·obtain rfl : ss = 1 := Nat.le_antisymm hhi hlo
      rw [← hfe]
      have hS := (hfr vals1).sub (ts := [39, 40, 38]) (S' := [(39, vals1 14), (40, vals1 15), (38, vals1 13)]) rfl
      replace hS := hS.conv (t := 39) rfl (show (vals1 14) = cond (p.1 == 0) (v1_first) undef from hV 14 (by decide))
      replace hS := hS.conv (t := 40) rfl (show (vals1 15) = cond (p.1 == 0) (.int .i64 i) undef from hV 15 (by decide))
      replace hS := hS.conv (t := 38) rfl (show (vals1 13) = .bool (p.1 == 0) from hV 13 (by decide))
      refine L_gw (p := (p.1 == 0)) hS rfl rfl rfl (wantB_t _) (fun hp => ?_) (fun hp => ⟨by rw [hp]; rfl, hG⟩)
      replace hS := hS.conv (t := 39) rfl (cond_t hp)
      replace hS := hS.conv (t := 40) rfl (cond_t hp)
      obtain ⟨I2, hI2, H⟩ := Gx.ex hG
      exact L_val hS rfl (Ob_sidx tMWState rfl rfl rfl rfl (slPl (H.sl 3 rfl) (hg4 hp)) (hg4 hp)) ⟨(by rw [hp]; rfl), hG⟩
     refine .cons (fun ss hlo hhi vals1 xw hG hV => ?_) ?_
     ·obtain rfl : ss = 1 := Nat.le_antisymm hhi hlo
      rw [← hfe]
      have hS := (hfr vals1).sub (ts := [41, 38]) (S' := [(41, vals1 16), (38, vals1 13)]) rfl
      replace hS := hS.conv (t := 41) rfl (show (vals1 16) = cond (p.1 == 0) (.pointer (some ⟨blkOf v1_first, oofOf v1_first + (i).toNat * 6, none⟩)) undef from hV 16 (by decide))
      replace hS := hS.conv (t := 38) rfl (show (vals1 13) = .bool (p.1 == 0) from hV 13 (by decide))
      refine L_gw (p := (p.1 == 0)) hS rfl rfl rfl (wantB_t _) (fun hp => ?_) (fun hp => ⟨by rw [hp]; rfl, hG⟩)
      replace hS := hS.conv (t := 41) rfl (cond_t hp)
      exact L_val hS rfl (Ob_c tMWState rfl) ⟨(by rw [hp]; rfl), hG⟩
     refine .cons (fun ss hlo hhi vals1 xw hG hV => ?_) ?_
     ·obtain rfl : ss = 1 := Nat.le_antisymm hhi hlo
      rw [← hfe]
      have hS := (hfr vals1).sub (ts := [42, 38]) (S' := [(42, vals1 17), (38, vals1 13)]) rfl
      replace hS := hS.conv (t := 42) rfl (show (vals1 17) = cond (p.1 == 0) (.pointer (some ⟨blkOf v1_first, oofOf v1_first + (i).toNat * 6 + 1, none⟩)) undef from hV 17 (by decide))
      replace hS := hS.conv (t := 38) rfl (show (vals1 13) = .bool (p.1 == 0) from hV 13 (by decide))
      refine L_gw (p := (p.1 == 0)) hS rfl rfl rfl (wantB_t _) (fun hp => ?_) (fun hp => ⟨by rw [hp]; rfl, hG⟩)
      replace hS := hS.conv (t := 42) rfl (cond_t hp)
      obtain ⟨I2, hI2, H⟩ := Gx.ex hG
      exact L_val hS rfl (Ob_load tMWState rfl rfl rfl ((H.atg 2 rfl (hg4 hp)) 1 _ rfl)) ⟨(by rw [hp]; rfl), hG⟩
     refine .cons (fun ss hlo hhi vals1 xw hG hV => ?_) ?_
     ·obtain rfl : ss = 1 := Nat.le_antisymm hhi hlo
      rw [← hfe]
      have hS := (hfr vals1).sub (ts := [38, 1]) (S' := [(38, vals1 13), (1, .int .u64 t)]) rfl
      replace hS := hS.conv (t := 38) rfl (show (vals1 13) = .bool (p.1 == 0) from hV 13 (by decide))
      refine L_gw (p := (p.1 == 0)) hS rfl rfl rfl (wantB_t _) (fun hp => ?_) (fun hp => ⟨by rw [hp]; rfl, hG⟩)
      exact L_val hS rfl (Ob_c tMWState rfl) ⟨(by rw [hp]; rfl), hG⟩
     refine .cons (fun ss hlo hhi vals1 xw hG hV => ?_) ?_
     ·obtain rfl : ss = 1 := Nat.le_antisymm hhi hlo
      rw [← hfe]
      have hS := (hfr vals1).sub (ts := [43, 44, 38]) (S' := [(43, vals1 18), (44, vals1 19), (38, vals1 13)]) rfl
      replace hS := hS.conv (t := 43) rfl (show (vals1 18) = cond (p.1 == 0) (.int .u64 ((first.getD (i).toNat default).t)) undef from hV 18 (by decide))
      replace hS := hS.conv (t := 44) rfl (show (vals1 19) = cond (p.1 == 0) (.int .u64 t) undef from hV 19 (by decide))
      replace hS := hS.conv (t := 38) rfl (show (vals1 13) = .bool (p.1 == 0) from hV 13 (by decide))
      refine L_gw (p := (p.1 == 0)) hS rfl rfl rfl (wantB_t _) (fun hp => ?_) (fun hp => ⟨by rw [hp]; rfl, hG⟩)
      replace hS := hS.conv (t := 43) rfl (cond_t hp)
      replace hS := hS.conv (t := 44) rfl (cond_t hp)
      exact L_val hS rfl (Ob_c tMWState rfl) ⟨(by rw [hp]; rfl), hG⟩
     refine .cons (fun ss hlo hhi vals1 xw hG hV => ?_) ?_
     ·obtain rfl : ss = 1 := Nat.le_antisymm hhi hlo
      rw [← hfe]
      have hS := (hfr vals1).sub (ts := [38, 45]) (S' := [(38, vals1 13), (45, vals1 20)]) rfl
      replace hS := hS.conv (t := 38) rfl (show (vals1 13) = .bool (p.1 == 0) from hV 13 (by decide))
      replace hS := hS.conv (t := 45) rfl (show (vals1 20) = cond (p.1 == 0) (.bool (decide ((first.getD (i).toNat default).t ≤ t))) undef from hV 20 (by decide))
      exact L_val hS rfl (Ob_pick rfl rfl rfl rfl (pick_and _ _)) ⟨rfl, hG⟩
     exact .nil
    ·intro vals1 a w6 Z hG hV
     replace Z := Z.sub (ts := [0, 1, 4, 5, 6, 7, 15, 16, 17, 18, 19, 22, 25, 26, 27, 28, 29, 30, 31, 32, 33, 34, 35, 36, 37, 38, 46]) (S' := [(0, v1_first), (1, .int .u64 t), (4, .bool false), (5, .pointer (some ⟨g1, 0, none⟩)), (6, v2), (7, .int .i64 i), (15, .int .i64 i), (16, v1_first), (17, .int .i64 (first.length : Int)), (18, .bool (decide (i < (first.length : Int)))), (19, .bool (decide (i < (first.length : Int)))), (22, .bool ((decide (i < (first.length : Int))) && (decide (i < 30)))), (25, vals1 0), (26, vals1 1), (27, vals1 2), (28, vals1 3), (29, vals1 4), (30, vals1 5), (31, vals1 6), (32, vals1 7), (33, vals1 8), (34, vals1 9), (35, vals1 10), (36, vals1 11), (37, vals1 12), (38, vals1 13), (46, vals1 21)]) rfl
     replace Z := Z.conv (t := 25) rfl (show (vals1 0) = .pointer (some ⟨g1, 0, none⟩) from hV 0 (by decide))
     replace Z := Z.conv (t := 26) rfl (show (vals1 1) = v1_first from hV 1 (by decide))
     replace Z := Z.conv (t := 27) rfl (show (vals1 2) = .int .i64 i from hV 2 (by decide))
     replace Z := Z.conv (t := 28) rfl (show (vals1 3) = .pointer (some ⟨blkOf v1_first, oofOf v1_first + (i).toNat * 6, none⟩) from hV 3 (by decide))
     replace Z := Z.conv (t := 29) rfl (show (vals1 4) = .pointer (some ⟨blkOf v1_first, oofOf v1_first + (i).toNat * 6 + 1, none⟩) from hV 4 (by decide))
     replace Z := Z.conv (t := 30) rfl (show (vals1 5) = .int .u64 ((first.getD (i).toNat default).t) from hV 5 (by decide))
     replace Z := Z.conv (t := 31) rfl (show (vals1 6) = v1_first from hV 6 (by decide))
     replace Z := Z.conv (t := 32) rfl (show (vals1 7) = .int .i64 i from hV 7 (by decide))
     replace Z := Z.conv (t := 33) rfl (show (vals1 8) = .pointer (some ⟨blkOf v1_first, oofOf v1_first + (i).toNat * 6, none⟩) from hV 8 (by decide))
     replace Z := Z.conv (t := 34) rfl (show (vals1 9) = .pointer (some ⟨blkOf v1_first, oofOf v1_first + (i).toNat * 6 + 2, none⟩) from hV 9 (by decide))
     replace Z := Z.conv (t := 35) rfl (show (vals1 10) = u1 from hV 10 (by decide))
     replace Z := Z.conv (t := 36) rfl (show (vals1 11) = .int .i64 p.1 from hV 11 (by decide))
     replace Z := Z.conv (t := 37) rfl (show (vals1 12) = .bool (p.1 == 0) from hV 12 (by decide))
     replace Z := Z.conv (t := 38) rfl (show (vals1 13) = .bool (p.1 == 0) from hV 13 (by decide))
     replace Z := Z.conv (t := 46) rfl (show (vals1 21) = .bool ((p.1 == 0) && (decide ((first.getD (i).toNat default).t ≤ t))) from hV 21 (by decide))
     obtain ⟨I6, _, H⟩ := Gx.ex hG
     clear hG hV
     replace Z := Z.sub (ts := [0, 1, 4, 5, 6, 7, 15, 16, 17, 18, 19, 22, 25, 26, 27, 28, 29, 30, 31, 32, 33, 34, 35, 36, 37, 38, 46]) rfl
     replace H : Hf I D w I6 w6 [OEmvcc_Store g1 p.2, SlC NEOp u1 ((first.getD (i).toNat default).ops), AtG ((0 : Int) ≤ i ∧ i < (first.length : Int)) (blkOf v1_first) (oofOf v1_first + (i).toNat * 6) [.int .i64 ((first.getD (i).toNat default).c), .int .u64 ((first.getD (i).toNat default).t), u1, .string ((first.getD (i).toNat default).k), .string ((first.getD (i).toNat default).to_), .int .i64 ((first.getD (i).toNat default).n)], SlC NElaw16_Act v1_first first, SlC NEPair v2 l] := H
     refine p_then ?_
     refine f_cond Z rfl (fun hc3 => ?_) (fun hc3 => ?_)
     ·replace hF := ite_t hc3 hF
      obtain ⟨hg5, hF⟩ := chk_in hF
      obtain ⟨o, hx5, hF⟩ := bnd_in hF
      refine f_region Z ?_; clear Z; intro Z
      refine s_runk tMWState Z 3 rfl rfl ?_; clear Z a; intro a Z
      refine s_ob Z (v := .pointer (some ⟨blkOf v1_first, oofOf v1_first + (i).toNat * 6, none⟩)) rfl rfl (by decide) rfl (Ob_sidx tMWState rfl rfl rfl rfl (slPl (H.sl 3 rfl) hg5) hg5) ?_; clear Z a; intro a Z
      refine s_runk tMWState Z 1 rfl rfl ?_; clear Z a; intro a Z
      obtain ⟨_, ⟨u2, rfl, L2⟩, H⟩ := H.elG 3 rfl (i) (NElaw16_Act.dft _ _)
      replace H := H.addsl L2
      replace H : Hf I D w I6 w6 [SlC NEOp u2 ((first.getD (i).toNat default).ops), AtG ((0 : Int) ≤ i ∧ i < (first.length : Int)) (blkOf v1_first) (oofOf v1_first + (i).toNat * 6) [.int .i64 ((first.getD (i).toNat default).c), .int .u64 ((first.getD (i).toNat default).t), u2, .string ((first.getD (i).toNat default).k), .string ((first.getD (i).toNat default).to_), .int .i64 ((first.getD (i).toNat default).n)], OEmvcc_Store g1 p.2, SlC NEOp u1 ((first.getD (i).toNat default).ops), AtG ((0 : Int) ≤ i ∧ i < (first.length : Int)) (blkOf v1_first) (oofOf v1_first + (i).toNat * 6) [.int .i64 ((first.getD (i).toNat default).c), .int .u64 ((first.getD (i).toNat default).t), u1, .string ((first.getD (i).toNat default).k), .string ((first.getD (i).toNat default).to_), .int .i64 ((first.getD (i).toNat default).n)], SlC NElaw16_Act v1_first first, SlC NEPair v2 l] := H
      refine s_ob Z (v := u2) rfl rfl (by decide) rfl (Ob_load tMWState rfl rfl rfl ((H.atg 1 rfl hg5) 2 _ rfl)) ?_; clear Z a; intro a Z
      refine h_call Z H (js := [(6, true), (0, true)]) rfl (caps := #[]) fn_15_YMWState rfl rfl rfl rfl rfl (by decide) rfl rfl (fun D1 hS => have hq := c_ref06_Over hx5 hS; hq) ?_; clear Z a; intro vv a w7 D2 hr hF2 Z
      obtain ⟨q1, hvv, I7, K⟩ := hr; obtain rfl := hvv.symm
      have H : Hf I D w I7 w7 [SlC NEPair q1 o, SlC NEOp u2 ((first.getD (i).toNat default).ops), AtG ((0 : Int) ≤ i ∧ i < (first.length : Int)) (blkOf v1_first) (oofOf v1_first + (i).toNat * 6) [.int .i64 ((first.getD (i).toNat default).c), .int .u64 ((first.getD (i).toNat default).t), u2, .string ((first.getD (i).toNat default).k), .string ((first.getD (i).toNat default).to_), .int .i64 ((first.getD (i).toNat default).n)], OEmvcc_Store g1 p.2, SlC NEOp u1 ((first.getD (i).toNat default).ops), AtG ((0 : Int) ≤ i ∧ i < (first.length : Int)) (blkOf v1_first) (oofOf v1_first + (i).toNat * 6) [.int .i64 ((first.getD (i).toNat default).c), .int .u64 ((first.getD (i).toNat default).t), u1, .string ((first.getD (i).toNat default).k), .string ((first.getD (i).toNat default).to_), .int .i64 ((first.getD (i).toNat default).n)], SlC NElaw16_Act v1_first first, SlC NEPair v2 l] := hF2 K
      clear hF2 K
      refine s_runk tMWState Z 1 rfl rfl ?_; clear Z a; intro a Z
      refine s_end Z [0, 1, 4, 5, 6, 7, 15, 16, 17, 18, 19, 22, 25, 26, 27, 28, 29, 30, 31, 32, 33, 34, 35, 36, 37, 38, 46, 47, 48, 49, 50, 51, 52, 53] rfl ?_; clear Z; intro Z
      refine p_blk ?_
      refine p_then ?_
      exact ⟨o, (first.getD (i).toNat default).ops, p.1, p.1 == 0, p.1 == 0, (p.1 == 0) && (decide ((first.getD (i).toNat default).t ≤ t)), p.2, q1, u1, Z.sub (ts := [0, 1, 4, 5, 6, 7, 15, 16, 17, 18, 19, 22, 25, 26, 27, 28, 29, 30, 31, 32, 33, 34, 35, 36, 37, 38, 46]) rfl, ⟨I7, (H.sub [(3, false), (5, true), (0, true), (3, true)] rfl).eq rfl⟩, hF⟩
     ·replace hF := ite_f hc3 hF
      refine wp_skip ?_
      refine p_blk ?_
      refine p_then ?_
      exact ⟨l, (first.getD (i).toNat default).ops, p.1, p.1 == 0, p.1 == 0, (p.1 == 0) && (decide ((first.getD (i).toNat default).t ≤ t)), p.2, v2, u1, Z.sub (ts := [0, 1, 4, 5, 6, 7, 15, 16, 17, 18, 19, 22, 25, 26, 27, 28, 29, 30, 31, 32, 33, 34, 35, 36, 37, 38, 46]) rfl, ⟨I6, (H.sub [(0, false), (2, true), (3, true), (0, true)] rfl).eq rfl⟩, hF⟩
  ·replace hF := ite_f hc2 hF
   refine wp_exit ?_
   refine p_then_x ?_
   refine p_then_x ?_
   refine f_exit_here ?_
   refine p_then (wp_seq ?_)
   obtain ⟨s0_3, hx6, hF⟩ := bnd_in hF
   refine f_region Z ?_; clear Z; intro Z
   refine s_runk tMWState Z 2 rfl rfl ?_; clear Z a; intro a Z
   refine h_call Z H (js := [(0, false)]) rfl (caps := #[]) fn_12_YMWState rfl rfl rfl rfl rfl (by decide) rfl rfl (fun D1 hS => have hq := c_mvcc_Store_Scan hx6 hS; hq) ?_; clear Z a; intro vv a w8 D2 hr hF2 Z
   obtain ⟨q2, rfl, I8, K⟩ := hr
   have H : Hf I D w I8 w8 [OEmvcc_Store g1 s0_3.2.2, SlC NEPair q2 s0_3.1, SlC NElaw16_Act v1_first first, SlC NEPair v2 l] := hF2 K
   clear hF2 K
   refine s_runk tMWState Z 5 rfl rfl ?_; clear Z a; intro a Z
   refine s_end Z [4, 6, 8, 9] rfl ?_; clear Z; intro Z
   refine p_then (wp_seq ?_)
   obtain ⟨s0_4, hx7, hF⟩ := bnd_in hF
   obtain ⟨a0_2, hx8, hF⟩ := bnd_in hF
   refine f_region Z ?_; clear Z; intro Z
   refine s_runk tMWState Z 2 rfl rfl ?_; clear Z a; intro a Z
   refine h_call Z H (js := [(1, true), (3, true)]) rfl (caps := #[]) fn_13_YMWState rfl rfl rfl rfl rfl (by decide) rfl rfl (fun D1 hS => have hq := c_ref06_SamePairs hx7 hS; hq) ?_; clear Z a; intro vv a w9 D2 hr hF2 Z
   obtain ⟨rfl, I9, K⟩ := hr
   have H : Hf I D w I9 w9 [OEmvcc_Store g1 s0_3.2.2, SlC NEPair q2 s0_3.1, SlC NElaw16_Act v1_first first, SlC NEPair v2 l] := hF2 K
   clear hF2 K
   refine s_runk tMWState Z 1 rfl rfl ?_; clear Z a; intro a Z
   refine g_ob Z (p := s0_4) (v := .bool s0_3.2.1) (S' := [(9, .bool s0_3.2.1)]) rfl rfl rfl (wantB_t _) rfl (by decide) (fun hp hS => hS.sub (ts := [9]) rfl) (fun hp => Ob_c tMWState rfl) ?_; clear Z a; intro a Z
   refine g_ob Z (p := s0_4) (v := .bool (!s0_3.2.1)) (S' := [(64, .bool s0_3.2.1)]) rfl rfl rfl (wantB_t _) rfl (by decide) (fun hp hS => (hS.conv (t := 64) rfl (cond_t hp)).sub (ts := [64]) rfl) (fun hp => Ob_c tMWState rfl) ?_; clear Z a; intro a Z
   refine s_ob Z (v := .bool (s0_4 && (!s0_3.2.1))) rfl rfl (by decide) rfl (Ob_pick rfl rfl rfl rfl (pick_and _ _)) ?_; clear Z a; intro a Z
   refine s_runk tMWState Z 1 rfl rfl ?_; clear Z a; intro a Z
   refine g_call Z (p := (s0_4 && (!s0_3.2.1))) (v := .bool a0_2) (S' := []) (caps := #[]) fn_9_YMWState rfl rfl rfl (wantB_t _) rfl (by decide) (fun hp hS => hS.sub (ts := []) rfl) rfl rfl rfl rfl (fun hp => have hq := c_law16_awake (gif_in hx8 hp) (H.pick0 (js := []) rfl rfl); plainC hq) ?_; clear Z a; intro a w10 hb Z
   replace H : Hf I D w I9 w10 [OEmvcc_Store g1 s0_3.2.2, SlC NEPair q2 s0_3.1, SlC NElaw16_Act v1_first first, SlC NEPair v2 l] := H.blw hb
   clear hb
   refine s_ob Z (v := .bool ((s0_4 && (!s0_3.2.1)) && a0_2)) rfl rfl (by decide) rfl (Ob_pick rfl rfl rfl rfl (pick_and _ _)) ?_; clear Z a; intro a Z
   refine s_runk tMWState Z 1 rfl rfl ?_; clear Z a; intro a Z
   refine s_end Z [4] rfl ?_; clear Z; intro Z
   refine p_then (wp_ret ?_)
   obtain rfl := some_in hF
   exact f_ret Z (run_results1 rfl Z rfl) ⟨rfl, I9, (H.sub [] rfl).eq rfl⟩

end Go.Proofs.Ytfefmdllnjpmgaa
