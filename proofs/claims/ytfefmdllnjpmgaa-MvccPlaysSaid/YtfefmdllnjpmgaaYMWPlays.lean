/- Many versions: the law MvccPlays walked. -/
import Derived.Test.YtfefmdllnjpmgaaYMW
namespace Go.Proofs.Ytfefmdllnjpmgaa
open Go.RowKit
def tMWPlaysL : TabL := ⟨[(32768, 0), (32769, 1), (32770, 2), (47105, 1)], [], [], [(22, (32, 6))], [(3, (1, false)), (23, (1, false)), (30, (1, false)), (32, (6, true)), (46, (2, true))]⟩

def tMWPlays : Tab Try.prog := ⟨tMWPlaysL, by kernel_rfl⟩

theorem fn_8_YMWPlays : IsFn Try.prog 8 := ⟨_, Try.func8, by kernel_rfl, by kernel_rfl⟩

theorem fn_9_YMWPlays : IsFn Try.prog 9 := ⟨_, Try.func9, by kernel_rfl, by kernel_rfl⟩

theorem fn_10_YMWPlays : IsFn Try.prog 10 := ⟨_, Try.func10, by kernel_rfl, by kernel_rfl⟩

theorem fn_11_YMWPlays : IsFn Try.prog 11 := ⟨_, Try.func11, by kernel_rfl, by kernel_rfl⟩

theorem fn_16_YMWPlays : IsFn Try.prog 16 := ⟨_, Try.func16, by kernel_rfl, by kernel_rfl⟩

theorem fn_17_YMWPlays : IsFn Try.prog 17 := ⟨_, Try.func17, by kernel_rfl, by kernel_rfl⟩

theorem fn_18_YMWPlays : IsFn Try.prog 18 := ⟨_, Try.func18, by kernel_rfl, by kernel_rfl⟩

theorem fn_19_YMWPlays : IsFn Try.prog 19 := ⟨_, Try.func19, by kernel_rfl, by kernel_rfl⟩

theorem fn_20_YMWPlays : IsFn Try.prog 20 := ⟨_, Try.func20, by kernel_rfl, by kernel_rfl⟩

theorem fn_21_YMWPlays : IsFn Try.prog 21 := ⟨_, Try.func21, by kernel_rfl, by kernel_rfl⟩

theorem fn_22_YMWPlays : IsFn Try.prog 22 := ⟨_, Try.func22, by kernel_rfl, by kernel_rfl⟩

def F_law16_MvccPlays_k2 (i : Int) (rc : (Int × Emvcc_Store × Eref16_Store) → Option Bool) (ok : Bool) (x_2 : Bool) (s0_2 : Emvcc_Store) (x_3 : Eref16_Store) : Option Bool := (gif (!(!ok)) (F_mvcc_Store_Last s0_2) default).bind fun l_2 => ((gif (!((!ok) || (l_2 != x_3.last))) (F_mvcc_Store_Cells s0_2) default).bind fun c => ((gif (!((!ok) || (l_2 != x_3.last))) (F_ref16_Store_Cells x_3) default).bind fun c_2 => (if (((!ok) || (l_2 != x_3.last)) || (c != c_2)) = true then (some false) else (chk (inI (i + 1)) (rc (i + 1, s0_2, x_3))))))

def F_law16_MvccPlays_k3 (l : List Elaw16_Act) (i : Int) (s0 : Emvcc_Store) (x : Eref16_Store) (rc : (Int × Emvcc_Store × Eref16_Store) → Option Bool) (x_4 : Bool) : Option Bool := if (x_4) = true then (chk ((0 : Int) ≤ i ∧ i < (l.length : Int)) (chk ((0 : Int) ≤ i ∧ i < (l.length : Int)) ((F_mvcc_Store_Put s0 ((l.getD (i).toNat default).t) ((l.getD (i).toNat default).ops)).bind fun p => (chk ((0 : Int) ≤ i ∧ i < (l.length : Int)) (chk ((0 : Int) ≤ i ∧ i < (l.length : Int)) ((F_ref16_Store_Put x ((l.getD (i).toNat default).t) ((l.getD (i).toNat default).ops)).bind fun p_2 => (F_law16_MvccPlays_k2 i rc (p.1 == p_2.1) x_4 p.2 p_2.2))))))) else (if (((l.getD (i).toNat default).c) == 3) = true then (chk ((0 : Int) ≤ i ∧ i < (l.length : Int)) ((F_mvcc_Store_Prune s0 ((l.getD (i).toNat default).t)).bind fun p_3 => (chk ((0 : Int) ≤ i ∧ i < (l.length : Int)) ((F_ref16_Store_Prune x ((l.getD (i).toNat default).t)).bind fun p_4 => (F_law16_MvccPlays_k2 i rc (p_3.1 == p_4.1) x_4 p_3.2 p_4.2))))) else (chk ((0 : Int) ≤ i ∧ i < (l.length : Int)) ((F_law16_same s0 x (l.getD (i).toNat default)).bind fun s0_3 => (F_law16_MvccPlays_k2 i rc s0_3.1 x_4 s0_3.2 x))))

def F_law16_MvccPlays_l1 (l : List Elaw16_Act) (rc : (Int × Emvcc_Store × Eref16_Store) → Option Bool) (sg : Int × Emvcc_Store × Eref16_Store) : Option Bool := match sg with | (i, s0, x) => if ((decide (i < (l.length : Int))) && (decide (i < 40))) = true then (chk ((0 : Int) ≤ i ∧ i < (l.length : Int)) (if (((l.getD (i).toNat default).c) == 0) = true then (F_law16_MvccPlays_k3 l i s0 x rc (((l.getD (i).toNat default).c) == 0)) else (if (((l.getD (i).toNat default).c) == 1) = true then (F_law16_MvccPlays_k3 l i s0 x rc (((l.getD (i).toNat default).c) == 1)) else (F_law16_MvccPlays_k3 l i s0 x rc (((l.getD (i).toNat default).c) == 2))))) else ((F_law16_awake).bind fun a0_2 => (some a0_2))

def F_law16_MvccPlays (l : List Elaw16_Act) : Option Bool := (F_law16_few l).bind fun f => (if (!f) = true then ((F_law16_awake).bind fun a0 => (some a0)) else ((F_mvcc_New).bind fun n0 => (iter (F_law16_MvccPlays_l1 l) FU (0, n0, (default : Eref16_Store)))))

set_option maxHeartbeats 1000000 in
theorem c_law16_MvccPlays {I D : Dm} {l : List Elaw16_Act} {v1_l : Value} {w : World} {rr : Bool} (hF : F_law16_MvccPlays l = some rr) (H : St I D w [SlC NElaw16_Act v1_l l]) :
  Calls Try.prog 5 #[v1_l] w (Ret fun vv w' => vv = .bool rr ∧ ∃ I', Hf I D w I' w' []) := by
 replace H := H.hf
 unfold F_law16_MvccPlays at hF
 refine f_enter 101 Try.func5 rfl rfl (Nat.le_of_ble_eq_true rfl) fun a Z => ?_
 replace Z := Z.sub (ts := [0]) rfl
 refine wp_seq (f_region Z ?_); clear Z; intro Z
 refine s_runk tMWPlays Z 1 rfl rfl ?_; clear Z a; intro a Z
 refine s_end Z [0, 2] rfl ?_; clear Z; intro Z
 refine p_then (wp_seq ?_)
 refine wp_seq ?_
 obtain ⟨f, hx1, hF⟩ := bnd_in hF
 refine f_region Z ?_; clear Z; intro Z
 refine s_runk tMWPlays Z 1 rfl rfl ?_; clear Z a; intro a Z
 refine h_call Z H (js := [(0, true)]) rfl (caps := #[]) fn_8_YMWPlays rfl rfl rfl rfl rfl (by decide) rfl rfl (fun D1 hS => have hq := c_law16_few hx1 hS; hq) ?_; clear Z a; intro vv a w1 D2 hr hF2 Z
 obtain ⟨rfl, I1, K⟩ := hr
 have H : Hf I D w I1 w1 [SlC NElaw16_Act v1_l l] := hF2 K
 clear hF2 K
 refine s_runk tMWPlays Z 1 rfl rfl ?_; clear Z a; intro a Z
 refine s_end Z [0, 2, 9] rfl ?_; clear Z; intro Z
 refine p_then ?_
 refine f_cond Z rfl (fun hc1 => ?_) (fun hc1 => ?_)
 ·replace hF := ite_t hc1 hF
  refine wp_seq ?_
  obtain ⟨a0, hx2, hF⟩ := bnd_in hF
  refine f_region Z ?_; clear Z; intro Z
  refine h_call Z H (js := []) rfl (caps := #[]) fn_9_YMWPlays rfl rfl rfl rfl rfl (by decide) rfl rfl (fun D1 hS => have hq := c_law16_awake hx2 hS; hq) ?_; clear Z a; intro vv a w2 D2 hr hF2 Z
  obtain ⟨rfl, I2, K⟩ := hr
  have H : Hf I D w I2 w2 [SlC NElaw16_Act v1_l l] := hF2 K
  clear hF2 K
  refine s_runk tMWPlays Z 1 rfl rfl ?_; clear Z a; intro a Z
  refine s_end Z [0, 2] rfl ?_; clear Z; intro Z
  refine p_then (wp_ret ?_)
  refine p_then_r ?_
  obtain rfl := some_in hF
  exact f_ret Z (run_results1 rfl Z rfl) ⟨rfl, I2, (H.sub [] rfl).eq rfl⟩
 ·replace hF := ite_f hc1 hF
  refine wp_skip ?_
  refine p_then (wp_seq ?_)
  obtain ⟨n0, hx3, hF⟩ := bnd_in hF
  refine f_region Z ?_; clear Z; intro Z
  refine h_call Z H (js := []) rfl (caps := #[]) fn_10_YMWPlays rfl rfl rfl rfl rfl (by decide) rfl rfl (fun D1 hS => have hq := c_mvcc_New hx3 hS; hq) ?_; clear Z a; intro vv a w3 D2 hr hF2 Z
  obtain ⟨g1, rfl, I3, K⟩ := hr
  have H : Hf I D w I3 w3 [OEmvcc_Store g1 n0, SlC NElaw16_Act v1_l l] := hF2 K
  clear hF2 K
  refine s_runk tMWPlays Z 1 rfl rfl ?_; clear Z a; intro a Z
  refine s_end Z [0, 2, 3] rfl ?_; clear Z; intro Z
  refine p_then (wp_seq (f_region Z ?_)); clear Z; intro Z
  refine s_ob Z (v := .agg #[.slice none 0 0, .int .u64 0]) rfl rfl (by decide) rfl (Ob_build (vs := []) rfl rfl (by go_simp <;> rfl)) ?_; clear Z a; intro a Z
  refine h_boxv Z H (cl := [.slice none 0 0, .int .u64 0]) rfl rfl rfl (by decide) rfl rfl rfl ?_; clear Z a H; intro a w4 b1 H Z
  refine s_runk tMWPlays Z 1 rfl rfl ?_; clear Z a; intro a Z
  refine s_end Z [0, 2, 3, 4] rfl ?_; clear Z; intro Z
  refine p_then (wp_seq ?_)
  refine wp_seq (f_region Z ?_); clear Z; intro Z
  refine s_runk tMWPlays Z 1 rfl rfl ?_; clear Z a; intro a Z
  refine s_end Z [0, 2, 3, 4, 5] rfl ?_; clear Z; intro Z
  refine p_then (wp_block ?_)
  replace H : Hf I D w I3 w4 [OwC NEref16_Row 83 (.slice none 0 0) ([] : List Eref16_Row), BxC b1 46 [.slice none 0 0, .int .u64 0], OEmvcc_Store g1 n0, SlC NElaw16_Act v1_l l] := H.nilow NEref16_Row 83
  replace H : Hf I D w I3 w4 [OEref16_Store b1 (default : Eref16_Store), OEmvcc_Store g1 n0, SlC NElaw16_Act v1_l l] := H.shutX (.slice none 0 0) [(1, false), (0, false)] rfl
  refine f_iter hF (fun sg a' w' => match sg with | (i, s0, x) => Sl 101 [(0, v1_l), (2, .bool false), (3, .pointer (some ⟨g1, 0, none⟩)), (4, .pointer (some ⟨b1, 0, none⟩)), (5, .int .i64 i)] a' ∧ ∃ I2, Hf I D w I2 w' [OEmvcc_Store g1 s0, OEref16_Store b1 x, SlC NElaw16_Act v1_l l]) ⟨Z.sub (ts := [0, 2, 3, 4, 5]) rfl, ⟨I3, (H.sub [(1, false), (0, false), (0, true)] rfl).eq rfl⟩⟩ ?_
  clear Z H hF a
  rintro rc ⟨i, s0, x⟩ a w5 ⟨Z, I4, H⟩ hF
  unfold F_law16_MvccPlays_l1 at hF
  try dsimp only at hF
  refine wp_seq ?_
  refine wp_seq (f_region Z ?_); clear Z; intro Z
  refine s_runk tMWPlays Z 2 rfl rfl ?_; clear Z a; intro a Z
  refine s_ob Z (v := .int .i64 (l.length : Int)) rfl rfl (by decide) rfl (Ob_slen tMWPlays rfl rfl rfl (H.slshape 2 rfl)) ?_; clear Z a; intro a Z
  refine s_runk tMWPlays Z 2 rfl rfl ?_; clear Z a; intro a Z
  refine g_ob Z (p := (decide (i < (l.length : Int)))) (v := .int .i64 i) (S' := [(5, .int .i64 i)]) rfl rfl rfl (wantB_t _) rfl (by decide) (fun hp hS => hS.sub (ts := [5]) rfl) (fun hp => Ob_c tMWPlays rfl) ?_; clear Z a; intro a Z
  refine g_ob Z (p := (decide (i < (l.length : Int)))) (v := .bool (decide (i < 40))) (S' := [(19, .int .i64 i)]) rfl rfl rfl (wantB_t _) rfl (by decide) (fun hp hS => (hS.conv (t := 19) rfl (cond_t hp)).sub (ts := [19]) rfl) (fun hp => Ob_c tMWPlays rfl) ?_; clear Z a; intro a Z
  refine s_ob Z (v := .bool ((decide (i < (l.length : Int))) && (decide (i < 40)))) rfl rfl (by decide) rfl (Ob_pick rfl rfl rfl rfl (pick_and _ _)) ?_; clear Z a; intro a Z
  refine s_end Z [0, 2, 3, 4, 5, 14, 15, 16, 17, 18, 21] rfl ?_; clear Z; intro Z
  refine p_then ?_
  refine f_cond Z rfl (fun hc2 => ?_) (fun hc2 => ?_)
  ·replace hF := ite_t hc2 hF
   refine wp_skip ?_
   refine p_then (wp_seq ?_)
   refine wp_block ?_
   refine wp_seq (f_region Z ?_); clear Z; intro Z
   refine s_runk tMWPlays Z 1 rfl rfl ?_; clear Z a; intro a Z
   refine s_end Z [0, 2, 3, 4, 5, 14, 15, 16, 17, 18, 21, 6] rfl ?_; clear Z; intro Z
   refine p_then ?_
   refine f_cut (fun a' w' => ∃ (ok : Bool) (x_2 : Bool) (s0_2 : Emvcc_Store) (x_3 : Eref16_Store), Sl 101 [(0, v1_l), (2, .bool false), (3, .pointer (some ⟨g1, 0, none⟩)), (4, .pointer (some ⟨b1, 0, none⟩)), (5, .int .i64 i), (6, .bool ok), (14, .int .i64 i), (15, v1_l), (16, .int .i64 (l.length : Int)), (17, .bool (decide (i < (l.length : Int)))), (18, .bool (decide (i < (l.length : Int)))), (21, .bool ((decide (i < (l.length : Int))) && (decide (i < 40)))), (24, v1_l), (25, .int .i64 i), (26, .pointer (some ⟨blkOf v1_l, oofOf v1_l + (i).toNat * 6, none⟩)), (27, .pointer (some ⟨blkOf v1_l, oofOf v1_l + (i).toNat * 6, none⟩)), (28, .int .i64 ((l.getD (i).toNat default).c)), (36, .bool x_2), (37, .bool (((l.getD (i).toNat default).c) == 0))] a' ∧ (∃ I2, Hf I D w I2 w' [OEmvcc_Store g1 s0_2, OEref16_Store b1 x_3, SlC NElaw16_Act v1_l l]) ∧ F_law16_MvccPlays_k2 i rc ok x_2 s0_2 x_3 = some rr) ?_ ?_
   ·rintro a w6 ⟨ok, x_2, s0_2, x_3, Z, ⟨I5, H⟩, hF⟩
    unfold F_law16_MvccPlays_k2 at hF
    try dsimp only at hF
    refine wp_seq ?_
    obtain ⟨l_2, hx4, hF⟩ := bnd_in hF
    obtain ⟨c, hx5, hF⟩ := bnd_in hF
    obtain ⟨c_2, hx6, hF⟩ := bnd_in hF
    refine f_regionL Z (by kernel_rfl) (by kernel_rfl) (by decide) (by decide) [4, 13, 15] [(0, 0, 0), (1, 0, 0), (3, 0, 0), (7, 0, 0), (15, 0, 0), (7, 0, 1), (39, 0, 1), (103, 0, 1), (231, 0, 1), (511, 1, 1), (1023, 1, 1), (2047, 1, 1), (4095, 1, 1), (8191, 1, 1), (4095, 1, 2), (32767, 2, 2), (65535, 3, 3), (131071, 3, 3)] (by kernel_rfl) (fun jj vv => cond (Nat.blt jj 9) (cond (Nat.blt jj 4) (cond (Nat.blt jj 2) (cond (Nat.blt jj 1) (vv = .bool ok) (vv = .bool (!ok))) (cond (Nat.blt jj 3) (vv = .bool (!ok)) (vv = cond (!(!ok)) (.pointer (some ⟨g1, 0, none⟩)) undef))) (cond (Nat.blt jj 6) (cond (Nat.blt jj 5) (vv = cond (!(!ok)) (.int .u64 l_2) undef) (vv = cond (!(!ok)) (.pointer (some ⟨b1, 0, none⟩)) undef)) (cond (Nat.blt jj 7) (vv = cond (!(!ok)) (.pointer (some ⟨b1, 0, none⟩)) undef) (cond (Nat.blt jj 8) (vv = cond (!(!ok)) (.pointer (some ⟨b1, 1, none⟩)) undef) (vv = cond (!(!ok)) (.int .u64 x_3.last) undef))))) (cond (Nat.blt jj 13) (cond (Nat.blt jj 11) (cond (Nat.blt jj 10) (vv = cond (!(!ok)) (.bool (l_2 != x_3.last)) undef) (vv = .bool ((!ok) || (l_2 != x_3.last)))) (cond (Nat.blt jj 12) (vv = .bool ((!ok) || (l_2 != x_3.last))) (vv = cond (!((!ok) || (l_2 != x_3.last))) (.pointer (some ⟨g1, 0, none⟩)) undef))) (cond (Nat.blt jj 15) (cond (Nat.blt jj 14) (vv = cond (!((!ok) || (l_2 != x_3.last))) (.int .i64 c) undef) (vv = cond (!((!ok) || (l_2 != x_3.last))) (.pointer (some ⟨b1, 0, none⟩)) undef)) (cond (Nat.blt jj 16) (vv = cond (!((!ok) || (l_2 != x_3.last))) (.int .i64 c_2) undef) (cond (Nat.blt jj 17) (vv = cond (!((!ok) || (l_2 != x_3.last))) (.bool (c != c_2)) undef) (vv = .bool (((!ok) || (l_2 != x_3.last)) || (c != c_2)))))))) (fun ss vals1 xw => match ss with | 0 => Gx I D w I5 w6 xw [OEmvcc_Store g1 s0_2, OEref16_Store b1 x_3, SlC NElaw16_Act v1_l l] | 1 => Gx I D w I5 w6 xw [OEmvcc_Store g1 s0_2, OEref16_Store b1 x_3, SlC NElaw16_Act v1_l l] | 2 => Gx I D w I5 w6 xw [OEmvcc_Store g1 s0_2, OEref16_Store b1 x_3, SlC NElaw16_Act v1_l l] | _ => Gx I D w I5 w6 xw [OEref16_Store b1 x_3, OEmvcc_Store g1 s0_2, SlC NElaw16_Act v1_l l]) (fun _ => Gx.start H) ?_ ?_
    ·intro fr hfr hfe
     refine .cons (fun ss hlo hhi vals1 xw hG hV => ?_) ?_
     ·obtain rfl : ss = 0 := Nat.le_antisymm hhi hlo
      rw [← hfe]
      have hS := (hfr vals1).sub (ts := [6]) (S' := [(6, .bool ok)]) rfl
      exact L_val hS rfl (Ob_c tMWPlays rfl) ⟨rfl, hG⟩
     refine .cons (fun ss hlo hhi vals1 xw hG hV => ?_) ?_
     ·obtain rfl : ss = 0 := Nat.le_antisymm hhi hlo
      rw [← hfe]
      have hS := (hfr vals1).sub (ts := [82]) (S' := [(82, vals1 0)]) rfl
      replace hS := hS.conv (t := 82) rfl (show (vals1 0) = .bool ok from hV 0 (by decide))
      exact L_val hS rfl (Ob_c tMWPlays rfl) ⟨rfl, hG⟩
     refine .cons (fun ss hlo hhi vals1 xw hG hV => ?_) ?_
     ·obtain rfl : ss = 0 := Nat.le_antisymm hhi hlo
      rw [← hfe]
      have hS := (hfr vals1).sub (ts := [83]) (S' := [(83, vals1 1)]) rfl
      replace hS := hS.conv (t := 83) rfl (show (vals1 1) = .bool (!ok) from hV 1 (by decide))
      exact L_val hS rfl (Ob_c tMWPlays rfl) ⟨rfl, hG⟩
     refine .cons (fun ss hlo hhi vals1 xw hG hV => ?_) ?_
     ·obtain rfl : ss = 0 := Nat.le_antisymm hhi hlo
      rw [← hfe]
      have hS := (hfr vals1).sub (ts := [84, 3]) (S' := [(84, vals1 2), (3, .pointer (some ⟨g1, 0, none⟩))]) rfl
      replace hS := hS.conv (t := 84) rfl (show (vals1 2) = .bool (!ok) from hV 2 (by decide))
      refine L_gw (p := (!(!ok))) hS rfl rfl rfl (wantB_f _) (fun hp => ?_) (fun hp => ⟨by rw [hp]; rfl, hG⟩)
      exact L_val hS rfl (Ob_c tMWPlays rfl) ⟨(by rw [hp]; rfl), hG⟩
     refine .cons (fun ss hlo hhi vals1 xw hG hV => ?_) ?_
     ·obtain rfl : ss = 0 := Nat.le_antisymm hhi hlo
      rw [← hfe]
      have hS := (hfr vals1).sub (ts := [85, 84]) (S' := [(85, vals1 3), (84, vals1 2)]) rfl
      replace hS := hS.conv (t := 85) rfl (show (vals1 3) = cond (!(!ok)) (.pointer (some ⟨g1, 0, none⟩)) undef from hV 3 (by decide))
      replace hS := hS.conv (t := 84) rfl (show (vals1 2) = .bool (!ok) from hV 2 (by decide))
      refine L_gw (p := (!(!ok))) hS rfl rfl rfl (wantB_f _) (fun hp => ?_) (fun hp => ⟨by rw [hp]; rfl, ?_⟩)
      ·obtain ⟨I2, hI2, H⟩ := Gx.ex hG
       replace hS := hS.conv (t := 85) rfl (cond_t hp)
       refine L_hcall H (js := [(0, false)]) rfl (caps := #[]) hS fn_20_YMWPlays rfl rfl rfl rfl rfl (fun D1 hS => have hq := c_mvcc_Store_Last (gif_in hx4 hp) hS; hq) fun _ yw D1 hr hF2 => ?_
       obtain ⟨rfl, I3, K⟩ := hr
       obtain ⟨hK, H2⟩ := hF2 K
       exact ⟨by rw [hp]; rfl, by first | (rw [hp] at H2 ⊢; exact Gx.go hG hI2 hK K.imm H2) | (rw [hp]; exact Gx.go hG hI2 hK K.imm H2) | exact Gx.go hG hI2 hK K.imm H2⟩
      ·(try rw [hp]); obtain ⟨I2, hI2, H⟩ := Gx.ex hG; (try rw [hp] at H); exact Gx.go hG hI2 (Keep.refl _ _) (fun _ h => h) (H.sub [(0, false), (0, false), (0, true)] rfl)
     refine .cons (fun ss hlo hhi vals1 xw hG hV => ?_) ?_
     ·obtain rfl | rfl : ss = 0 ∨ ss = 1 := st1 hlo hhi
      all_goals
      ·rw [← hfe]
       have hS := (hfr vals1).sub (ts := [84, 4]) (S' := [(84, vals1 2), (4, .pointer (some ⟨b1, 0, none⟩))]) rfl
       replace hS := hS.conv (t := 84) rfl (show (vals1 2) = .bool (!ok) from hV 2 (by decide))
       refine L_gw (p := (!(!ok))) hS rfl rfl rfl (wantB_f _) (fun hp => ?_) (fun hp => ⟨by rw [hp]; rfl, hG⟩)
       exact L_val hS rfl (Ob_c tMWPlays rfl) ⟨(by rw [hp]; rfl), hG⟩
     refine .cons (fun ss hlo hhi vals1 xw hG hV => ?_) ?_
     ·obtain rfl | rfl : ss = 0 ∨ ss = 1 := st1 hlo hhi
      all_goals
      ·rw [← hfe]
       have hS := (hfr vals1).sub (ts := [87, 84]) (S' := [(87, vals1 5), (84, vals1 2)]) rfl
       replace hS := hS.conv (t := 87) rfl (show (vals1 5) = cond (!(!ok)) (.pointer (some ⟨b1, 0, none⟩)) undef from hV 5 (by decide))
       replace hS := hS.conv (t := 84) rfl (show (vals1 2) = .bool (!ok) from hV 2 (by decide))
       refine L_gw (p := (!(!ok))) hS rfl rfl rfl (wantB_f _) (fun hp => ?_) (fun hp => ⟨by rw [hp]; rfl, hG⟩)
       replace hS := hS.conv (t := 87) rfl (cond_t hp)
       exact L_val hS rfl (Ob_c tMWPlays rfl) ⟨(by rw [hp]; rfl), hG⟩
     refine .cons (fun ss hlo hhi vals1 xw hG hV => ?_) ?_
     ·obtain rfl | rfl : ss = 0 ∨ ss = 1 := st1 hlo hhi
      all_goals
      ·rw [← hfe]
       have hS := (hfr vals1).sub (ts := [88, 84]) (S' := [(88, vals1 6), (84, vals1 2)]) rfl
       replace hS := hS.conv (t := 88) rfl (show (vals1 6) = cond (!(!ok)) (.pointer (some ⟨b1, 0, none⟩)) undef from hV 6 (by decide))
       replace hS := hS.conv (t := 84) rfl (show (vals1 2) = .bool (!ok) from hV 2 (by decide))
       refine L_gw (p := (!(!ok))) hS rfl rfl rfl (wantB_f _) (fun hp => ?_) (fun hp => ⟨by rw [hp]; rfl, hG⟩)
       replace hS := hS.conv (t := 88) rfl (cond_t hp)
       exact L_val hS rfl (Ob_c tMWPlays rfl) ⟨(by rw [hp]; rfl), hG⟩
     refine .cons (fun ss hlo hhi vals1 xw hG hV => ?_) ?_
     ·obtain rfl | rfl : ss = 0 ∨ ss = 1 := st1 hlo hhi
      all_goals
      ·rw [← hfe]
       have hS := (hfr vals1).sub (ts := [89, 84]) (S' := [(89, vals1 7), (84, vals1 2)]) rfl
       replace hS := hS.conv (t := 89) rfl (show (vals1 7) = cond (!(!ok)) (.pointer (some ⟨b1, 1, none⟩)) undef from hV 7 (by decide))
       replace hS := hS.conv (t := 84) rfl (show (vals1 2) = .bool (!ok) from hV 2 (by decide))
       refine L_gw (p := (!(!ok))) hS rfl rfl rfl (wantB_f _) (fun hp => ?_) (fun hp => ⟨by rw [hp]; rfl, hG⟩)
       replace hS := hS.conv (t := 89) rfl (cond_t hp)
       obtain ⟨I2, hI2, H⟩ := Gx.ex hG
       exact L_val hS rfl (Ob_load tMWPlays rfl rfl rfl (by obtain ⟨_, H⟩ := H.openX 1 rfl; exact (H.bx 0 rfl).cell 1 rfl)) ⟨(by rw [hp]; rfl), hG⟩
     refine .cons (fun ss hlo hhi vals1 xw hG hV => ?_) ?_
     ·obtain rfl : ss = 1 := Nat.le_antisymm hhi hlo
      rw [← hfe]
      have hS := (hfr vals1).sub (ts := [86, 90, 84]) (S' := [(86, vals1 4), (90, vals1 8), (84, vals1 2)]) rfl
      replace hS := hS.conv (t := 86) rfl (show (vals1 4) = cond (!(!ok)) (.int .u64 l_2) undef from hV 4 (by decide))
      replace hS := hS.conv (t := 90) rfl (show (vals1 8) = cond (!(!ok)) (.int .u64 x_3.last) undef from hV 8 (by decide))
      replace hS := hS.conv (t := 84) rfl (show (vals1 2) = .bool (!ok) from hV 2 (by decide))
      refine L_gw (p := (!(!ok))) hS rfl rfl rfl (wantB_f _) (fun hp => ?_) (fun hp => ⟨by rw [hp]; rfl, hG⟩)
      replace hS := hS.conv (t := 86) rfl (cond_t hp)
      replace hS := hS.conv (t := 90) rfl (cond_t hp)
      exact L_val hS rfl (Ob_c tMWPlays rfl) ⟨(by rw [hp]; rfl), hG⟩
     refine .cons (fun ss hlo hhi vals1 xw hG hV => ?_) ?_
     ·obtain rfl : ss = 1 := Nat.le_antisymm hhi hlo
      rw [← hfe]
      have hS := (hfr vals1).sub (ts := [84, 91]) (S' := [(84, vals1 2), (91, vals1 9)]) rfl
      replace hS := hS.conv (t := 84) rfl (show (vals1 2) = .bool (!ok) from hV 2 (by decide))
      replace hS := hS.conv (t := 91) rfl (show (vals1 9) = cond (!(!ok)) (.bool (l_2 != x_3.last)) undef from hV 9 (by decide))
      exact L_val hS rfl (Ob_pick rfl rfl rfl rfl (pick_or _ _)) ⟨rfl, hG⟩
     refine .cons (fun ss hlo hhi vals1 xw hG hV => ?_) ?_
     ·obtain rfl : ss = 1 := Nat.le_antisymm hhi hlo
      rw [← hfe]
      have hS := (hfr vals1).sub (ts := [92]) (S' := [(92, vals1 10)]) rfl
      replace hS := hS.conv (t := 92) rfl (show (vals1 10) = .bool ((!ok) || (l_2 != x_3.last)) from hV 10 (by decide))
      exact L_val hS rfl (Ob_c tMWPlays rfl) ⟨rfl, hG⟩
     refine .cons (fun ss hlo hhi vals1 xw hG hV => ?_) ?_
     ·obtain rfl : ss = 1 := Nat.le_antisymm hhi hlo
      rw [← hfe]
      have hS := (hfr vals1).sub (ts := [93, 3]) (S' := [(93, vals1 11), (3, .pointer (some ⟨g1, 0, none⟩))]) rfl
      replace hS := hS.conv (t := 93) rfl (show (vals1 11) = .bool ((!ok) || (l_2 != x_3.last)) from hV 11 (by decide))
      refine L_gw (p := (!((!ok) || (l_2 != x_3.last)))) hS rfl rfl rfl (wantB_f _) (fun hp => ?_) (fun hp => ⟨by rw [hp]; rfl, hG⟩)
      exact L_val hS rfl (Ob_c tMWPlays rfl) ⟨(by rw [hp]; rfl), hG⟩
     refine .cons (fun ss hlo hhi vals1 xw hG hV => ?_) ?_
     ·obtain rfl : ss = 1 := Nat.le_antisymm hhi hlo
      rw [← hfe]
      have hS := (hfr vals1).sub (ts := [94, 93]) (S' := [(94, vals1 12), (93, vals1 11)]) rfl
      replace hS := hS.conv (t := 94) rfl (show (vals1 12) = cond (!((!ok) || (l_2 != x_3.last))) (.pointer (some ⟨g1, 0, none⟩)) undef from hV 12 (by decide))
      replace hS := hS.conv (t := 93) rfl (show (vals1 11) = .bool ((!ok) || (l_2 != x_3.last)) from hV 11 (by decide))
      refine L_gw (p := (!((!ok) || (l_2 != x_3.last)))) hS rfl rfl rfl (wantB_f _) (fun hp => ?_) (fun hp => ⟨by rw [hp]; rfl, ?_⟩)
      ·obtain ⟨I2, hI2, H⟩ := Gx.ex hG
       replace hS := hS.conv (t := 94) rfl (cond_t hp)
       refine L_hcall H (js := [(0, false)]) rfl (caps := #[]) hS fn_21_YMWPlays rfl rfl rfl rfl rfl (fun D1 hS => have hq := c_mvcc_Store_Cells (gif_in hx5 hp) hS; hq) fun _ yw D1 hr hF2 => ?_
       obtain ⟨rfl, I3, K⟩ := hr
       obtain ⟨hK, H2⟩ := hF2 K
       exact ⟨by rw [hp]; rfl, by first | (rw [hp] at H2 ⊢; exact Gx.go hG hI2 hK K.imm H2) | (rw [hp]; exact Gx.go hG hI2 hK K.imm H2) | exact Gx.go hG hI2 hK K.imm H2⟩
      ·(try rw [hp]); obtain ⟨I2, hI2, H⟩ := Gx.ex hG; (try rw [hp] at H); exact Gx.go hG hI2 (Keep.refl _ _) (fun _ h => h) (H.sub [(0, false), (0, false), (0, true)] rfl)
     refine .cons (fun ss hlo hhi vals1 xw hG hV => ?_) ?_
     ·obtain rfl | rfl : ss = 1 ∨ ss = 2 := st1 hlo hhi
      all_goals
      ·rw [← hfe]
       have hS := (hfr vals1).sub (ts := [93, 4]) (S' := [(93, vals1 11), (4, .pointer (some ⟨b1, 0, none⟩))]) rfl
       replace hS := hS.conv (t := 93) rfl (show (vals1 11) = .bool ((!ok) || (l_2 != x_3.last)) from hV 11 (by decide))
       refine L_gw (p := (!((!ok) || (l_2 != x_3.last)))) hS rfl rfl rfl (wantB_f _) (fun hp => ?_) (fun hp => ⟨by rw [hp]; rfl, hG⟩)
       exact L_val hS rfl (Ob_c tMWPlays rfl) ⟨(by rw [hp]; rfl), hG⟩
     refine .cons (fun ss hlo hhi vals1 xw hG hV => ?_) ?_
     ·obtain rfl : ss = 2 := Nat.le_antisymm hhi hlo
      rw [← hfe]
      have hS := (hfr vals1).sub (ts := [96, 93]) (S' := [(96, vals1 14), (93, vals1 11)]) rfl
      replace hS := hS.conv (t := 96) rfl (show (vals1 14) = cond (!((!ok) || (l_2 != x_3.last))) (.pointer (some ⟨b1, 0, none⟩)) undef from hV 14 (by decide))
      replace hS := hS.conv (t := 93) rfl (show (vals1 11) = .bool ((!ok) || (l_2 != x_3.last)) from hV 11 (by decide))
      refine L_gw (p := (!((!ok) || (l_2 != x_3.last)))) hS rfl rfl rfl (wantB_f _) (fun hp => ?_) (fun hp => ⟨by rw [hp]; rfl, ?_⟩)
      ·obtain ⟨I2, hI2, H⟩ := Gx.ex hG
       replace hS := hS.conv (t := 96) rfl (cond_t hp)
       refine L_hcall H (js := [(1, false)]) rfl (caps := #[]) hS fn_22_YMWPlays rfl rfl rfl rfl rfl (fun D1 hS => have hq := c_ref16_Store_Cells (gif_in hx6 hp) hS; hq) fun _ yw D1 hr hF2 => ?_
       obtain ⟨rfl, I3, K⟩ := hr
       obtain ⟨hK, H2⟩ := hF2 K
       exact ⟨by rw [hp]; rfl, by first | (rw [hp] at H2 ⊢; exact Gx.go hG hI2 hK K.imm H2) | (rw [hp]; exact Gx.go hG hI2 hK K.imm H2) | exact Gx.go hG hI2 hK K.imm H2⟩
      ·(try rw [hp]); obtain ⟨I2, hI2, H⟩ := Gx.ex hG; (try rw [hp] at H); exact Gx.go hG hI2 (Keep.refl _ _) (fun _ h => h) (H.sub [(1, false), (0, false), (0, true)] rfl)
     refine .cons (fun ss hlo hhi vals1 xw hG hV => ?_) ?_
     ·obtain rfl : ss = 3 := Nat.le_antisymm hhi hlo
      rw [← hfe]
      have hS := (hfr vals1).sub (ts := [95, 97, 93]) (S' := [(95, vals1 13), (97, vals1 15), (93, vals1 11)]) rfl
      replace hS := hS.conv (t := 95) rfl (show (vals1 13) = cond (!((!ok) || (l_2 != x_3.last))) (.int .i64 c) undef from hV 13 (by decide))
      replace hS := hS.conv (t := 97) rfl (show (vals1 15) = cond (!((!ok) || (l_2 != x_3.last))) (.int .i64 c_2) undef from hV 15 (by decide))
      replace hS := hS.conv (t := 93) rfl (show (vals1 11) = .bool ((!ok) || (l_2 != x_3.last)) from hV 11 (by decide))
      refine L_gw (p := (!((!ok) || (l_2 != x_3.last)))) hS rfl rfl rfl (wantB_f _) (fun hp => ?_) (fun hp => ⟨by rw [hp]; rfl, hG⟩)
      replace hS := hS.conv (t := 95) rfl (cond_t hp)
      replace hS := hS.conv (t := 97) rfl (cond_t hp)
      exact L_val hS rfl (Ob_c tMWPlays rfl) ⟨(by rw [hp]; rfl), hG⟩
     refine .cons (fun ss hlo hhi vals1 xw hG hV => ?_) ?_
     ·obtain rfl : ss = 3 := Nat.le_antisymm hhi hlo
      rw [← hfe]
      have hS := (hfr vals1).sub (ts := [93, 98]) (S' := [(93, vals1 11), (98, vals1 16)]) rfl
      replace hS := hS.conv (t := 93) rfl (show (vals1 11) = .bool ((!ok) || (l_2 != x_3.last)) from hV 11 (by decide))
      replace hS := hS.conv (t := 98) rfl (show (vals1 16) = cond (!((!ok) || (l_2 != x_3.last))) (.bool (c != c_2)) undef from hV 16 (by decide))
      exact L_val hS rfl (Ob_pick rfl rfl rfl rfl (pick_or _ _)) ⟨rfl, hG⟩
     exact .nil
    ·intro vals1 a w7 Z hG hV
     replace Z := Z.sub (ts := [0, 2, 3, 4, 5, 6, 14, 15, 16, 17, 18, 21, 24, 25, 26, 27, 28, 36, 37, 82, 83, 84, 92, 93, 99]) (S' := [(0, v1_l), (2, .bool false), (3, .pointer (some ⟨g1, 0, none⟩)), (4, .pointer (some ⟨b1, 0, none⟩)), (5, .int .i64 i), (6, .bool ok), (14, .int .i64 i), (15, v1_l), (16, .int .i64 (l.length : Int)), (17, .bool (decide (i < (l.length : Int)))), (18, .bool (decide (i < (l.length : Int)))), (21, .bool ((decide (i < (l.length : Int))) && (decide (i < 40)))), (24, v1_l), (25, .int .i64 i), (26, .pointer (some ⟨blkOf v1_l, oofOf v1_l + (i).toNat * 6, none⟩)), (27, .pointer (some ⟨blkOf v1_l, oofOf v1_l + (i).toNat * 6, none⟩)), (28, .int .i64 ((l.getD (i).toNat default).c)), (36, .bool x_2), (37, .bool (((l.getD (i).toNat default).c) == 0)), (82, vals1 0), (83, vals1 1), (84, vals1 2), (92, vals1 10), (93, vals1 11), (99, vals1 17)]) rfl
     replace Z := Z.conv (t := 82) rfl (show (vals1 0) = .bool ok from hV 0 (by decide))
     replace Z := Z.conv (t := 83) rfl (show (vals1 1) = .bool (!ok) from hV 1 (by decide))
     replace Z := Z.conv (t := 84) rfl (show (vals1 2) = .bool (!ok) from hV 2 (by decide))
     replace Z := Z.conv (t := 92) rfl (show (vals1 10) = .bool ((!ok) || (l_2 != x_3.last)) from hV 10 (by decide))
     replace Z := Z.conv (t := 93) rfl (show (vals1 11) = .bool ((!ok) || (l_2 != x_3.last)) from hV 11 (by decide))
     replace Z := Z.conv (t := 99) rfl (show (vals1 17) = .bool (((!ok) || (l_2 != x_3.last)) || (c != c_2)) from hV 17 (by decide))
     obtain ⟨I6, _, H⟩ := Gx.ex hG
     clear hG hV
     replace Z := Z.sub (ts := [0, 2, 3, 4, 5, 6, 14, 15, 16, 17, 18, 21, 24, 25, 26, 27, 28, 36, 37, 82, 83, 84, 92, 93, 99]) rfl
     replace H : Hf I D w I6 w7 [OEref16_Store b1 x_3, OEmvcc_Store g1 s0_2, SlC NElaw16_Act v1_l l] := H
     refine p_then ?_
     refine f_cond Z rfl (fun hc3 => ?_) (fun hc3 => ?_)
     ·replace hF := ite_t hc3 hF
      refine wp_seq (f_region Z ?_); clear Z; intro Z
      refine s_runk tMWPlays Z 1 rfl rfl ?_; clear Z a; intro a Z
      refine s_end Z [0, 2, 3, 4, 5, 6, 14, 15, 16, 17, 18, 21, 24, 25, 26, 27, 28, 36, 37, 82, 83, 84, 92, 93, 99] rfl ?_; clear Z; intro Z
      refine p_then (wp_ret ?_)
      refine p_blk_r ?_
      refine p_then_r ?_
      refine p_then_r ?_
      refine p_blk_r ?_
      refine p_then_r ?_
      obtain rfl := some_in hF
      exact f_ret Z (run_results1 rfl Z rfl) ⟨rfl, I6, (H.sub [] rfl).eq rfl⟩
     ·replace hF := ite_f hc3 hF
      refine wp_skip ?_
      refine p_blk ?_
      refine p_then ?_
      obtain ⟨hg1, hF⟩ := chk_in hF
      refine f_region Z ?_; clear Z; intro Z
      refine s_runk tMWPlays Z 1 rfl rfl ?_; clear Z a; intro a Z
      refine s_ob Z (v := .int .i64 (i + 1)) rfl rfl (by decide) rfl (Ob_add rfl rfl rfl (wrI hg1)) ?_; clear Z a; intro a Z
      refine s_runk tMWPlays Z 1 rfl rfl ?_; clear Z a; intro a Z
      refine s_end Z [0, 2, 3, 4, 5, 6, 14, 15, 16, 17, 18, 21, 24, 25, 26, 27, 28, 36, 37, 82, 83, 84, 92, 93, 99, 22, 23] rfl ?_; clear Z; intro Z
      refine p_then ?_
      exact ⟨(i + 1, s0_2, x_3), ⟨Z.sub (ts := [0, 2, 3, 4, 5]) rfl, ⟨I6, (H.sub [(1, false), (0, false), (0, true)] rfl).eq rfl⟩⟩, hF⟩
   ·skip
    refine wp_seq ?_
    obtain ⟨hg2, hF⟩ := chk_in hF
    refine f_region Z ?_; clear Z; intro Z
    refine s_runk tMWPlays Z 2 rfl rfl ?_; clear Z a; intro a Z
    refine s_ob Z (v := .pointer (some ⟨blkOf v1_l, oofOf v1_l + (i).toNat * 6, none⟩)) rfl rfl (by decide) rfl (Ob_sidx tMWPlays rfl rfl rfl rfl (slPl (H.sl 2 rfl) hg2) hg2) ?_; clear Z a; intro a Z
    refine s_runk tMWPlays Z 1 rfl rfl ?_; clear Z a; intro a Z
    obtain ⟨_, ⟨u1, rfl, L1⟩, H⟩ := H.elG 2 rfl (i) (NElaw16_Act.dft _ _)
    replace H := H.addsl L1
    replace H : Hf I D w I4 w5 [SlC NEOp u1 ((l.getD (i).toNat default).ops), AtG ((0 : Int) ≤ i ∧ i < (l.length : Int)) (blkOf v1_l) (oofOf v1_l + (i).toNat * 6) [.int .i64 ((l.getD (i).toNat default).c), .int .u64 ((l.getD (i).toNat default).t), u1, .string ((l.getD (i).toNat default).k), .string ((l.getD (i).toNat default).to_), .int .i64 ((l.getD (i).toNat default).n)], OEmvcc_Store g1 s0, OEref16_Store b1 x, SlC NElaw16_Act v1_l l] := H
    refine s_ob Z (v := .int .i64 ((l.getD (i).toNat default).c)) rfl rfl (by decide) rfl (Ob_load tMWPlays rfl rfl rfl ((H.atg 1 rfl hg2) 0 _ rfl)) ?_; clear Z a; intro a Z
    refine s_end Z [0, 2, 3, 4, 5, 14, 15, 16, 17, 18, 21, 6, 24, 25, 26, 27, 28] rfl ?_; clear Z; intro Z
    refine p_then (wp_block ?_)
    refine f_cut (fun a' w' => ∃ (x_4 : Bool), Sl 101 [(0, v1_l), (2, .bool false), (3, .pointer (some ⟨g1, 0, none⟩)), (4, .pointer (some ⟨b1, 0, none⟩)), (5, .int .i64 i), (6, .bool true), (14, .int .i64 i), (15, v1_l), (16, .int .i64 (l.length : Int)), (17, .bool (decide (i < (l.length : Int)))), (18, .bool (decide (i < (l.length : Int)))), (21, .bool ((decide (i < (l.length : Int))) && (decide (i < 40)))), (24, v1_l), (25, .int .i64 i), (26, .pointer (some ⟨blkOf v1_l, oofOf v1_l + (i).toNat * 6, none⟩)), (27, .pointer (some ⟨blkOf v1_l, oofOf v1_l + (i).toNat * 6, none⟩)), (28, .int .i64 ((l.getD (i).toNat default).c)), (36, .bool x_4), (37, .bool (((l.getD (i).toNat default).c) == 0))] a' ∧ (∃ I2, Hf I D w I2 w' [OEmvcc_Store g1 s0, OEref16_Store b1 x, SlC NElaw16_Act v1_l l]) ∧ F_law16_MvccPlays_k3 l i s0 x rc x_4 = some rr) ?_ ?_
    ·rintro a w8 ⟨x_4, Z, ⟨I7, H⟩, hF⟩
     unfold F_law16_MvccPlays_k3 at hF
     try dsimp only at hF
     refine f_cond Z rfl (fun hc4 => ?_) (fun hc4 => ?_)
     ·replace hF := ite_t hc4 hF
      obtain ⟨hg3, hF⟩ := chk_in hF
      obtain ⟨_, ⟨u2, rfl, L2⟩, H⟩ := H.elG 2 rfl (i) (NElaw16_Act.dft _ _)
      replace H := H.addsl L2
      replace H : Hf I D w I7 w8 [SlC NEOp u2 ((l.getD (i).toNat default).ops), AtG ((0 : Int) ≤ i ∧ i < (l.length : Int)) (blkOf v1_l) (oofOf v1_l + (i).toNat * 6) [.int .i64 ((l.getD (i).toNat default).c), .int .u64 ((l.getD (i).toNat default).t), u2, .string ((l.getD (i).toNat default).k), .string ((l.getD (i).toNat default).to_), .int .i64 ((l.getD (i).toNat default).n)], OEmvcc_Store g1 s0, OEref16_Store b1 x, SlC NElaw16_Act v1_l l] := H
      obtain ⟨hg4, hF⟩ := chk_in hF
      obtain ⟨p, hx7, hF⟩ := bnd_in hF
      obtain ⟨hg5, hF⟩ := chk_in hF
      obtain ⟨hg6, hF⟩ := chk_in hF
      obtain ⟨p_2, hx8, hF⟩ := bnd_in hF
      refine f_regionL Z (by kernel_rfl) (by kernel_rfl) (by decide) (by decide) [11, 23] [(0, 0, 0), (0, 0, 0), (0, 0, 0), (6, 0, 0), (14, 0, 0), (30, 0, 0), (0, 0, 0), (0, 0, 0), (192, 0, 0), (448, 0, 0), (960, 0, 0), (2047, 0, 0), (0, 0, 1), (0, 0, 1), (0, 0, 1), (24576, 0, 1), (57344, 0, 1), (122880, 0, 1), (0, 0, 1), (0, 0, 1), (786432, 0, 1), (1835008, 0, 1), (3932160, 0, 1), (8388607, 1, 1), (16777215, 2, 2), (33554431, 2, 2)] (by kernel_rfl) (fun jj vv => cond (Nat.blt jj 13) (cond (Nat.blt jj 6) (cond (Nat.blt jj 3) (cond (Nat.blt jj 1) (vv = .pointer (some ⟨g1, 0, none⟩)) (cond (Nat.blt jj 2) (vv = v1_l) (vv = .int .i64 i))) (cond (Nat.blt jj 4) (vv = .pointer (some ⟨blkOf v1_l, oofOf v1_l + (i).toNat * 6, none⟩)) (cond (Nat.blt jj 5) (vv = .pointer (some ⟨blkOf v1_l, oofOf v1_l + (i).toNat * 6 + 1, none⟩)) (vv = .int .u64 ((l.getD (i).toNat default).t))))) (cond (Nat.blt jj 9) (cond (Nat.blt jj 7) (vv = v1_l) (cond (Nat.blt jj 8) (vv = .int .i64 i) (vv = .pointer (some ⟨blkOf v1_l, oofOf v1_l + (i).toNat * 6, none⟩)))) (cond (Nat.blt jj 11) (cond (Nat.blt jj 10) (vv = .pointer (some ⟨blkOf v1_l, oofOf v1_l + (i).toNat * 6 + 2, none⟩)) (vv = u2)) (cond (Nat.blt jj 12) (vv = .int .i64 p.1) (vv = .pointer (some ⟨b1, 0, none⟩)))))) (cond (Nat.blt jj 19) (cond (Nat.blt jj 16) (cond (Nat.blt jj 14) (vv = v1_l) (cond (Nat.blt jj 15) (vv = .int .i64 i) (vv = .pointer (some ⟨blkOf v1_l, oofOf v1_l + (i).toNat * 6, none⟩)))) (cond (Nat.blt jj 17) (vv = .pointer (some ⟨blkOf v1_l, oofOf v1_l + (i).toNat * 6 + 1, none⟩)) (cond (Nat.blt jj 18) (vv = .int .u64 ((l.getD (i).toNat default).t)) (vv = v1_l)))) (cond (Nat.blt jj 22) (cond (Nat.blt jj 20) (vv = .int .i64 i) (cond (Nat.blt jj 21) (vv = .pointer (some ⟨blkOf v1_l, oofOf v1_l + (i).toNat * 6, none⟩)) (vv = .pointer (some ⟨blkOf v1_l, oofOf v1_l + (i).toNat * 6 + 2, none⟩)))) (cond (Nat.blt jj 24) (cond (Nat.blt jj 23) (vv = u2) (vv = .int .i64 p_2.1)) (cond (Nat.blt jj 25) (vv = .bool (p.1 == p_2.1)) (vv = .bool (p.1 == p_2.1))))))) (fun ss vals2 xw => match ss with | 0 => Gx I D w I7 w8 xw [SlC NEOp u2 ((l.getD (i).toNat default).ops), AtG ((0 : Int) ≤ i ∧ i < (l.length : Int)) (blkOf v1_l) (oofOf v1_l + (i).toNat * 6) [.int .i64 ((l.getD (i).toNat default).c), .int .u64 ((l.getD (i).toNat default).t), u2, .string ((l.getD (i).toNat default).k), .string ((l.getD (i).toNat default).to_), .int .i64 ((l.getD (i).toNat default).n)], OEmvcc_Store g1 s0, OEref16_Store b1 x, SlC NElaw16_Act v1_l l] | 1 => Gx I D w I7 w8 xw [OEmvcc_Store g1 p.2, SlC NEOp u2 ((l.getD (i).toNat default).ops), AtG ((0 : Int) ≤ i ∧ i < (l.length : Int)) (blkOf v1_l) (oofOf v1_l + (i).toNat * 6) [.int .i64 ((l.getD (i).toNat default).c), .int .u64 ((l.getD (i).toNat default).t), u2, .string ((l.getD (i).toNat default).k), .string ((l.getD (i).toNat default).to_), .int .i64 ((l.getD (i).toNat default).n)], OEref16_Store b1 x, SlC NElaw16_Act v1_l l] | _ => Gx I D w I7 w8 xw [OEref16_Store b1 p_2.2, OEmvcc_Store g1 p.2, SlC NEOp u2 ((l.getD (i).toNat default).ops), AtG ((0 : Int) ≤ i ∧ i < (l.length : Int)) (blkOf v1_l) (oofOf v1_l + (i).toNat * 6) [.int .i64 ((l.getD (i).toNat default).c), .int .u64 ((l.getD (i).toNat default).t), u2, .string ((l.getD (i).toNat default).k), .string ((l.getD (i).toNat default).to_), .int .i64 ((l.getD (i).toNat default).n)], SlC NElaw16_Act v1_l l]) (fun _ => Gx.start H) ?_ ?_
      ·intro fr hfr hfe
       refine .cons (fun ss hlo hhi vals2 xw hG hV => ?_) ?_
       ·obtain rfl : ss = 0 := Nat.le_antisymm hhi hlo
        rw [← hfe]
        have hS := (hfr vals2).sub (ts := [3]) (S' := [(3, .pointer (some ⟨g1, 0, none⟩))]) rfl
        exact L_val hS rfl (Ob_c tMWPlays rfl) ⟨rfl, hG⟩
       refine .cons (fun ss hlo hhi vals2 xw hG hV => ?_) ?_
       ·obtain rfl : ss = 0 := Nat.le_antisymm hhi hlo
        rw [← hfe]
        have hS := (hfr vals2).sub (ts := [0]) (S' := [(0, v1_l)]) rfl
        exact L_val hS rfl (Ob_c tMWPlays rfl) ⟨rfl, hG⟩
       refine .cons (fun ss hlo hhi vals2 xw hG hV => ?_) ?_
       ·obtain rfl : ss = 0 := Nat.le_antisymm hhi hlo
        rw [← hfe]
        have hS := (hfr vals2).sub (ts := [5]) (S' := [(5, .int .i64 i)]) rfl
        exact L_val hS rfl (Ob_c tMWPlays rfl) ⟨rfl, hG⟩
       refine .cons (fun ss hlo hhi vals2 xw hG hV => ?_) ?_
       ·obtain rfl : ss = 0 := Nat.le_antisymm hhi hlo
        rw [← hfe]
        have hS := (hfr vals2).sub (ts := [41, 42]) (S' := [(41, vals2 1), (42, vals2 2)]) rfl
        replace hS := hS.conv (t := 41) rfl (show (vals2 1) = v1_l from hV 1 (by decide))
        replace hS := hS.conv (t := 42) rfl (show (vals2 2) = .int .i64 i from hV 2 (by decide))
        obtain ⟨I2, hI2, H⟩ := Gx.ex hG
        exact L_val hS rfl (Ob_sidx tMWPlays rfl rfl rfl rfl (slPl (H.sl 4 rfl) hg3) hg3) ⟨rfl, hG⟩
       refine .cons (fun ss hlo hhi vals2 xw hG hV => ?_) ?_
       ·obtain rfl : ss = 0 := Nat.le_antisymm hhi hlo
        rw [← hfe]
        have hS := (hfr vals2).sub (ts := [43]) (S' := [(43, vals2 3)]) rfl
        replace hS := hS.conv (t := 43) rfl (show (vals2 3) = .pointer (some ⟨blkOf v1_l, oofOf v1_l + (i).toNat * 6, none⟩) from hV 3 (by decide))
        exact L_val hS rfl (Ob_c tMWPlays rfl) ⟨rfl, hG⟩
       refine .cons (fun ss hlo hhi vals2 xw hG hV => ?_) ?_
       ·obtain rfl : ss = 0 := Nat.le_antisymm hhi hlo
        rw [← hfe]
        have hS := (hfr vals2).sub (ts := [44]) (S' := [(44, vals2 4)]) rfl
        replace hS := hS.conv (t := 44) rfl (show (vals2 4) = .pointer (some ⟨blkOf v1_l, oofOf v1_l + (i).toNat * 6 + 1, none⟩) from hV 4 (by decide))
        obtain ⟨I2, hI2, H⟩ := Gx.ex hG
        exact L_val hS rfl (Ob_load tMWPlays rfl rfl rfl ((H.atg 1 rfl hg3) 1 _ rfl)) ⟨rfl, hG⟩
       refine .cons (fun ss hlo hhi vals2 xw hG hV => ?_) ?_
       ·obtain rfl : ss = 0 := Nat.le_antisymm hhi hlo
        rw [← hfe]
        have hS := (hfr vals2).sub (ts := [0]) (S' := [(0, v1_l)]) rfl
        exact L_val hS rfl (Ob_c tMWPlays rfl) ⟨rfl, hG⟩
       refine .cons (fun ss hlo hhi vals2 xw hG hV => ?_) ?_
       ·obtain rfl : ss = 0 := Nat.le_antisymm hhi hlo
        rw [← hfe]
        have hS := (hfr vals2).sub (ts := [5]) (S' := [(5, .int .i64 i)]) rfl
        exact L_val hS rfl (Ob_c tMWPlays rfl) ⟨rfl, hG⟩
       refine .cons (fun ss hlo hhi vals2 xw hG hV => ?_) ?_
       ·obtain rfl : ss = 0 := Nat.le_antisymm hhi hlo
        rw [← hfe]
        have hS := (hfr vals2).sub (ts := [46, 47]) (S' := [(46, vals2 6), (47, vals2 7)]) rfl
        replace hS := hS.conv (t := 46) rfl (show (vals2 6) = v1_l from hV 6 (by decide))
        replace hS := hS.conv (t := 47) rfl (show (vals2 7) = .int .i64 i from hV 7 (by decide))
        obtain ⟨I2, hI2, H⟩ := Gx.ex hG
        exact L_val hS rfl (Ob_sidx tMWPlays rfl rfl rfl rfl (slPl (H.sl 4 rfl) hg4) hg4) ⟨rfl, hG⟩
       refine .cons (fun ss hlo hhi vals2 xw hG hV => ?_) ?_
       ·obtain rfl : ss = 0 := Nat.le_antisymm hhi hlo
        rw [← hfe]
        have hS := (hfr vals2).sub (ts := [48]) (S' := [(48, vals2 8)]) rfl
        replace hS := hS.conv (t := 48) rfl (show (vals2 8) = .pointer (some ⟨blkOf v1_l, oofOf v1_l + (i).toNat * 6, none⟩) from hV 8 (by decide))
        exact L_val hS rfl (Ob_c tMWPlays rfl) ⟨rfl, hG⟩
       refine .cons (fun ss hlo hhi vals2 xw hG hV => ?_) ?_
       ·obtain rfl : ss = 0 := Nat.le_antisymm hhi hlo
        rw [← hfe]
        have hS := (hfr vals2).sub (ts := [49]) (S' := [(49, vals2 9)]) rfl
        replace hS := hS.conv (t := 49) rfl (show (vals2 9) = .pointer (some ⟨blkOf v1_l, oofOf v1_l + (i).toNat * 6 + 2, none⟩) from hV 9 (by decide))
        obtain ⟨I2, hI2, H⟩ := Gx.ex hG
        exact L_val hS rfl (Ob_load tMWPlays rfl rfl rfl ((H.atg 1 rfl hg4) 2 _ rfl)) ⟨rfl, hG⟩
       refine .cons (fun ss hlo hhi vals2 xw hG hV => ?_) ?_
       ·obtain rfl : ss = 0 := Nat.le_antisymm hhi hlo
        rw [← hfe]
        have hS := (hfr vals2).sub (ts := [40, 45, 50]) (S' := [(40, vals2 0), (45, vals2 5), (50, vals2 10)]) rfl
        replace hS := hS.conv (t := 40) rfl (show (vals2 0) = .pointer (some ⟨g1, 0, none⟩) from hV 0 (by decide))
        replace hS := hS.conv (t := 45) rfl (show (vals2 5) = .int .u64 ((l.getD (i).toNat default).t) from hV 5 (by decide))
        replace hS := hS.conv (t := 50) rfl (show (vals2 10) = u2 from hV 10 (by decide))
        obtain ⟨I2, hI2, H⟩ := Gx.ex hG
        refine L_hcall H (js := [(2, false), (0, true)]) rfl (caps := #[]) hS fn_11_YMWPlays rfl rfl rfl rfl rfl (fun D1 hS => have hq := c_mvcc_Store_Put hx7 hS; hq) fun _ yw D1 hr hF2 => ?_
        obtain ⟨rfl, I3, K⟩ := hr
        obtain ⟨hK, H2⟩ := hF2 K
        exact ⟨rfl, Gx.go hG hI2 hK K.imm H2⟩
       refine .cons (fun ss hlo hhi vals2 xw hG hV => ?_) ?_
       ·obtain rfl | rfl : ss = 0 ∨ ss = 1 := st1 hlo hhi
        all_goals
        ·rw [← hfe]
         have hS := (hfr vals2).sub (ts := [4]) (S' := [(4, .pointer (some ⟨b1, 0, none⟩))]) rfl
         exact L_val hS rfl (Ob_c tMWPlays rfl) ⟨rfl, hG⟩
       refine .cons (fun ss hlo hhi vals2 xw hG hV => ?_) ?_
       ·obtain rfl | rfl : ss = 0 ∨ ss = 1 := st1 hlo hhi
        all_goals
        ·rw [← hfe]
         have hS := (hfr vals2).sub (ts := [0]) (S' := [(0, v1_l)]) rfl
         exact L_val hS rfl (Ob_c tMWPlays rfl) ⟨rfl, hG⟩
       refine .cons (fun ss hlo hhi vals2 xw hG hV => ?_) ?_
       ·obtain rfl | rfl : ss = 0 ∨ ss = 1 := st1 hlo hhi
        all_goals
        ·rw [← hfe]
         have hS := (hfr vals2).sub (ts := [5]) (S' := [(5, .int .i64 i)]) rfl
         exact L_val hS rfl (Ob_c tMWPlays rfl) ⟨rfl, hG⟩
       refine .cons (fun ss hlo hhi vals2 xw hG hV => ?_) ?_
       ·obtain rfl | rfl : ss = 0 ∨ ss = 1 := st1 hlo hhi
        all_goals
        ·rw [← hfe]
         have hS := (hfr vals2).sub (ts := [53, 54]) (S' := [(53, vals2 13), (54, vals2 14)]) rfl
         replace hS := hS.conv (t := 53) rfl (show (vals2 13) = v1_l from hV 13 (by decide))
         replace hS := hS.conv (t := 54) rfl (show (vals2 14) = .int .i64 i from hV 14 (by decide))
         obtain ⟨I2, hI2, H⟩ := Gx.ex hG
         exact L_val hS rfl (Ob_sidx tMWPlays rfl rfl rfl rfl (slPl (H.sl 4 rfl) hg5) hg5) ⟨rfl, hG⟩
       refine .cons (fun ss hlo hhi vals2 xw hG hV => ?_) ?_
       ·obtain rfl | rfl : ss = 0 ∨ ss = 1 := st1 hlo hhi
        all_goals
        ·rw [← hfe]
         have hS := (hfr vals2).sub (ts := [55]) (S' := [(55, vals2 15)]) rfl
         replace hS := hS.conv (t := 55) rfl (show (vals2 15) = .pointer (some ⟨blkOf v1_l, oofOf v1_l + (i).toNat * 6, none⟩) from hV 15 (by decide))
         exact L_val hS rfl (Ob_c tMWPlays rfl) ⟨rfl, hG⟩
       refine .cons (fun ss hlo hhi vals2 xw hG hV => ?_) ?_
       ·obtain rfl | rfl : ss = 0 ∨ ss = 1 := st1 hlo hhi
        ·rw [← hfe]
         have hS := (hfr vals2).sub (ts := [56]) (S' := [(56, vals2 16)]) rfl
         replace hS := hS.conv (t := 56) rfl (show (vals2 16) = .pointer (some ⟨blkOf v1_l, oofOf v1_l + (i).toNat * 6 + 1, none⟩) from hV 16 (by decide))
         obtain ⟨I2, hI2, H⟩ := Gx.ex hG
         exact L_val hS rfl (Ob_load tMWPlays rfl rfl rfl ((H.atg 1 rfl hg5) 1 _ rfl)) ⟨rfl, hG⟩
        ·rw [← hfe]
         have hS := (hfr vals2).sub (ts := [56]) (S' := [(56, vals2 16)]) rfl
         replace hS := hS.conv (t := 56) rfl (show (vals2 16) = .pointer (some ⟨blkOf v1_l, oofOf v1_l + (i).toNat * 6 + 1, none⟩) from hV 16 (by decide))
         obtain ⟨I2, hI2, H⟩ := Gx.ex hG
         exact L_val hS rfl (Ob_load tMWPlays rfl rfl rfl ((H.atg 2 rfl hg5) 1 _ rfl)) ⟨rfl, hG⟩
       refine .cons (fun ss hlo hhi vals2 xw hG hV => ?_) ?_
       ·obtain rfl | rfl : ss = 0 ∨ ss = 1 := st1 hlo hhi
        all_goals
        ·rw [← hfe]
         have hS := (hfr vals2).sub (ts := [0]) (S' := [(0, v1_l)]) rfl
         exact L_val hS rfl (Ob_c tMWPlays rfl) ⟨rfl, hG⟩
       refine .cons (fun ss hlo hhi vals2 xw hG hV => ?_) ?_
       ·obtain rfl | rfl : ss = 0 ∨ ss = 1 := st1 hlo hhi
        all_goals
        ·rw [← hfe]
         have hS := (hfr vals2).sub (ts := [5]) (S' := [(5, .int .i64 i)]) rfl
         exact L_val hS rfl (Ob_c tMWPlays rfl) ⟨rfl, hG⟩
       refine .cons (fun ss hlo hhi vals2 xw hG hV => ?_) ?_
       ·obtain rfl | rfl : ss = 0 ∨ ss = 1 := st1 hlo hhi
        all_goals
        ·rw [← hfe]
         have hS := (hfr vals2).sub (ts := [58, 59]) (S' := [(58, vals2 18), (59, vals2 19)]) rfl
         replace hS := hS.conv (t := 58) rfl (show (vals2 18) = v1_l from hV 18 (by decide))
         replace hS := hS.conv (t := 59) rfl (show (vals2 19) = .int .i64 i from hV 19 (by decide))
         obtain ⟨I2, hI2, H⟩ := Gx.ex hG
         exact L_val hS rfl (Ob_sidx tMWPlays rfl rfl rfl rfl (slPl (H.sl 4 rfl) hg6) hg6) ⟨rfl, hG⟩
       refine .cons (fun ss hlo hhi vals2 xw hG hV => ?_) ?_
       ·obtain rfl | rfl : ss = 0 ∨ ss = 1 := st1 hlo hhi
        all_goals
        ·rw [← hfe]
         have hS := (hfr vals2).sub (ts := [60]) (S' := [(60, vals2 20)]) rfl
         replace hS := hS.conv (t := 60) rfl (show (vals2 20) = .pointer (some ⟨blkOf v1_l, oofOf v1_l + (i).toNat * 6, none⟩) from hV 20 (by decide))
         exact L_val hS rfl (Ob_c tMWPlays rfl) ⟨rfl, hG⟩
       refine .cons (fun ss hlo hhi vals2 xw hG hV => ?_) ?_
       ·obtain rfl | rfl : ss = 0 ∨ ss = 1 := st1 hlo hhi
        ·rw [← hfe]
         have hS := (hfr vals2).sub (ts := [61]) (S' := [(61, vals2 21)]) rfl
         replace hS := hS.conv (t := 61) rfl (show (vals2 21) = .pointer (some ⟨blkOf v1_l, oofOf v1_l + (i).toNat * 6 + 2, none⟩) from hV 21 (by decide))
         obtain ⟨I2, hI2, H⟩ := Gx.ex hG
         exact L_val hS rfl (Ob_load tMWPlays rfl rfl rfl ((H.atg 1 rfl hg6) 2 _ rfl)) ⟨rfl, hG⟩
        ·rw [← hfe]
         have hS := (hfr vals2).sub (ts := [61]) (S' := [(61, vals2 21)]) rfl
         replace hS := hS.conv (t := 61) rfl (show (vals2 21) = .pointer (some ⟨blkOf v1_l, oofOf v1_l + (i).toNat * 6 + 2, none⟩) from hV 21 (by decide))
         obtain ⟨I2, hI2, H⟩ := Gx.ex hG
         exact L_val hS rfl (Ob_load tMWPlays rfl rfl rfl ((H.atg 2 rfl hg6) 2 _ rfl)) ⟨rfl, hG⟩
       refine .cons (fun ss hlo hhi vals2 xw hG hV => ?_) ?_
       ·obtain rfl : ss = 1 := Nat.le_antisymm hhi hlo
        rw [← hfe]
        have hS := (hfr vals2).sub (ts := [52, 57, 62]) (S' := [(52, vals2 12), (57, vals2 17), (62, vals2 22)]) rfl
        replace hS := hS.conv (t := 52) rfl (show (vals2 12) = .pointer (some ⟨b1, 0, none⟩) from hV 12 (by decide))
        replace hS := hS.conv (t := 57) rfl (show (vals2 17) = .int .u64 ((l.getD (i).toNat default).t) from hV 17 (by decide))
        replace hS := hS.conv (t := 62) rfl (show (vals2 22) = u2 from hV 22 (by decide))
        obtain ⟨I2, hI2, H⟩ := Gx.ex hG
        refine L_hcall H (js := [(3, false), (1, true)]) rfl (caps := #[]) hS fn_16_YMWPlays rfl rfl rfl rfl rfl (fun D1 hS => have hq := c_ref16_Store_Put hx8 hS; hq) fun _ yw D1 hr hF2 => ?_
        obtain ⟨rfl, I3, K⟩ := hr
        obtain ⟨hK, H2⟩ := hF2 K
        exact ⟨rfl, Gx.go hG hI2 hK K.imm H2⟩
       refine .cons (fun ss hlo hhi vals2 xw hG hV => ?_) ?_
       ·obtain rfl : ss = 2 := Nat.le_antisymm hhi hlo
        rw [← hfe]
        have hS := (hfr vals2).sub (ts := [51, 63]) (S' := [(51, vals2 11), (63, vals2 23)]) rfl
        replace hS := hS.conv (t := 51) rfl (show (vals2 11) = .int .i64 p.1 from hV 11 (by decide))
        replace hS := hS.conv (t := 63) rfl (show (vals2 23) = .int .i64 p_2.1 from hV 23 (by decide))
        exact L_val hS rfl (Ob_c tMWPlays rfl) ⟨rfl, hG⟩
       refine .cons (fun ss hlo hhi vals2 xw hG hV => ?_) ?_
       ·obtain rfl : ss = 2 := Nat.le_antisymm hhi hlo
        rw [← hfe]
        have hS := (hfr vals2).sub (ts := [64]) (S' := [(64, vals2 24)]) rfl
        replace hS := hS.conv (t := 64) rfl (show (vals2 24) = .bool (p.1 == p_2.1) from hV 24 (by decide))
        exact L_val hS rfl (Ob_c tMWPlays rfl) ⟨rfl, hG⟩
       exact .nil
      ·intro vals2 a w9 Z hG hV
       replace Z := Z.sub (ts := [0, 2, 3, 4, 5, 6, 14, 15, 16, 17, 18, 21, 24, 25, 26, 27, 28, 36, 37, 40, 41, 42, 43, 44, 45, 46, 47, 48, 49, 50, 51, 52, 53, 54, 55, 56, 57, 58, 59, 60, 61, 62, 63, 64]) (S' := [(0, v1_l), (2, .bool false), (3, .pointer (some ⟨g1, 0, none⟩)), (4, .pointer (some ⟨b1, 0, none⟩)), (5, .int .i64 i), (6, vals2 25), (14, .int .i64 i), (15, v1_l), (16, .int .i64 (l.length : Int)), (17, .bool (decide (i < (l.length : Int)))), (18, .bool (decide (i < (l.length : Int)))), (21, .bool ((decide (i < (l.length : Int))) && (decide (i < 40)))), (24, v1_l), (25, .int .i64 i), (26, .pointer (some ⟨blkOf v1_l, oofOf v1_l + (i).toNat * 6, none⟩)), (27, .pointer (some ⟨blkOf v1_l, oofOf v1_l + (i).toNat * 6, none⟩)), (28, .int .i64 ((l.getD (i).toNat default).c)), (36, .bool x_4), (37, .bool (((l.getD (i).toNat default).c) == 0)), (40, vals2 0), (41, vals2 1), (42, vals2 2), (43, vals2 3), (44, vals2 4), (45, vals2 5), (46, vals2 6), (47, vals2 7), (48, vals2 8), (49, vals2 9), (50, vals2 10), (51, vals2 11), (52, vals2 12), (53, vals2 13), (54, vals2 14), (55, vals2 15), (56, vals2 16), (57, vals2 17), (58, vals2 18), (59, vals2 19), (60, vals2 20), (61, vals2 21), (62, vals2 22), (63, vals2 23), (64, vals2 24)]) rfl
       replace Z := Z.conv (t := 6) rfl (show (vals2 25) = .bool (p.1 == p_2.1) from hV 25 (by decide))
       replace Z := Z.conv (t := 40) rfl (show (vals2 0) = .pointer (some ⟨g1, 0, none⟩) from hV 0 (by decide))
       replace Z := Z.conv (t := 41) rfl (show (vals2 1) = v1_l from hV 1 (by decide))
       replace Z := Z.conv (t := 42) rfl (show (vals2 2) = .int .i64 i from hV 2 (by decide))
       replace Z := Z.conv (t := 43) rfl (show (vals2 3) = .pointer (some ⟨blkOf v1_l, oofOf v1_l + (i).toNat * 6, none⟩) from hV 3 (by decide))
       replace Z := Z.conv (t := 44) rfl (show (vals2 4) = .pointer (some ⟨blkOf v1_l, oofOf v1_l + (i).toNat * 6 + 1, none⟩) from hV 4 (by decide))
       replace Z := Z.conv (t := 45) rfl (show (vals2 5) = .int .u64 ((l.getD (i).toNat default).t) from hV 5 (by decide))
       replace Z := Z.conv (t := 46) rfl (show (vals2 6) = v1_l from hV 6 (by decide))
       replace Z := Z.conv (t := 47) rfl (show (vals2 7) = .int .i64 i from hV 7 (by decide))
       replace Z := Z.conv (t := 48) rfl (show (vals2 8) = .pointer (some ⟨blkOf v1_l, oofOf v1_l + (i).toNat * 6, none⟩) from hV 8 (by decide))
       replace Z := Z.conv (t := 49) rfl (show (vals2 9) = .pointer (some ⟨blkOf v1_l, oofOf v1_l + (i).toNat * 6 + 2, none⟩) from hV 9 (by decide))
       replace Z := Z.conv (t := 50) rfl (show (vals2 10) = u2 from hV 10 (by decide))
       replace Z := Z.conv (t := 51) rfl (show (vals2 11) = .int .i64 p.1 from hV 11 (by decide))
       replace Z := Z.conv (t := 52) rfl (show (vals2 12) = .pointer (some ⟨b1, 0, none⟩) from hV 12 (by decide))
       replace Z := Z.conv (t := 53) rfl (show (vals2 13) = v1_l from hV 13 (by decide))
       replace Z := Z.conv (t := 54) rfl (show (vals2 14) = .int .i64 i from hV 14 (by decide))
       replace Z := Z.conv (t := 55) rfl (show (vals2 15) = .pointer (some ⟨blkOf v1_l, oofOf v1_l + (i).toNat * 6, none⟩) from hV 15 (by decide))
       replace Z := Z.conv (t := 56) rfl (show (vals2 16) = .pointer (some ⟨blkOf v1_l, oofOf v1_l + (i).toNat * 6 + 1, none⟩) from hV 16 (by decide))
       replace Z := Z.conv (t := 57) rfl (show (vals2 17) = .int .u64 ((l.getD (i).toNat default).t) from hV 17 (by decide))
       replace Z := Z.conv (t := 58) rfl (show (vals2 18) = v1_l from hV 18 (by decide))
       replace Z := Z.conv (t := 59) rfl (show (vals2 19) = .int .i64 i from hV 19 (by decide))
       replace Z := Z.conv (t := 60) rfl (show (vals2 20) = .pointer (some ⟨blkOf v1_l, oofOf v1_l + (i).toNat * 6, none⟩) from hV 20 (by decide))
       replace Z := Z.conv (t := 61) rfl (show (vals2 21) = .pointer (some ⟨blkOf v1_l, oofOf v1_l + (i).toNat * 6 + 2, none⟩) from hV 21 (by decide))
       replace Z := Z.conv (t := 62) rfl (show (vals2 22) = u2 from hV 22 (by decide))
       replace Z := Z.conv (t := 63) rfl (show (vals2 23) = .int .i64 p_2.1 from hV 23 (by decide))
       replace Z := Z.conv (t := 64) rfl (show (vals2 24) = .bool (p.1 == p_2.1) from hV 24 (by decide))
       obtain ⟨I8, _, H⟩ := Gx.ex hG
       clear hG hV
       replace Z := Z.sub (ts := [0, 2, 3, 4, 5, 6, 14, 15, 16, 17, 18, 21, 24, 25, 26, 27, 28, 36, 37, 40, 41, 42, 43, 44, 45, 46, 47, 48, 49, 50, 51, 52, 53, 54, 55, 56, 57, 58, 59, 60, 61, 62, 63, 64]) rfl
       replace H : Hf I D w I8 w9 [OEref16_Store b1 p_2.2, OEmvcc_Store g1 p.2, SlC NEOp u2 ((l.getD (i).toNat default).ops), AtG ((0 : Int) ≤ i ∧ i < (l.length : Int)) (blkOf v1_l) (oofOf v1_l + (i).toNat * 6) [.int .i64 ((l.getD (i).toNat default).c), .int .u64 ((l.getD (i).toNat default).t), u2, .string ((l.getD (i).toNat default).k), .string ((l.getD (i).toNat default).to_), .int .i64 ((l.getD (i).toNat default).n)], SlC NElaw16_Act v1_l l] := H
       refine p_blk ?_
       refine p_then ?_
       exact ⟨p.1 == p_2.1, x_4, p.2, p_2.2, Z.sub (ts := [0, 2, 3, 4, 5, 6, 14, 15, 16, 17, 18, 21, 24, 25, 26, 27, 28, 36, 37]) rfl, ⟨I8, (H.sub [(1, false), (0, false), (2, true)] rfl).eq rfl⟩, hF⟩
     ·replace hF := ite_f hc4 hF
      refine wp_seq (f_region Z ?_); clear Z; intro Z
      refine s_runk tMWPlays Z 2 rfl rfl ?_; clear Z a; intro a Z
      refine s_end Z [0, 2, 3, 4, 5, 6, 14, 15, 16, 17, 18, 21, 24, 25, 26, 27, 28, 36, 37, 66, 65] rfl ?_; clear Z; intro Z
      refine p_then ?_
      refine f_cond Z rfl (fun hc5 => ?_) (fun hc5 => ?_)
      ·replace hF := ite_t hc5 hF
       obtain ⟨hg7, hF⟩ := chk_in hF
       obtain ⟨_, ⟨u3, rfl, L3⟩, H⟩ := H.elG 2 rfl (i) (NElaw16_Act.dft _ _)
       replace H := H.addsl L3
       replace H : Hf I D w I7 w8 [SlC NEOp u3 ((l.getD (i).toNat default).ops), AtG ((0 : Int) ≤ i ∧ i < (l.length : Int)) (blkOf v1_l) (oofOf v1_l + (i).toNat * 6) [.int .i64 ((l.getD (i).toNat default).c), .int .u64 ((l.getD (i).toNat default).t), u3, .string ((l.getD (i).toNat default).k), .string ((l.getD (i).toNat default).to_), .int .i64 ((l.getD (i).toNat default).n)], OEmvcc_Store g1 s0, OEref16_Store b1 x, SlC NElaw16_Act v1_l l] := H
       obtain ⟨p_3, hx9, hF⟩ := bnd_in hF
       obtain ⟨hg8, hF⟩ := chk_in hF
       obtain ⟨p_4, hx10, hF⟩ := bnd_in hF
       refine f_regionL Z (by kernel_rfl) (by kernel_rfl) (by decide) (by decide) [6, 13] [(0, 0, 0), (0, 0, 0), (0, 0, 0), (6, 0, 0), (14, 0, 0), (30, 0, 0), (63, 0, 0), (0, 0, 1), (0, 0, 1), (0, 0, 1), (768, 0, 1), (1792, 0, 1), (3840, 0, 1), (8191, 1, 1), (16383, 2, 2), (32767, 2, 2)] (by kernel_rfl) (fun jj vv => cond (Nat.blt jj 8) (cond (Nat.blt jj 4) (cond (Nat.blt jj 2) (cond (Nat.blt jj 1) (vv = .pointer (some ⟨g1, 0, none⟩)) (vv = v1_l)) (cond (Nat.blt jj 3) (vv = .int .i64 i) (vv = .pointer (some ⟨blkOf v1_l, oofOf v1_l + (i).toNat * 6, none⟩)))) (cond (Nat.blt jj 6) (cond (Nat.blt jj 5) (vv = .pointer (some ⟨blkOf v1_l, oofOf v1_l + (i).toNat * 6 + 1, none⟩)) (vv = .int .u64 ((l.getD (i).toNat default).t))) (cond (Nat.blt jj 7) (vv = .int .i64 p_3.1) (vv = .pointer (some ⟨b1, 0, none⟩))))) (cond (Nat.blt jj 12) (cond (Nat.blt jj 10) (cond (Nat.blt jj 9) (vv = v1_l) (vv = .int .i64 i)) (cond (Nat.blt jj 11) (vv = .pointer (some ⟨blkOf v1_l, oofOf v1_l + (i).toNat * 6, none⟩)) (vv = .pointer (some ⟨blkOf v1_l, oofOf v1_l + (i).toNat * 6 + 1, none⟩)))) (cond (Nat.blt jj 14) (cond (Nat.blt jj 13) (vv = .int .u64 ((l.getD (i).toNat default).t)) (vv = .int .i64 p_4.1)) (cond (Nat.blt jj 15) (vv = .bool (p_3.1 == p_4.1)) (vv = .bool (p_3.1 == p_4.1)))))) (fun ss vals3 xw => match ss with | 0 => Gx I D w I7 w8 xw [SlC NEOp u3 ((l.getD (i).toNat default).ops), AtG ((0 : Int) ≤ i ∧ i < (l.length : Int)) (blkOf v1_l) (oofOf v1_l + (i).toNat * 6) [.int .i64 ((l.getD (i).toNat default).c), .int .u64 ((l.getD (i).toNat default).t), u3, .string ((l.getD (i).toNat default).k), .string ((l.getD (i).toNat default).to_), .int .i64 ((l.getD (i).toNat default).n)], OEmvcc_Store g1 s0, OEref16_Store b1 x, SlC NElaw16_Act v1_l l] | 1 => Gx I D w I7 w8 xw [OEmvcc_Store g1 p_3.2, SlC NEOp u3 ((l.getD (i).toNat default).ops), AtG ((0 : Int) ≤ i ∧ i < (l.length : Int)) (blkOf v1_l) (oofOf v1_l + (i).toNat * 6) [.int .i64 ((l.getD (i).toNat default).c), .int .u64 ((l.getD (i).toNat default).t), u3, .string ((l.getD (i).toNat default).k), .string ((l.getD (i).toNat default).to_), .int .i64 ((l.getD (i).toNat default).n)], OEref16_Store b1 x, SlC NElaw16_Act v1_l l] | _ => Gx I D w I7 w8 xw [OEref16_Store b1 p_4.2, OEmvcc_Store g1 p_3.2, SlC NEOp u3 ((l.getD (i).toNat default).ops), AtG ((0 : Int) ≤ i ∧ i < (l.length : Int)) (blkOf v1_l) (oofOf v1_l + (i).toNat * 6) [.int .i64 ((l.getD (i).toNat default).c), .int .u64 ((l.getD (i).toNat default).t), u3, .string ((l.getD (i).toNat default).k), .string ((l.getD (i).toNat default).to_), .int .i64 ((l.getD (i).toNat default).n)], SlC NElaw16_Act v1_l l]) (fun _ => Gx.start H) ?_ ?_
       ·intro fr hfr hfe
        refine .cons (fun ss hlo hhi vals3 xw hG hV => ?_) ?_
        ·obtain rfl : ss = 0 := Nat.le_antisymm hhi hlo
         rw [← hfe]
         have hS := (hfr vals3).sub (ts := [3]) (S' := [(3, .pointer (some ⟨g1, 0, none⟩))]) rfl
         exact L_val hS rfl (Ob_c tMWPlays rfl) ⟨rfl, hG⟩
        refine .cons (fun ss hlo hhi vals3 xw hG hV => ?_) ?_
        ·obtain rfl : ss = 0 := Nat.le_antisymm hhi hlo
         rw [← hfe]
         have hS := (hfr vals3).sub (ts := [0]) (S' := [(0, v1_l)]) rfl
         exact L_val hS rfl (Ob_c tMWPlays rfl) ⟨rfl, hG⟩
        refine .cons (fun ss hlo hhi vals3 xw hG hV => ?_) ?_
        ·obtain rfl : ss = 0 := Nat.le_antisymm hhi hlo
         rw [← hfe]
         have hS := (hfr vals3).sub (ts := [5]) (S' := [(5, .int .i64 i)]) rfl
         exact L_val hS rfl (Ob_c tMWPlays rfl) ⟨rfl, hG⟩
        refine .cons (fun ss hlo hhi vals3 xw hG hV => ?_) ?_
        ·obtain rfl : ss = 0 := Nat.le_antisymm hhi hlo
         rw [← hfe]
         have hS := (hfr vals3).sub (ts := [68, 69]) (S' := [(68, vals3 1), (69, vals3 2)]) rfl
         replace hS := hS.conv (t := 68) rfl (show (vals3 1) = v1_l from hV 1 (by decide))
         replace hS := hS.conv (t := 69) rfl (show (vals3 2) = .int .i64 i from hV 2 (by decide))
         obtain ⟨I2, hI2, H⟩ := Gx.ex hG
         exact L_val hS rfl (Ob_sidx tMWPlays rfl rfl rfl rfl (slPl (H.sl 4 rfl) hg7) hg7) ⟨rfl, hG⟩
        refine .cons (fun ss hlo hhi vals3 xw hG hV => ?_) ?_
        ·obtain rfl : ss = 0 := Nat.le_antisymm hhi hlo
         rw [← hfe]
         have hS := (hfr vals3).sub (ts := [70]) (S' := [(70, vals3 3)]) rfl
         replace hS := hS.conv (t := 70) rfl (show (vals3 3) = .pointer (some ⟨blkOf v1_l, oofOf v1_l + (i).toNat * 6, none⟩) from hV 3 (by decide))
         exact L_val hS rfl (Ob_c tMWPlays rfl) ⟨rfl, hG⟩
        refine .cons (fun ss hlo hhi vals3 xw hG hV => ?_) ?_
        ·obtain rfl : ss = 0 := Nat.le_antisymm hhi hlo
         rw [← hfe]
         have hS := (hfr vals3).sub (ts := [71]) (S' := [(71, vals3 4)]) rfl
         replace hS := hS.conv (t := 71) rfl (show (vals3 4) = .pointer (some ⟨blkOf v1_l, oofOf v1_l + (i).toNat * 6 + 1, none⟩) from hV 4 (by decide))
         obtain ⟨I2, hI2, H⟩ := Gx.ex hG
         exact L_val hS rfl (Ob_load tMWPlays rfl rfl rfl ((H.atg 1 rfl hg7) 1 _ rfl)) ⟨rfl, hG⟩
        refine .cons (fun ss hlo hhi vals3 xw hG hV => ?_) ?_
        ·obtain rfl : ss = 0 := Nat.le_antisymm hhi hlo
         rw [← hfe]
         have hS := (hfr vals3).sub (ts := [67, 72]) (S' := [(67, vals3 0), (72, vals3 5)]) rfl
         replace hS := hS.conv (t := 67) rfl (show (vals3 0) = .pointer (some ⟨g1, 0, none⟩) from hV 0 (by decide))
         replace hS := hS.conv (t := 72) rfl (show (vals3 5) = .int .u64 ((l.getD (i).toNat default).t) from hV 5 (by decide))
         obtain ⟨I2, hI2, H⟩ := Gx.ex hG
         refine L_hcall H (js := [(2, false)]) rfl (caps := #[]) hS fn_17_YMWPlays rfl rfl rfl rfl rfl (fun D1 hS => have hq := c_mvcc_Store_Prune hx9 hS; hq) fun _ yw D1 hr hF2 => ?_
         obtain ⟨rfl, I3, K⟩ := hr
         obtain ⟨hK, H2⟩ := hF2 K
         exact ⟨rfl, Gx.go hG hI2 hK K.imm H2⟩
        refine .cons (fun ss hlo hhi vals3 xw hG hV => ?_) ?_
        ·obtain rfl | rfl : ss = 0 ∨ ss = 1 := st1 hlo hhi
         all_goals
         ·rw [← hfe]
          have hS := (hfr vals3).sub (ts := [4]) (S' := [(4, .pointer (some ⟨b1, 0, none⟩))]) rfl
          exact L_val hS rfl (Ob_c tMWPlays rfl) ⟨rfl, hG⟩
        refine .cons (fun ss hlo hhi vals3 xw hG hV => ?_) ?_
        ·obtain rfl | rfl : ss = 0 ∨ ss = 1 := st1 hlo hhi
         all_goals
         ·rw [← hfe]
          have hS := (hfr vals3).sub (ts := [0]) (S' := [(0, v1_l)]) rfl
          exact L_val hS rfl (Ob_c tMWPlays rfl) ⟨rfl, hG⟩
        refine .cons (fun ss hlo hhi vals3 xw hG hV => ?_) ?_
        ·obtain rfl | rfl : ss = 0 ∨ ss = 1 := st1 hlo hhi
         all_goals
         ·rw [← hfe]
          have hS := (hfr vals3).sub (ts := [5]) (S' := [(5, .int .i64 i)]) rfl
          exact L_val hS rfl (Ob_c tMWPlays rfl) ⟨rfl, hG⟩
        refine .cons (fun ss hlo hhi vals3 xw hG hV => ?_) ?_
        ·obtain rfl | rfl : ss = 0 ∨ ss = 1 := st1 hlo hhi
         all_goals
         ·rw [← hfe]
          have hS := (hfr vals3).sub (ts := [75, 76]) (S' := [(75, vals3 8), (76, vals3 9)]) rfl
          replace hS := hS.conv (t := 75) rfl (show (vals3 8) = v1_l from hV 8 (by decide))
          replace hS := hS.conv (t := 76) rfl (show (vals3 9) = .int .i64 i from hV 9 (by decide))
          obtain ⟨I2, hI2, H⟩ := Gx.ex hG
          exact L_val hS rfl (Ob_sidx tMWPlays rfl rfl rfl rfl (slPl (H.sl 4 rfl) hg8) hg8) ⟨rfl, hG⟩
        refine .cons (fun ss hlo hhi vals3 xw hG hV => ?_) ?_
        ·obtain rfl | rfl : ss = 0 ∨ ss = 1 := st1 hlo hhi
         all_goals
         ·rw [← hfe]
          have hS := (hfr vals3).sub (ts := [77]) (S' := [(77, vals3 10)]) rfl
          replace hS := hS.conv (t := 77) rfl (show (vals3 10) = .pointer (some ⟨blkOf v1_l, oofOf v1_l + (i).toNat * 6, none⟩) from hV 10 (by decide))
          exact L_val hS rfl (Ob_c tMWPlays rfl) ⟨rfl, hG⟩
        refine .cons (fun ss hlo hhi vals3 xw hG hV => ?_) ?_
        ·obtain rfl | rfl : ss = 0 ∨ ss = 1 := st1 hlo hhi
         ·rw [← hfe]
          have hS := (hfr vals3).sub (ts := [78]) (S' := [(78, vals3 11)]) rfl
          replace hS := hS.conv (t := 78) rfl (show (vals3 11) = .pointer (some ⟨blkOf v1_l, oofOf v1_l + (i).toNat * 6 + 1, none⟩) from hV 11 (by decide))
          obtain ⟨I2, hI2, H⟩ := Gx.ex hG
          exact L_val hS rfl (Ob_load tMWPlays rfl rfl rfl ((H.atg 1 rfl hg8) 1 _ rfl)) ⟨rfl, hG⟩
         ·rw [← hfe]
          have hS := (hfr vals3).sub (ts := [78]) (S' := [(78, vals3 11)]) rfl
          replace hS := hS.conv (t := 78) rfl (show (vals3 11) = .pointer (some ⟨blkOf v1_l, oofOf v1_l + (i).toNat * 6 + 1, none⟩) from hV 11 (by decide))
          obtain ⟨I2, hI2, H⟩ := Gx.ex hG
          exact L_val hS rfl (Ob_load tMWPlays rfl rfl rfl ((H.atg 2 rfl hg8) 1 _ rfl)) ⟨rfl, hG⟩
        refine .cons (fun ss hlo hhi vals3 xw hG hV => ?_) ?_
        ·obtain rfl : ss = 1 := Nat.le_antisymm hhi hlo
         rw [← hfe]
         have hS := (hfr vals3).sub (ts := [74, 79]) (S' := [(74, vals3 7), (79, vals3 12)]) rfl
         replace hS := hS.conv (t := 74) rfl (show (vals3 7) = .pointer (some ⟨b1, 0, none⟩) from hV 7 (by decide))
         replace hS := hS.conv (t := 79) rfl (show (vals3 12) = .int .u64 ((l.getD (i).toNat default).t) from hV 12 (by decide))
         obtain ⟨I2, hI2, H⟩ := Gx.ex hG
         refine L_hcall H (js := [(3, false)]) rfl (caps := #[]) hS fn_18_YMWPlays rfl rfl rfl rfl rfl (fun D1 hS => have hq := c_ref16_Store_Prune hx10 hS; hq) fun _ yw D1 hr hF2 => ?_
         obtain ⟨rfl, I3, K⟩ := hr
         obtain ⟨hK, H2⟩ := hF2 K
         exact ⟨rfl, Gx.go hG hI2 hK K.imm H2⟩
        refine .cons (fun ss hlo hhi vals3 xw hG hV => ?_) ?_
        ·obtain rfl : ss = 2 := Nat.le_antisymm hhi hlo
         rw [← hfe]
         have hS := (hfr vals3).sub (ts := [73, 80]) (S' := [(73, vals3 6), (80, vals3 13)]) rfl
         replace hS := hS.conv (t := 73) rfl (show (vals3 6) = .int .i64 p_3.1 from hV 6 (by decide))
         replace hS := hS.conv (t := 80) rfl (show (vals3 13) = .int .i64 p_4.1 from hV 13 (by decide))
         exact L_val hS rfl (Ob_c tMWPlays rfl) ⟨rfl, hG⟩
        refine .cons (fun ss hlo hhi vals3 xw hG hV => ?_) ?_
        ·obtain rfl : ss = 2 := Nat.le_antisymm hhi hlo
         rw [← hfe]
         have hS := (hfr vals3).sub (ts := [81]) (S' := [(81, vals3 14)]) rfl
         replace hS := hS.conv (t := 81) rfl (show (vals3 14) = .bool (p_3.1 == p_4.1) from hV 14 (by decide))
         exact L_val hS rfl (Ob_c tMWPlays rfl) ⟨rfl, hG⟩
        exact .nil
       ·intro vals3 a w10 Z hG hV
        replace Z := Z.sub (ts := [0, 2, 3, 4, 5, 6, 14, 15, 16, 17, 18, 21, 24, 25, 26, 27, 28, 36, 37, 66, 65, 67, 68, 69, 70, 71, 72, 73, 74, 75, 76, 77, 78, 79, 80, 81]) (S' := [(0, v1_l), (2, .bool false), (3, .pointer (some ⟨g1, 0, none⟩)), (4, .pointer (some ⟨b1, 0, none⟩)), (5, .int .i64 i), (6, vals3 15), (14, .int .i64 i), (15, v1_l), (16, .int .i64 (l.length : Int)), (17, .bool (decide (i < (l.length : Int)))), (18, .bool (decide (i < (l.length : Int)))), (21, .bool ((decide (i < (l.length : Int))) && (decide (i < 40)))), (24, v1_l), (25, .int .i64 i), (26, .pointer (some ⟨blkOf v1_l, oofOf v1_l + (i).toNat * 6, none⟩)), (27, .pointer (some ⟨blkOf v1_l, oofOf v1_l + (i).toNat * 6, none⟩)), (28, .int .i64 ((l.getD (i).toNat default).c)), (36, .bool x_4), (37, .bool (((l.getD (i).toNat default).c) == 0)), (66, .bool (((l.getD (i).toNat default).c) == 3)), (65, .bool (((l.getD (i).toNat default).c) == 3)), (67, vals3 0), (68, vals3 1), (69, vals3 2), (70, vals3 3), (71, vals3 4), (72, vals3 5), (73, vals3 6), (74, vals3 7), (75, vals3 8), (76, vals3 9), (77, vals3 10), (78, vals3 11), (79, vals3 12), (80, vals3 13), (81, vals3 14)]) rfl
        replace Z := Z.conv (t := 6) rfl (show (vals3 15) = .bool (p_3.1 == p_4.1) from hV 15 (by decide))
        replace Z := Z.conv (t := 67) rfl (show (vals3 0) = .pointer (some ⟨g1, 0, none⟩) from hV 0 (by decide))
        replace Z := Z.conv (t := 68) rfl (show (vals3 1) = v1_l from hV 1 (by decide))
        replace Z := Z.conv (t := 69) rfl (show (vals3 2) = .int .i64 i from hV 2 (by decide))
        replace Z := Z.conv (t := 70) rfl (show (vals3 3) = .pointer (some ⟨blkOf v1_l, oofOf v1_l + (i).toNat * 6, none⟩) from hV 3 (by decide))
        replace Z := Z.conv (t := 71) rfl (show (vals3 4) = .pointer (some ⟨blkOf v1_l, oofOf v1_l + (i).toNat * 6 + 1, none⟩) from hV 4 (by decide))
        replace Z := Z.conv (t := 72) rfl (show (vals3 5) = .int .u64 ((l.getD (i).toNat default).t) from hV 5 (by decide))
        replace Z := Z.conv (t := 73) rfl (show (vals3 6) = .int .i64 p_3.1 from hV 6 (by decide))
        replace Z := Z.conv (t := 74) rfl (show (vals3 7) = .pointer (some ⟨b1, 0, none⟩) from hV 7 (by decide))
        replace Z := Z.conv (t := 75) rfl (show (vals3 8) = v1_l from hV 8 (by decide))
        replace Z := Z.conv (t := 76) rfl (show (vals3 9) = .int .i64 i from hV 9 (by decide))
        replace Z := Z.conv (t := 77) rfl (show (vals3 10) = .pointer (some ⟨blkOf v1_l, oofOf v1_l + (i).toNat * 6, none⟩) from hV 10 (by decide))
        replace Z := Z.conv (t := 78) rfl (show (vals3 11) = .pointer (some ⟨blkOf v1_l, oofOf v1_l + (i).toNat * 6 + 1, none⟩) from hV 11 (by decide))
        replace Z := Z.conv (t := 79) rfl (show (vals3 12) = .int .u64 ((l.getD (i).toNat default).t) from hV 12 (by decide))
        replace Z := Z.conv (t := 80) rfl (show (vals3 13) = .int .i64 p_4.1 from hV 13 (by decide))
        replace Z := Z.conv (t := 81) rfl (show (vals3 14) = .bool (p_3.1 == p_4.1) from hV 14 (by decide))
        obtain ⟨I9, _, H⟩ := Gx.ex hG
        clear hG hV
        replace Z := Z.sub (ts := [0, 2, 3, 4, 5, 6, 14, 15, 16, 17, 18, 21, 24, 25, 26, 27, 28, 36, 37, 66, 65, 67, 68, 69, 70, 71, 72, 73, 74, 75, 76, 77, 78, 79, 80, 81]) rfl
        replace H : Hf I D w I9 w10 [OEref16_Store b1 p_4.2, OEmvcc_Store g1 p_3.2, SlC NEOp u3 ((l.getD (i).toNat default).ops), AtG ((0 : Int) ≤ i ∧ i < (l.length : Int)) (blkOf v1_l) (oofOf v1_l + (i).toNat * 6) [.int .i64 ((l.getD (i).toNat default).c), .int .u64 ((l.getD (i).toNat default).t), u3, .string ((l.getD (i).toNat default).k), .string ((l.getD (i).toNat default).to_), .int .i64 ((l.getD (i).toNat default).n)], SlC NElaw16_Act v1_l l] := H
        refine p_blk ?_
        refine p_then ?_
        exact ⟨p_3.1 == p_4.1, x_4, p_3.2, p_4.2, Z.sub (ts := [0, 2, 3, 4, 5, 6, 14, 15, 16, 17, 18, 21, 24, 25, 26, 27, 28, 36, 37]) rfl, ⟨I9, (H.sub [(1, false), (0, false), (2, true)] rfl).eq rfl⟩, hF⟩
      ·replace hF := ite_f hc5 hF
       obtain ⟨hg9, hF⟩ := chk_in hF
       obtain ⟨s0_3, hx11, hF⟩ := bnd_in hF
       refine f_region Z ?_; clear Z; intro Z
       refine s_runk tMWPlays Z 4 rfl rfl ?_; clear Z a; intro a Z
       refine s_ob Z (v := .pointer (some ⟨blkOf v1_l, oofOf v1_l + (i).toNat * 6, none⟩)) rfl rfl (by decide) rfl (Ob_sidx tMWPlays rfl rfl rfl rfl (slPl (H.sl 2 rfl) hg9) hg9) ?_; clear Z a; intro a Z
       obtain ⟨_, ⟨u4, rfl, L4⟩, H⟩ := H.elG 2 rfl (i) (NElaw16_Act.dft _ _)
       replace H := H.addsl L4
       replace H : Hf I D w I7 w8 [SlC NEOp u4 ((l.getD (i).toNat default).ops), AtG ((0 : Int) ≤ i ∧ i < (l.length : Int)) (blkOf v1_l) (oofOf v1_l + (i).toNat * 6) [.int .i64 ((l.getD (i).toNat default).c), .int .u64 ((l.getD (i).toNat default).t), u4, .string ((l.getD (i).toNat default).k), .string ((l.getD (i).toNat default).to_), .int .i64 ((l.getD (i).toNat default).n)], OEmvcc_Store g1 s0, OEref16_Store b1 x, SlC NElaw16_Act v1_l l] := H
       refine s_ob Z (v := .agg #[.int .i64 ((l.getD (i).toNat default).c), .int .u64 ((l.getD (i).toNat default).t), u4, .string ((l.getD (i).toNat default).k), .string ((l.getD (i).toNat default).to_), .int .i64 ((l.getD (i).toNat default).n)]) rfl rfl (by decide) rfl (Ob_loads tMWPlays rfl rfl rfl ((H.atg 1 rfl hg9).part 0 rfl)) ?_; clear Z a; intro a Z
       refine h_call Z H (js := [(2, false), (2, false), (0, true)]) rfl (caps := #[]) fn_19_YMWPlays rfl rfl rfl rfl rfl (by decide) rfl rfl (fun D1 hS => have hq := c_law16_same hx11 hS; hq) ?_; clear Z a; intro vv a w11 D2 hr hF2 Z
       obtain ⟨rfl, I10, K⟩ := hr
       have H : Hf I D w I10 w11 [OEmvcc_Store g1 s0_3.2, OEref16_Store b1 x, SlC NEOp u4 ((l.getD (i).toNat default).ops), AtG ((0 : Int) ≤ i ∧ i < (l.length : Int)) (blkOf v1_l) (oofOf v1_l + (i).toNat * 6) [.int .i64 ((l.getD (i).toNat default).c), .int .u64 ((l.getD (i).toNat default).t), u4, .string ((l.getD (i).toNat default).k), .string ((l.getD (i).toNat default).to_), .int .i64 ((l.getD (i).toNat default).n)], SlC NElaw16_Act v1_l l] := hF2 K
       clear hF2 K
       refine s_runk tMWPlays Z 1 rfl rfl ?_; clear Z a; intro a Z
       refine s_end Z [0, 2, 3, 4, 5, 6, 14, 15, 16, 17, 18, 21, 24, 25, 26, 27, 28, 36, 37, 66, 65, 29, 30, 31, 32, 33, 34, 35] rfl ?_; clear Z; intro Z
       refine p_blk ?_
       refine p_then ?_
       exact ⟨s0_3.1, x_4, s0_3.2, x, Z.sub (ts := [0, 2, 3, 4, 5, 6, 14, 15, 16, 17, 18, 21, 24, 25, 26, 27, 28, 36, 37]) rfl, ⟨I10, (H.sub [(0, false), (0, false), (2, true)] rfl).eq rfl⟩, hF⟩
    ·skip
     refine wp_seq (f_region Z ?_); clear Z; intro Z
     refine s_runk tMWPlays Z 2 rfl rfl ?_; clear Z a; intro a Z
     refine s_end Z [0, 2, 3, 4, 5, 14, 15, 16, 17, 18, 21, 6, 24, 25, 26, 27, 28, 37, 36] rfl ?_; clear Z; intro Z
     refine p_then ?_
     refine f_cond Z rfl (fun hc6 => ?_) (fun hc6 => ?_)
     ·replace hF := ite_t hc6 hF
      refine wp_skip ?_
      refine p_then ?_
      exact ⟨((l.getD (i).toNat default).c) == 0, Z.sub (ts := [0, 2, 3, 4, 5, 6, 14, 15, 16, 17, 18, 21, 24, 25, 26, 27, 28, 36, 37]) rfl, ⟨I4, (H.sub [(2, false), (2, false), (2, true)] rfl).eq rfl⟩, hF⟩
     ·replace hF := ite_f hc6 hF
      refine wp_seq (f_region Z ?_); clear Z; intro Z
      refine s_runk tMWPlays Z 2 rfl rfl ?_; clear Z a; intro a Z
      refine s_end Z [0, 2, 3, 4, 5, 14, 15, 16, 17, 18, 21, 6, 24, 25, 26, 27, 28, 37, 36, 38] rfl ?_; clear Z; intro Z
      refine p_then ?_
      refine f_cond Z rfl (fun hc7 => ?_) (fun hc7 => ?_)
      ·replace hF := ite_t hc7 hF
       refine wp_skip ?_
       refine p_then ?_
       exact ⟨((l.getD (i).toNat default).c) == 1, Z.sub (ts := [0, 2, 3, 4, 5, 6, 14, 15, 16, 17, 18, 21, 24, 25, 26, 27, 28, 36, 37]) rfl, ⟨I4, (H.sub [(2, false), (2, false), (2, true)] rfl).eq rfl⟩, hF⟩
      ·replace hF := ite_f hc7 hF
       refine f_region Z ?_; clear Z; intro Z
       refine s_runk tMWPlays Z 2 rfl rfl ?_; clear Z a; intro a Z
       refine s_end Z [0, 2, 3, 4, 5, 14, 15, 16, 17, 18, 21, 6, 24, 25, 26, 27, 28, 37, 36, 38, 39] rfl ?_; clear Z; intro Z
       refine p_then ?_
       exact ⟨((l.getD (i).toNat default).c) == 2, Z.sub (ts := [0, 2, 3, 4, 5, 6, 14, 15, 16, 17, 18, 21, 24, 25, 26, 27, 28, 36, 37]) rfl, ⟨I4, (H.sub [(2, false), (2, false), (2, true)] rfl).eq rfl⟩, hF⟩
  ·replace hF := ite_f hc2 hF
   refine wp_exit ?_
   refine p_then_x ?_
   refine p_then_x ?_
   refine f_exit_here ?_
   refine p_then (wp_seq ?_)
   obtain ⟨a0_2, hx12, hF⟩ := bnd_in hF
   refine f_region Z ?_; clear Z; intro Z
   refine h_call Z H (js := []) rfl (caps := #[]) fn_9_YMWPlays rfl rfl rfl rfl rfl (by decide) rfl rfl (fun D1 hS => have hq := c_law16_awake hx12 hS; hq) ?_; clear Z a; intro vv a w12 D2 hr hF2 Z
   obtain ⟨rfl, I11, K⟩ := hr
   have H : Hf I D w I11 w12 [OEmvcc_Store g1 s0, OEref16_Store b1 x, SlC NElaw16_Act v1_l l] := hF2 K
   clear hF2 K
   refine s_runk tMWPlays Z 1 rfl rfl ?_; clear Z a; intro a Z
   refine s_end Z [2] rfl ?_; clear Z; intro Z
   refine p_then (wp_ret ?_)
   obtain rfl := some_in hF
   exact f_ret Z (run_results1 rfl Z rfl) ⟨rfl, I11, (H.sub [] rfl).eq rfl⟩

end Go.Proofs.Ytfefmdllnjpmgaa
