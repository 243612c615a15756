/- Many versions: the law MvccStays walked. -/
import Derived.Test.YtfefmdllnjpmgaaYMW
namespace Go.Proofs.Ytfefmdllnjpmgaa
open Go.RowKit
def tMWStaysL : TabL := ⟨[(32768, 0), (32769, 1), (32770, 2)], [], [4], [(22, (32, 6))], [(3, (1, false)), (23, (1, false)), (30, (1, false))]⟩

def tMWStays : Tab Try.prog := ⟨tMWStaysL, by kernel_rfl⟩

theorem fn_8_YMWStays : IsFn Try.prog 8 := ⟨_, Try.func8, by kernel_rfl, by kernel_rfl⟩

theorem fn_9_YMWStays : IsFn Try.prog 9 := ⟨_, Try.func9, by kernel_rfl, by kernel_rfl⟩

theorem fn_10_YMWStays : IsFn Try.prog 10 := ⟨_, Try.func10, by kernel_rfl, by kernel_rfl⟩

theorem fn_11_YMWStays : IsFn Try.prog 11 := ⟨_, Try.func11, by kernel_rfl, by kernel_rfl⟩

theorem fn_12_YMWStays : IsFn Try.prog 12 := ⟨_, Try.func12, by kernel_rfl, by kernel_rfl⟩

theorem fn_13_YMWStays : IsFn Try.prog 13 := ⟨_, Try.func13, by kernel_rfl, by kernel_rfl⟩

theorem fn_17_YMWStays : IsFn Try.prog 17 := ⟨_, Try.func17, by kernel_rfl, by kernel_rfl⟩

theorem fn_20_YMWStays : IsFn Try.prog 20 := ⟨_, Try.func20, by kernel_rfl, by kernel_rfl⟩

theorem fn_23_YMWStays : IsFn Try.prog 23 := ⟨_, Try.func23, by kernel_rfl, by kernel_rfl⟩

def F_law16_MvccStays_k3 (i_2 : Int) (rc_2 : (Int × Emvcc_Store) → Option Bool) (s0_4 : Emvcc_Store) : Option Bool := chk (inI (i_2 + 1)) (rc_2 (i_2 + 1, s0_4))

def F_law16_MvccStays_l2 (then0 : List Elaw16_Act) (t : Int) (k : ByteArray) (to_ : ByteArray) (g : ByteArray × Bool × Emvcc_Store) (s0_2 : (List EPair) × Bool × Emvcc_Store) (rc_2 : (Int × Emvcc_Store) → Option Bool) (sg : Int × Emvcc_Store) : Option Bool := match sg with | (i_2, s0_3) => if ((decide (i_2 < (then0.length : Int))) && (decide (i_2 < 30))) = true then (chk ((0 : Int) ≤ i_2 ∧ i_2 < (then0.length : Int)) (if (((then0.getD (i_2).toNat default).c) == 3) = true then (chk ((0 : Int) ≤ i_2 ∧ i_2 < (then0.length : Int)) ((F_mvcc_Store_Prune s0_3 (min ((then0.getD (i_2).toNat default).t) t)).bind fun p_2 => (F_law16_MvccStays_k3 i_2 rc_2 p_2.2))) else (chk ((0 : Int) ≤ i_2 ∧ i_2 < (then0.length : Int)) (chk ((0 : Int) ≤ i_2 ∧ i_2 < (then0.length : Int)) ((F_mvcc_Store_Put s0_3 ((then0.getD (i_2).toNat default).t) ((then0.getD (i_2).toNat default).ops)).bind fun p_3 => (F_law16_MvccStays_k3 i_2 rc_2 p_3.2)))))) else ((F_mvcc_Store_Get s0_3 k t).bind fun g_2 => ((F_mvcc_Store_Scan g_2.2.2 k to_ t 1000).bind fun s0_5 => ((gif ((seqB g.1 g_2.1) && (g.2.1 == g_2.2.1)) (F_ref06_SamePairs s0_2.1 s0_5.1) default).bind fun s0_6 => ((gif ((((seqB g.1 g_2.1) && (g.2.1 == g_2.2.1)) && s0_6) && (s0_2.2.1 == s0_5.2.1)) (F_law16_awake) default).bind fun a0_3 => (some (((((seqB g.1 g_2.1) && (g.2.1 == g_2.2.1)) && s0_6) && (s0_2.2.1 == s0_5.2.1)) && a0_3))))))

def F_law16_MvccStays_l1 (first : List Elaw16_Act) (then0 : List Elaw16_Act) (t : Int) (k : ByteArray) (to_ : ByteArray) (rc : (Int × Emvcc_Store) → Option Bool) (sg : Int × Emvcc_Store) : Option Bool := match sg with | (i, s0) => if ((decide (i < (first.length : Int))) && (decide (i < 30))) = true then (chk ((0 : Int) ≤ i ∧ i < (first.length : Int)) (chk ((0 : Int) ≤ i ∧ i < (first.length : Int)) ((F_mvcc_Store_Put s0 ((first.getD (i).toNat default).t) ((first.getD (i).toNat default).ops)).bind fun p => (chk (inI (i + 1)) (rc (i + 1, p.2)))))) else ((F_mvcc_Store_Last s0).bind fun l => (if (decide (t > l)) = true then ((F_law16_awake).bind fun a0_2 => (some a0_2)) else ((F_mvcc_Store_Get s0 k t).bind fun g => ((F_mvcc_Store_Scan g.2.2 k to_ t 1000).bind fun s0_2 => (iter (F_law16_MvccStays_l2 then0 t k to_ g s0_2) FU (0, s0_2.2.2))))))

def F_law16_MvccStays (first : List Elaw16_Act) (then0 : List Elaw16_Act) (t : Int) (k : ByteArray) (to_ : ByteArray) : Option Bool := (F_law16_few first).bind fun f => ((gif (!(!f)) (F_law16_few then0) default).bind fun f_2 => (if ((!f) || (!f_2)) = true then ((F_law16_awake).bind fun a0 => (some a0)) else ((F_mvcc_New).bind fun n0 => (iter (F_law16_MvccStays_l1 first then0 t k to_) FU (0, n0)))))

set_option maxHeartbeats 1000000 in
theorem c_law16_MvccStays {I D : Dm} {first : List Elaw16_Act} {v1_first : Value} {then0 : List Elaw16_Act} {v2_then0 : Value} {t : Int} {k : ByteArray} {to_ : ByteArray} {w : World} {rr : Bool} (hF : F_law16_MvccStays first then0 t k to_ = some rr) (H : St I D w [SlC NElaw16_Act v1_first first, SlC NElaw16_Act v2_then0 then0]) :
  Calls Try.prog 6 #[v1_first, v2_then0, .int .u64 t, .string k, .string to_] w (Ret fun vv w' => vv = .bool rr ∧ ∃ I', Hf I D w I' w' []) := by
 replace H := H.hf
 unfold F_law16_MvccStays at hF
 refine f_enter 147 Try.func6 rfl rfl (Nat.le_of_ble_eq_true rfl) fun a Z => ?_
 replace Z := Z.sub (ts := [0, 1, 2, 3, 4]) rfl
 refine wp_seq (f_region Z ?_); clear Z; intro Z
 refine s_runk tMWStays Z 1 rfl rfl ?_; clear Z a; intro a Z
 refine s_end Z [0, 1, 2, 3, 4, 10] rfl ?_; clear Z; intro Z
 refine p_then (wp_seq ?_)
 refine wp_seq ?_
 obtain ⟨f, hx1, hF⟩ := bnd_in hF
 obtain ⟨f_2, hx2, hF⟩ := bnd_in hF
 refine f_region Z ?_; clear Z; intro Z
 refine s_runk tMWStays Z 1 rfl rfl ?_; clear Z a; intro a Z
 refine h_call Z H (js := [(0, true)]) rfl (caps := #[]) fn_8_YMWStays rfl rfl rfl rfl rfl (by decide) rfl rfl (fun D1 hS => have hq := c_law16_few hx1 hS; hq) ?_; clear Z a; intro vv a w1 D2 hr hF2 Z
 obtain ⟨rfl, I1, K⟩ := hr
 have H : Hf I D w I1 w1 [SlC NElaw16_Act v1_first first, SlC NElaw16_Act v2_then0 then0] := hF2 K
 clear hF2 K
 refine s_runk tMWStays Z 2 rfl rfl ?_; clear Z a; intro a Z
 refine g_ob Z (p := (!(!f))) (v := v2_then0) (S' := [(1, v2_then0)]) rfl rfl rfl (wantB_f _) rfl (by decide) (fun hp hS => hS.sub (ts := [1]) rfl) (fun hp => Ob_c tMWStays rfl) ?_; clear Z a; intro a Z
 refine g_call Z (p := (!(!f))) (v := .bool f_2) (S' := [(26, v2_then0)]) (caps := #[]) fn_8_YMWStays rfl rfl rfl (wantB_f _) rfl (by decide) (fun hp hS => (hS.conv (t := 26) rfl (cond_t hp)).sub (ts := [26]) rfl) rfl rfl rfl rfl (fun hp => have hq := c_law16_few (gif_in hx2 hp) (H.pick0 (js := [(1, true)]) rfl rfl); plainC hq) ?_; clear Z a; intro a w2 hb Z
 replace H : Hf I D w I1 w2 [SlC NElaw16_Act v1_first first, SlC NElaw16_Act v2_then0 then0] := H.blw hb
 clear hb
 refine g_ob Z (p := (!(!f))) (v := .bool (!f_2)) (S' := [(27, .bool f_2)]) rfl rfl rfl (wantB_f _) rfl (by decide) (fun hp hS => (hS.conv (t := 27) rfl (cond_t hp)).sub (ts := [27]) rfl) (fun hp => Ob_c tMWStays rfl) ?_; clear Z a; intro a Z
 refine s_ob Z (v := .bool ((!f) || (!f_2))) rfl rfl (by decide) rfl (Ob_pick rfl rfl rfl rfl (pick_or _ _)) ?_; clear Z a; intro a Z
 refine s_end Z [0, 1, 2, 3, 4, 10, 29] rfl ?_; clear Z; intro Z
 refine p_then ?_
 refine f_cond Z rfl (fun hc1 => ?_) (fun hc1 => ?_)
 ·replace hF := ite_t hc1 hF
  refine wp_seq ?_
  obtain ⟨a0, hx3, hF⟩ := bnd_in hF
  refine f_region Z ?_; clear Z; intro Z
  refine h_call Z H (js := []) rfl (caps := #[]) fn_9_YMWStays rfl rfl rfl rfl rfl (by decide) rfl rfl (fun D1 hS => have hq := c_law16_awake hx3 hS; hq) ?_; clear Z a; intro vv a w3 D2 hr hF2 Z
  obtain ⟨rfl, I2, K⟩ := hr
  have H : Hf I D w I2 w3 [SlC NElaw16_Act v1_first first, SlC NElaw16_Act v2_then0 then0] := hF2 K
  clear hF2 K
  refine s_runk tMWStays Z 1 rfl rfl ?_; clear Z a; intro a Z
  refine s_end Z [0, 1, 2, 3, 4, 10] rfl ?_; clear Z; intro Z
  refine p_then (wp_ret ?_)
  refine p_then_r ?_
  obtain rfl := some_in hF
  exact f_ret Z (run_results1 rfl Z rfl) ⟨rfl, I2, (H.sub [] rfl).eq rfl⟩
 ·replace hF := ite_f hc1 hF
  refine wp_skip ?_
  refine p_then (wp_seq ?_)
  obtain ⟨n0, hx4, hF⟩ := bnd_in hF
  refine f_region Z ?_; clear Z; intro Z
  refine h_call Z H (js := []) rfl (caps := #[]) fn_10_YMWStays rfl rfl rfl rfl rfl (by decide) rfl rfl (fun D1 hS => have hq := c_mvcc_New hx4 hS; hq) ?_; clear Z a; intro vv a w4 D2 hr hF2 Z
  obtain ⟨g1, rfl, I3, K⟩ := hr
  have H : Hf I D w I3 w4 [OEmvcc_Store g1 n0, SlC NElaw16_Act v1_first first, SlC NElaw16_Act v2_then0 then0] := hF2 K
  clear hF2 K
  refine s_runk tMWStays Z 1 rfl rfl ?_; clear Z a; intro a Z
  refine s_end Z [0, 1, 2, 3, 4, 10, 11] rfl ?_; clear Z; intro Z
  refine p_then (wp_seq ?_)
  refine wp_seq (f_region Z ?_); clear Z; intro Z
  refine s_runk tMWStays Z 1 rfl rfl ?_; clear Z a; intro a Z
  refine s_end Z [0, 1, 2, 3, 4, 10, 11, 12] rfl ?_; clear Z; intro Z
  refine p_then (wp_block ?_)
  refine f_iter hF (fun sg a' w' => match sg with | (i, s0) => Sl 147 [(0, v1_first), (1, v2_then0), (2, .int .u64 t), (3, .string k), (4, .string to_), (10, .bool false), (11, .pointer (some ⟨g1, 0, none⟩)), (12, .int .i64 i)] a' ∧ ∃ I2, Hf I D w I2 w' [OEmvcc_Store g1 s0, SlC NElaw16_Act v1_first first, SlC NElaw16_Act v2_then0 then0]) ⟨Z.sub (ts := [0, 1, 2, 3, 4, 10, 11, 12]) rfl, ⟨I3, (H.sub [(0, false), (0, true), (1, true)] rfl).eq rfl⟩⟩ ?_
  clear Z H hF a
  rintro rc ⟨i, s0⟩ a w5 ⟨Z, I4, H⟩ hF
  unfold F_law16_MvccStays_l1 at hF
  try dsimp only at hF
  refine wp_seq ?_
  refine wp_seq (f_region Z ?_); clear Z; intro Z
  refine s_runk tMWStays Z 2 rfl rfl ?_; clear Z a; intro a Z
  refine s_ob Z (v := .int .i64 (first.length : Int)) rfl rfl (by decide) rfl (Ob_slen tMWStays rfl rfl rfl (H.slshape 1 rfl)) ?_; clear Z a; intro a Z
  refine s_runk tMWStays Z 2 rfl rfl ?_; clear Z a; intro a Z
  refine g_ob Z (p := (decide (i < (first.length : Int)))) (v := .int .i64 i) (S' := [(12, .int .i64 i)]) rfl rfl rfl (wantB_t _) rfl (by decide) (fun hp hS => hS.sub (ts := [12]) rfl) (fun hp => Ob_c tMWStays rfl) ?_; clear Z a; intro a Z
  refine g_ob Z (p := (decide (i < (first.length : Int)))) (v := .bool (decide (i < 30))) (S' := [(37, .int .i64 i)]) rfl rfl rfl (wantB_t _) rfl (by decide) (fun hp hS => (hS.conv (t := 37) rfl (cond_t hp)).sub (ts := [37]) rfl) (fun hp => Ob_c tMWStays rfl) ?_; clear Z a; intro a Z
  refine s_ob Z (v := .bool ((decide (i < (first.length : Int))) && (decide (i < 30)))) rfl rfl (by decide) rfl (Ob_pick rfl rfl rfl rfl (pick_and _ _)) ?_; clear Z a; intro a Z
  refine s_end Z [0, 1, 2, 3, 4, 10, 11, 12, 32, 33, 34, 35, 36, 39] rfl ?_; clear Z; intro Z
  refine p_then ?_
  refine f_cond Z rfl (fun hc2 => ?_) (fun hc2 => ?_)
  ·replace hF := ite_t hc2 hF
   refine wp_skip ?_
   refine p_then (wp_seq ?_)
   refine wp_block ?_
   obtain ⟨hg1, hF⟩ := chk_in hF
   obtain ⟨_, ⟨u1, rfl, L1⟩, H⟩ := H.elG 1 rfl (i) (NElaw16_Act.dft _ _)
   replace H := H.addsl L1
   replace H : Hf I D w I4 w5 [SlC NEOp u1 ((first.getD (i).toNat default).ops), AtG ((0 : Int) ≤ i ∧ i < (first.length : Int)) (blkOf v1_first) (oofOf v1_first + (i).toNat * 6) [.int .i64 ((first.getD (i).toNat default).c), .int .u64 ((first.getD (i).toNat default).t), u1, .string ((first.getD (i).toNat default).k), .string ((first.getD (i).toNat default).to_), .int .i64 ((first.getD (i).toNat default).n)], OEmvcc_Store g1 s0, SlC NElaw16_Act v1_first first, SlC NElaw16_Act v2_then0 then0] := H
   obtain ⟨hg2, hF⟩ := chk_in hF
   obtain ⟨p, hx5, hF⟩ := bnd_in hF
   refine f_quietS 11 (by kernel_rfl) (by kernel_rfl) (by kernel_rfl) (by kernel_rfl) (by kernel_rfl) Z ?_; clear Z; intro Z
   refine q_runk tMWStays Z 3 rfl rfl ?_; clear Z a; intro a Z
   refine q_ob Z (v := .pointer (some ⟨blkOf v1_first, oofOf v1_first + (i).toNat * 6, none⟩)) rfl rfl (by decide) rfl (fun _ hw => Ob_sidx tMWStays rfl rfl rfl rfl (slPl ((H.blw hw).sl 3 rfl) hg1) hg1) ?_; clear Z a; intro a Z
   refine q_runk tMWStays Z 1 rfl rfl ?_; clear Z a; intro a Z
   refine q_ob Z (v := .int .u64 ((first.getD (i).toNat default).t)) rfl rfl (by decide) rfl (fun _ hw => Ob_load tMWStays rfl rfl rfl (((H.blw hw).atg 1 rfl hg1) 1 _ rfl)) ?_; clear Z a; intro a Z
   refine q_runk tMWStays Z 2 rfl rfl ?_; clear Z a; intro a Z
   refine q_ob Z (v := .pointer (some ⟨blkOf v1_first, oofOf v1_first + (i).toNat * 6, none⟩)) rfl rfl (by decide) rfl (fun _ hw => Ob_sidx tMWStays rfl rfl rfl rfl (slPl ((H.blw hw).sl 3 rfl) hg2) hg2) ?_; clear Z a; intro a Z
   refine q_runk tMWStays Z 1 rfl rfl ?_; clear Z a; intro a Z
   refine q_ob Z (v := u1) rfl rfl (by decide) rfl (fun _ hw => Ob_load tMWStays rfl rfl rfl (((H.blw hw).atg 1 rfl hg2) 2 _ rfl)) ?_; clear Z a; intro a Z
   refine q_endS Z [0, 1, 2, 3, 4, 10, 11, 12, 32, 33, 34, 35, 36, 39, 42, 43, 44, 45, 46, 47, 48, 49, 50, 51, 52] rfl ?_; clear Z; intro w6 hb Z
   replace H : Hf I D w I4 w6 [SlC NEOp u1 ((first.getD (i).toNat default).ops), AtG ((0 : Int) ≤ i ∧ i < (first.length : Int)) (blkOf v1_first) (oofOf v1_first + (i).toNat * 6) [.int .i64 ((first.getD (i).toNat default).c), .int .u64 ((first.getD (i).toNat default).t), u1, .string ((first.getD (i).toNat default).k), .string ((first.getD (i).toNat default).to_), .int .i64 ((first.getD (i).toNat default).n)], OEmvcc_Store g1 s0, SlC NElaw16_Act v1_first first, SlC NElaw16_Act v2_then0 then0] := H.blw hb
   clear hb
   refine h_call Z H (js := [(2, false), (0, true)]) rfl (caps := #[]) fn_11_YMWStays rfl rfl rfl rfl rfl (by decide) rfl rfl (fun D1 hS => have hq := c_mvcc_Store_Put hx5 hS; hq) ?_; clear Z a; intro vv a w7 D2 hr hF2 Z
   obtain ⟨rfl, I5, K⟩ := hr
   have H : Hf I D w I5 w7 [OEmvcc_Store g1 p.2, SlC NEOp u1 ((first.getD (i).toNat default).ops), AtG ((0 : Int) ≤ i ∧ i < (first.length : Int)) (blkOf v1_first) (oofOf v1_first + (i).toNat * 6) [.int .i64 ((first.getD (i).toNat default).c), .int .u64 ((first.getD (i).toNat default).t), u1, .string ((first.getD (i).toNat default).k), .string ((first.getD (i).toNat default).to_), .int .i64 ((first.getD (i).toNat default).n)], SlC NElaw16_Act v1_first first, SlC NElaw16_Act v2_then0 then0] := hF2 K
   clear hF2 K
   refine s_end Z [0, 1, 2, 3, 4, 10, 11, 12, 32, 33, 34, 35, 36, 39, 42, 43, 44, 45, 46, 47, 48, 49, 50, 51, 52] rfl ?_; clear Z; intro Z
   refine p_blk ?_
   refine p_then ?_
   obtain ⟨hg3, hF⟩ := chk_in hF
   refine f_region Z ?_; clear Z; intro Z
   refine s_runk tMWStays Z 1 rfl rfl ?_; clear Z a; intro a Z
   refine s_ob Z (v := .int .i64 (i + 1)) rfl rfl (by decide) rfl (Ob_add rfl rfl rfl (wrI hg3)) ?_; clear Z a; intro a Z
   refine s_runk tMWStays Z 1 rfl rfl ?_; clear Z a; intro a Z
   refine s_end Z [0, 1, 2, 3, 4, 10, 11, 12, 32, 33, 34, 35, 36, 39, 42, 43, 44, 45, 46, 47, 48, 49, 50, 51, 52, 40, 41] rfl ?_; clear Z; intro Z
   refine p_then ?_
   exact ⟨(i + 1, p.2), ⟨Z.sub (ts := [0, 1, 2, 3, 4, 10, 11, 12]) rfl, ⟨I5, (H.sub [(0, false), (2, true), (3, true)] rfl).eq rfl⟩⟩, hF⟩
  ·replace hF := ite_f hc2 hF
   refine wp_exit ?_
   refine p_then_x ?_
   refine p_then_x ?_
   refine f_exit_here ?_
   refine p_then (wp_seq ?_)
   refine wp_seq ?_
   obtain ⟨l, hx6, hF⟩ := bnd_in hF
   refine f_region Z ?_; clear Z; intro Z
   refine s_runk tMWStays Z 2 rfl rfl ?_; clear Z a; intro a Z
   refine h_call Z H (js := [(0, false)]) rfl (caps := #[]) fn_20_YMWStays rfl rfl rfl rfl rfl (by decide) rfl rfl (fun D1 hS => have hq := c_mvcc_Store_Last hx6 hS; hq) ?_; clear Z a; intro vv a w8 D2 hr hF2 Z
   obtain ⟨rfl, I6, K⟩ := hr
   have H : Hf I D w I6 w8 [OEmvcc_Store g1 s0, SlC NElaw16_Act v1_first first, SlC NElaw16_Act v2_then0 then0] := hF2 K
   clear hF2 K
   refine s_runk tMWStays Z 1 rfl rfl ?_; clear Z a; intro a Z
   refine s_end Z [1, 2, 3, 4, 10, 11, 57] rfl ?_; clear Z; intro Z
   refine p_then ?_
   refine f_cond Z rfl (fun hc3 => ?_) (fun hc3 => ?_)
   ·replace hF := ite_t hc3 hF
    refine wp_seq ?_
    obtain ⟨a0_2, hx7, hF⟩ := bnd_in hF
    refine f_region Z ?_; clear Z; intro Z
    refine h_call Z H (js := []) rfl (caps := #[]) fn_9_YMWStays rfl rfl rfl rfl rfl (by decide) rfl rfl (fun D1 hS => have hq := c_law16_awake hx7 hS; hq) ?_; clear Z a; intro vv a w9 D2 hr hF2 Z
    obtain ⟨rfl, I7, K⟩ := hr
    have H : Hf I D w I7 w9 [OEmvcc_Store g1 s0, SlC NElaw16_Act v1_first first, SlC NElaw16_Act v2_then0 then0] := hF2 K
    clear hF2 K
    refine s_runk tMWStays Z 1 rfl rfl ?_; clear Z a; intro a Z
    refine s_end Z [1, 2, 3, 4, 10, 11] rfl ?_; clear Z; intro Z
    refine p_then (wp_ret ?_)
    refine p_then_r ?_
    obtain rfl := some_in hF
    exact f_ret Z (run_results1 rfl Z rfl) ⟨rfl, I7, (H.sub [] rfl).eq rfl⟩
   ·replace hF := ite_f hc3 hF
    refine wp_skip ?_
    refine p_then (wp_seq ?_)
    obtain ⟨g, hx8, hF⟩ := bnd_in hF
    refine f_region Z ?_; clear Z; intro Z
    refine s_runk tMWStays Z 3 rfl rfl ?_; clear Z a; intro a Z
    refine h_call Z H (js := [(0, false)]) rfl (caps := #[]) fn_23_YMWStays rfl rfl rfl rfl rfl (by decide) rfl rfl (fun D1 hS => have hq := c_mvcc_Store_Get hx8 hS; hq) ?_; clear Z a; intro vv a w10 D2 hr hF2 Z
    obtain ⟨rfl, I8, K⟩ := hr
    have H : Hf I D w I8 w10 [OEmvcc_Store g1 g.2.2, SlC NElaw16_Act v1_first first, SlC NElaw16_Act v2_then0 then0] := hF2 K
    clear hF2 K
    refine s_runk tMWStays Z 5 rfl rfl ?_; clear Z a; intro a Z
    refine s_end Z [1, 2, 3, 4, 10, 11, 13, 14] rfl ?_; clear Z; intro Z
    refine p_then (wp_seq ?_)
    obtain ⟨s0_2, hx9, hF⟩ := bnd_in hF
    refine f_region Z ?_; clear Z; intro Z
    refine s_runk tMWStays Z 4 rfl rfl ?_; clear Z a; intro a Z
    refine h_call Z H (js := [(0, false)]) rfl (caps := #[]) fn_12_YMWStays rfl rfl rfl rfl rfl (by decide) rfl rfl (fun D1 hS => have hq := c_mvcc_Store_Scan hx9 hS; hq) ?_; clear Z a; intro vv a w11 D2 hr hF2 Z
    obtain ⟨q1, rfl, I9, K⟩ := hr
    have H : Hf I D w I9 w11 [OEmvcc_Store g1 s0_2.2.2, SlC NEPair q1 s0_2.1, SlC NElaw16_Act v1_first first, SlC NElaw16_Act v2_then0 then0] := hF2 K
    clear hF2 K
    refine s_runk tMWStays Z 5 rfl rfl ?_; clear Z a; intro a Z
    refine s_end Z [1, 2, 3, 4, 10, 11, 13, 14, 15, 16] rfl ?_; clear Z; intro Z
    refine p_then (wp_seq ?_)
    refine wp_seq (f_region Z ?_); clear Z; intro Z
    refine s_runk tMWStays Z 1 rfl rfl ?_; clear Z a; intro a Z
    refine s_end Z [1, 2, 3, 4, 10, 11, 13, 14, 15, 16, 17] rfl ?_; clear Z; intro Z
    refine p_then (wp_block ?_)
    refine f_iter hF (fun sg a' w' => match sg with | (i_2, s0_3) => Sl 147 [(1, v2_then0), (2, .int .u64 t), (3, .string k), (4, .string to_), (10, .bool false), (11, .pointer (some ⟨g1, 0, none⟩)), (13, .string g.1), (14, .bool g.2.1), (15, q1), (16, .bool s0_2.2.1), (17, .int .i64 i_2)] a' ∧ ∃ I2, Hf I D w I2 w' [OEmvcc_Store g1 s0_3, SlC NEPair q1 s0_2.1, SlC NElaw16_Act v2_then0 then0]) ⟨Z.sub (ts := [1, 2, 3, 4, 10, 11, 13, 14, 15, 16, 17]) rfl, ⟨I9, (H.sub [(0, false), (0, true), (2, true)] rfl).eq rfl⟩⟩ ?_
    clear Z H hF a
    rintro rc_2 ⟨i_2, s0_3⟩ a w12 ⟨Z, I10, H⟩ hF
    unfold F_law16_MvccStays_l2 at hF
    try dsimp only at hF
    refine wp_seq ?_
    refine wp_seq (f_region Z ?_); clear Z; intro Z
    refine s_runk tMWStays Z 2 rfl rfl ?_; clear Z a; intro a Z
    refine s_ob Z (v := .int .i64 (then0.length : Int)) rfl rfl (by decide) rfl (Ob_slen tMWStays rfl rfl rfl (H.slshape 2 rfl)) ?_; clear Z a; intro a Z
    refine s_runk tMWStays Z 2 rfl rfl ?_; clear Z a; intro a Z
    refine g_ob Z (p := (decide (i_2 < (then0.length : Int)))) (v := .int .i64 i_2) (S' := [(17, .int .i64 i_2)]) rfl rfl rfl (wantB_t _) rfl (by decide) (fun hp hS => hS.sub (ts := [17]) rfl) (fun hp => Ob_c tMWStays rfl) ?_; clear Z a; intro a Z
    refine g_ob Z (p := (decide (i_2 < (then0.length : Int)))) (v := .bool (decide (i_2 < 30))) (S' := [(79, .int .i64 i_2)]) rfl rfl rfl (wantB_t _) rfl (by decide) (fun hp hS => (hS.conv (t := 79) rfl (cond_t hp)).sub (ts := [79]) rfl) (fun hp => Ob_c tMWStays rfl) ?_; clear Z a; intro a Z
    refine s_ob Z (v := .bool ((decide (i_2 < (then0.length : Int))) && (decide (i_2 < 30)))) rfl rfl (by decide) rfl (Ob_pick rfl rfl rfl rfl (pick_and _ _)) ?_; clear Z a; intro a Z
    refine s_end Z [1, 2, 3, 4, 10, 11, 13, 14, 15, 16, 17, 74, 75, 76, 77, 78, 81] rfl ?_; clear Z; intro Z
    refine p_then ?_
    refine f_cond Z rfl (fun hc4 => ?_) (fun hc4 => ?_)
    ·replace hF := ite_t hc4 hF
     refine wp_skip ?_
     refine p_then ?_
     refine f_cut (fun a' w' => ∃ (s0_4 : Emvcc_Store), Sl 147 [(1, v2_then0), (2, .int .u64 t), (3, .string k), (4, .string to_), (10, .bool false), (11, .pointer (some ⟨g1, 0, none⟩)), (13, .string g.1), (14, .bool g.2.1), (15, q1), (16, .bool s0_2.2.1), (17, .int .i64 i_2), (74, .int .i64 i_2), (75, v2_then0), (76, .int .i64 (then0.length : Int)), (77, .bool (decide (i_2 < (then0.length : Int)))), (78, .bool (decide (i_2 < (then0.length : Int)))), (81, .bool ((decide (i_2 < (then0.length : Int))) && (decide (i_2 < 30)))), (84, v2_then0), (85, .int .i64 i_2), (86, .pointer (some ⟨blkOf v2_then0, oofOf v2_then0 + (i_2).toNat * 6, none⟩)), (87, .pointer (some ⟨blkOf v2_then0, oofOf v2_then0 + (i_2).toNat * 6, none⟩)), (88, .int .i64 ((then0.getD (i_2).toNat default).c)), (89, .bool (((then0.getD (i_2).toNat default).c) == 3))] a' ∧ (∃ I2, Hf I D w I2 w' [OEmvcc_Store g1 s0_4, SlC NEPair q1 s0_2.1, SlC NElaw16_Act v2_then0 then0]) ∧ F_law16_MvccStays_k3 i_2 rc_2 s0_4 = some rr) ?_ ?_
     ·rintro a w13 ⟨s0_4, Z, ⟨I11, H⟩, hF⟩
      unfold F_law16_MvccStays_k3 at hF
      try dsimp only at hF
      obtain ⟨hg4, hF⟩ := chk_in hF
      refine f_region Z ?_; clear Z; intro Z
      refine s_runk tMWStays Z 1 rfl rfl ?_; clear Z a; intro a Z
      refine s_ob Z (v := .int .i64 (i_2 + 1)) rfl rfl (by decide) rfl (Ob_add rfl rfl rfl (wrI hg4)) ?_; clear Z a; intro a Z
      refine s_runk tMWStays Z 1 rfl rfl ?_; clear Z a; intro a Z
      refine s_end Z [1, 2, 3, 4, 10, 11, 13, 14, 15, 16, 17, 74, 75, 76, 77, 78, 81, 84, 85, 86, 87, 88, 89, 82, 83] rfl ?_; clear Z; intro Z
      refine p_then ?_
      exact ⟨(i_2 + 1, s0_4), ⟨Z.sub (ts := [1, 2, 3, 4, 10, 11, 13, 14, 15, 16, 17]) rfl, ⟨I11, (H.sub [(0, false), (0, true), (1, true)] rfl).eq rfl⟩⟩, hF⟩
     ·skip
      refine wp_block ?_
      refine wp_seq ?_
      obtain ⟨hg5, hF⟩ := chk_in hF
      refine f_region Z ?_; clear Z; intro Z
      refine s_runk tMWStays Z 2 rfl rfl ?_; clear Z a; intro a Z
      refine s_ob Z (v := .pointer (some ⟨blkOf v2_then0, oofOf v2_then0 + (i_2).toNat * 6, none⟩)) rfl rfl (by decide) rfl (Ob_sidx tMWStays rfl rfl rfl rfl (slPl (H.sl 2 rfl) hg5) hg5) ?_; clear Z a; intro a Z
      refine s_runk tMWStays Z 1 rfl rfl ?_; clear Z a; intro a Z
      obtain ⟨_, ⟨u2, rfl, L2⟩, H⟩ := H.elG 2 rfl (i_2) (NElaw16_Act.dft _ _)
      replace H := H.addsl L2
      replace H : Hf I D w I10 w12 [SlC NEOp u2 ((then0.getD (i_2).toNat default).ops), AtG ((0 : Int) ≤ i_2 ∧ i_2 < (then0.length : Int)) (blkOf v2_then0) (oofOf v2_then0 + (i_2).toNat * 6) [.int .i64 ((then0.getD (i_2).toNat default).c), .int .u64 ((then0.getD (i_2).toNat default).t), u2, .string ((then0.getD (i_2).toNat default).k), .string ((then0.getD (i_2).toNat default).to_), .int .i64 ((then0.getD (i_2).toNat default).n)], OEmvcc_Store g1 s0_3, SlC NEPair q1 s0_2.1, SlC NElaw16_Act v2_then0 then0] := H
      refine s_ob Z (v := .int .i64 ((then0.getD (i_2).toNat default).c)) rfl rfl (by decide) rfl (Ob_load tMWStays rfl rfl rfl ((H.atg 1 rfl hg5) 0 _ rfl)) ?_; clear Z a; intro a Z
      refine s_runk tMWStays Z 1 rfl rfl ?_; clear Z a; intro a Z
      refine s_end Z [1, 2, 3, 4, 10, 11, 13, 14, 15, 16, 17, 74, 75, 76, 77, 78, 81, 84, 85, 86, 87, 88, 89] rfl ?_; clear Z; intro Z
      refine p_then ?_
      refine f_cond Z rfl (fun hc5 => ?_) (fun hc5 => ?_)
      ·replace hF := ite_t hc5 hF
       obtain ⟨hg6, hF⟩ := chk_in hF
       obtain ⟨p_2, hx10, hF⟩ := bnd_in hF
       refine f_region Z ?_; clear Z; intro Z
       refine s_runk tMWStays Z 3 rfl rfl ?_; clear Z a; intro a Z
       refine s_ob Z (v := .pointer (some ⟨blkOf v2_then0, oofOf v2_then0 + (i_2).toNat * 6, none⟩)) rfl rfl (by decide) rfl (Ob_sidx tMWStays rfl rfl rfl rfl (slPl (H.sl 4 rfl) hg6) hg6) ?_; clear Z a; intro a Z
       refine s_runk tMWStays Z 1 rfl rfl ?_; clear Z a; intro a Z
       obtain ⟨_, ⟨u3, rfl, L3⟩, H⟩ := H.elG 4 rfl (i_2) (NElaw16_Act.dft _ _)
       replace H := H.addsl L3
       replace H : Hf I D w I10 w12 [SlC NEOp u3 ((then0.getD (i_2).toNat default).ops), AtG ((0 : Int) ≤ i_2 ∧ i_2 < (then0.length : Int)) (blkOf v2_then0) (oofOf v2_then0 + (i_2).toNat * 6) [.int .i64 ((then0.getD (i_2).toNat default).c), .int .u64 ((then0.getD (i_2).toNat default).t), u3, .string ((then0.getD (i_2).toNat default).k), .string ((then0.getD (i_2).toNat default).to_), .int .i64 ((then0.getD (i_2).toNat default).n)], SlC NEOp u2 ((then0.getD (i_2).toNat default).ops), AtG ((0 : Int) ≤ i_2 ∧ i_2 < (then0.length : Int)) (blkOf v2_then0) (oofOf v2_then0 + (i_2).toNat * 6) [.int .i64 ((then0.getD (i_2).toNat default).c), .int .u64 ((then0.getD (i_2).toNat default).t), u2, .string ((then0.getD (i_2).toNat default).k), .string ((then0.getD (i_2).toNat default).to_), .int .i64 ((then0.getD (i_2).toNat default).n)], OEmvcc_Store g1 s0_3, SlC NEPair q1 s0_2.1, SlC NElaw16_Act v2_then0 then0] := H
       refine s_ob Z (v := .int .u64 ((then0.getD (i_2).toNat default).t)) rfl rfl (by decide) rfl (Ob_load tMWStays rfl rfl rfl ((H.atg 1 rfl hg6) 1 _ rfl)) ?_; clear Z a; intro a Z
       refine s_runk tMWStays Z 2 rfl rfl ?_; clear Z a; intro a Z
       refine h_call Z H (js := [(4, false)]) rfl (caps := #[]) fn_17_YMWStays rfl rfl rfl rfl rfl (by decide) rfl rfl (fun D1 hS => have hq := c_mvcc_Store_Prune hx10 hS; hq) ?_; clear Z a; intro vv a w14 D2 hr hF2 Z
       obtain ⟨rfl, I12, K⟩ := hr
       have H : Hf I D w I12 w14 [OEmvcc_Store g1 p_2.2, SlC NEOp u3 ((then0.getD (i_2).toNat default).ops), AtG ((0 : Int) ≤ i_2 ∧ i_2 < (then0.length : Int)) (blkOf v2_then0) (oofOf v2_then0 + (i_2).toNat * 6) [.int .i64 ((then0.getD (i_2).toNat default).c), .int .u64 ((then0.getD (i_2).toNat default).t), u3, .string ((then0.getD (i_2).toNat default).k), .string ((then0.getD (i_2).toNat default).to_), .int .i64 ((then0.getD (i_2).toNat default).n)], SlC NEOp u2 ((then0.getD (i_2).toNat default).ops), AtG ((0 : Int) ≤ i_2 ∧ i_2 < (then0.length : Int)) (blkOf v2_then0) (oofOf v2_then0 + (i_2).toNat * 6) [.int .i64 ((then0.getD (i_2).toNat default).c), .int .u64 ((then0.getD (i_2).toNat default).t), u2, .string ((then0.getD (i_2).toNat default).k), .string ((then0.getD (i_2).toNat default).to_), .int .i64 ((then0.getD (i_2).toNat default).n)], SlC NEPair q1 s0_2.1, SlC NElaw16_Act v2_then0 then0] := hF2 K
       clear hF2 K
       refine s_end Z [1, 2, 3, 4, 10, 11, 13, 14, 15, 16, 17, 74, 75, 76, 77, 78, 81, 84, 85, 86, 87, 88, 89, 90, 91, 92, 93, 94, 95, 96, 97] rfl ?_; clear Z; intro Z
       refine p_blk ?_
       refine p_then ?_
       exact ⟨p_2.2, Z.sub (ts := [1, 2, 3, 4, 10, 11, 13, 14, 15, 16, 17, 74, 75, 76, 77, 78, 81, 84, 85, 86, 87, 88, 89]) rfl, ⟨I12, (H.sub [(0, false), (4, true), (5, true)] rfl).eq rfl⟩, hF⟩
      ·replace hF := ite_f hc5 hF
       obtain ⟨hg7, hF⟩ := chk_in hF
       obtain ⟨_, ⟨u4, rfl, L4⟩, H⟩ := H.elG 4 rfl (i_2) (NElaw16_Act.dft _ _)
       replace H := H.addsl L4
       replace H : Hf I D w I10 w12 [SlC NEOp u4 ((then0.getD (i_2).toNat default).ops), AtG ((0 : Int) ≤ i_2 ∧ i_2 < (then0.length : Int)) (blkOf v2_then0) (oofOf v2_then0 + (i_2).toNat * 6) [.int .i64 ((then0.getD (i_2).toNat default).c), .int .u64 ((then0.getD (i_2).toNat default).t), u4, .string ((then0.getD (i_2).toNat default).k), .string ((then0.getD (i_2).toNat default).to_), .int .i64 ((then0.getD (i_2).toNat default).n)], SlC NEOp u2 ((then0.getD (i_2).toNat default).ops), AtG ((0 : Int) ≤ i_2 ∧ i_2 < (then0.length : Int)) (blkOf v2_then0) (oofOf v2_then0 + (i_2).toNat * 6) [.int .i64 ((then0.getD (i_2).toNat default).c), .int .u64 ((then0.getD (i_2).toNat default).t), u2, .string ((then0.getD (i_2).toNat default).k), .string ((then0.getD (i_2).toNat default).to_), .int .i64 ((then0.getD (i_2).toNat default).n)], OEmvcc_Store g1 s0_3, SlC NEPair q1 s0_2.1, SlC NElaw16_Act v2_then0 then0] := H
       obtain ⟨hg8, hF⟩ := chk_in hF
       obtain ⟨p_3, hx11, hF⟩ := bnd_in hF
       refine f_quietS 11 (by kernel_rfl) (by kernel_rfl) (by kernel_rfl) (by kernel_rfl) (by kernel_rfl) Z ?_; clear Z; intro Z
       refine q_runk tMWStays Z 3 rfl rfl ?_; clear Z a; intro a Z
       refine q_ob Z (v := .pointer (some ⟨blkOf v2_then0, oofOf v2_then0 + (i_2).toNat * 6, none⟩)) rfl rfl (by decide) rfl (fun _ hw => Ob_sidx tMWStays rfl rfl rfl rfl (slPl ((H.blw hw).sl 6 rfl) hg7) hg7) ?_; clear Z a; intro a Z
       refine q_runk tMWStays Z 1 rfl rfl ?_; clear Z a; intro a Z
       refine q_ob Z (v := .int .u64 ((then0.getD (i_2).toNat default).t)) rfl rfl (by decide) rfl (fun _ hw => Ob_load tMWStays rfl rfl rfl (((H.blw hw).atg 1 rfl hg7) 1 _ rfl)) ?_; clear Z a; intro a Z
       refine q_runk tMWStays Z 2 rfl rfl ?_; clear Z a; intro a Z
       refine q_ob Z (v := .pointer (some ⟨blkOf v2_then0, oofOf v2_then0 + (i_2).toNat * 6, none⟩)) rfl rfl (by decide) rfl (fun _ hw => Ob_sidx tMWStays rfl rfl rfl rfl (slPl ((H.blw hw).sl 6 rfl) hg8) hg8) ?_; clear Z a; intro a Z
       refine q_runk tMWStays Z 1 rfl rfl ?_; clear Z a; intro a Z
       refine q_ob Z (v := u4) rfl rfl (by decide) rfl (fun _ hw => Ob_load tMWStays rfl rfl rfl (((H.blw hw).atg 1 rfl hg8) 2 _ rfl)) ?_; clear Z a; intro a Z
       refine q_endS Z [1, 2, 3, 4, 10, 11, 13, 14, 15, 16, 17, 74, 75, 76, 77, 78, 81, 84, 85, 86, 87, 88, 89, 99, 100, 101, 102, 103, 104, 105, 106, 107, 108, 109] rfl ?_; clear Z; intro w15 hb Z
       replace H : Hf I D w I10 w15 [SlC NEOp u4 ((then0.getD (i_2).toNat default).ops), AtG ((0 : Int) ≤ i_2 ∧ i_2 < (then0.length : Int)) (blkOf v2_then0) (oofOf v2_then0 + (i_2).toNat * 6) [.int .i64 ((then0.getD (i_2).toNat default).c), .int .u64 ((then0.getD (i_2).toNat default).t), u4, .string ((then0.getD (i_2).toNat default).k), .string ((then0.getD (i_2).toNat default).to_), .int .i64 ((then0.getD (i_2).toNat default).n)], SlC NEOp u2 ((then0.getD (i_2).toNat default).ops), AtG ((0 : Int) ≤ i_2 ∧ i_2 < (then0.length : Int)) (blkOf v2_then0) (oofOf v2_then0 + (i_2).toNat * 6) [.int .i64 ((then0.getD (i_2).toNat default).c), .int .u64 ((then0.getD (i_2).toNat default).t), u2, .string ((then0.getD (i_2).toNat default).k), .string ((then0.getD (i_2).toNat default).to_), .int .i64 ((then0.getD (i_2).toNat default).n)], OEmvcc_Store g1 s0_3, SlC NEPair q1 s0_2.1, SlC NElaw16_Act v2_then0 then0] := H.blw hb
       clear hb
       refine h_call Z H (js := [(4, false), (0, true)]) rfl (caps := #[]) fn_11_YMWStays rfl rfl rfl rfl rfl (by decide) rfl rfl (fun D1 hS => have hq := c_mvcc_Store_Put hx11 hS; hq) ?_; clear Z a; intro vv a w16 D2 hr hF2 Z
       obtain ⟨rfl, I13, K⟩ := hr
       have H : Hf I D w I13 w16 [OEmvcc_Store g1 p_3.2, SlC NEOp u4 ((then0.getD (i_2).toNat default).ops), AtG ((0 : Int) ≤ i_2 ∧ i_2 < (then0.length : Int)) (blkOf v2_then0) (oofOf v2_then0 + (i_2).toNat * 6) [.int .i64 ((then0.getD (i_2).toNat default).c), .int .u64 ((then0.getD (i_2).toNat default).t), u4, .string ((then0.getD (i_2).toNat default).k), .string ((then0.getD (i_2).toNat default).to_), .int .i64 ((then0.getD (i_2).toNat default).n)], SlC NEOp u2 ((then0.getD (i_2).toNat default).ops), AtG ((0 : Int) ≤ i_2 ∧ i_2 < (then0.length : Int)) (blkOf v2_then0) (oofOf v2_then0 + (i_2).toNat * 6) [.int .i64 ((then0.getD (i_2).toNat default).c), .int .u64 ((then0.getD (i_2).toNat default).t), u2, .string ((then0.getD (i_2).toNat default).k), .string ((then0.getD (i_2).toNat default).to_), .int .i64 ((then0.getD (i_2).toNat default).n)], SlC NEPair q1 s0_2.1, SlC NElaw16_Act v2_then0 then0] := hF2 K
       clear hF2 K
       refine s_end Z [1, 2, 3, 4, 10, 11, 13, 14, 15, 16, 17, 74, 75, 76, 77, 78, 81, 84, 85, 86, 87, 88, 89, 99, 100, 101, 102, 103, 104, 105, 106, 107, 108, 109] rfl ?_; clear Z; intro Z
       refine p_blk ?_
       refine p_then ?_
       exact ⟨p_3.2, Z.sub (ts := [1, 2, 3, 4, 10, 11, 13, 14, 15, 16, 17, 74, 75, 76, 77, 78, 81, 84, 85, 86, 87, 88, 89]) rfl, ⟨I13, (H.sub [(0, false), (4, true), (5, true)] rfl).eq rfl⟩, hF⟩
    ·replace hF := ite_f hc4 hF
     refine wp_exit ?_
     refine p_then_x ?_
     refine p_then_x ?_
     refine f_exit_here ?_
     refine p_then (wp_seq ?_)
     obtain ⟨g_2, hx12, hF⟩ := bnd_in hF
     refine f_region Z ?_; clear Z; intro Z
     refine s_runk tMWStays Z 3 rfl rfl ?_; clear Z a; intro a Z
     refine h_call Z H (js := [(0, false)]) rfl (caps := #[]) fn_23_YMWStays rfl rfl rfl rfl rfl (by decide) rfl rfl (fun D1 hS => have hq := c_mvcc_Store_Get hx12 hS; hq) ?_; clear Z a; intro vv a w17 D2 hr hF2 Z
     obtain ⟨rfl, I14, K⟩ := hr
     have H : Hf I D w I14 w17 [OEmvcc_Store g1 g_2.2.2, SlC NEPair q1 s0_2.1, SlC NElaw16_Act v2_then0 then0] := hF2 K
     clear hF2 K
     refine s_runk tMWStays Z 5 rfl rfl ?_; clear Z a; intro a Z
     refine s_end Z [2, 3, 4, 10, 11, 13, 14, 15, 16, 18, 19] rfl ?_; clear Z; intro Z
     refine p_then (wp_seq ?_)
     obtain ⟨s0_5, hx13, hF⟩ := bnd_in hF
     refine f_region Z ?_; clear Z; intro Z
     refine s_runk tMWStays Z 4 rfl rfl ?_; clear Z a; intro a Z
     refine h_call Z H (js := [(0, false)]) rfl (caps := #[]) fn_12_YMWStays rfl rfl rfl rfl rfl (by decide) rfl rfl (fun D1 hS => have hq := c_mvcc_Store_Scan hx13 hS; hq) ?_; clear Z a; intro vv a w18 D2 hr hF2 Z
     obtain ⟨q2, rfl, I15, K⟩ := hr
     have H : Hf I D w I15 w18 [OEmvcc_Store g1 s0_5.2.2, SlC NEPair q2 s0_5.1, SlC NEPair q1 s0_2.1, SlC NElaw16_Act v2_then0 then0] := hF2 K
     clear hF2 K
     refine s_runk tMWStays Z 5 rfl rfl ?_; clear Z a; intro a Z
     refine s_end Z [10, 13, 14, 15, 16, 18, 19, 20, 21] rfl ?_; clear Z; intro Z
     refine p_then (wp_seq ?_)
     obtain ⟨s0_6, hx14, hF⟩ := bnd_in hF
     obtain ⟨a0_3, hx15, hF⟩ := bnd_in hF
     refine f_region Z ?_; clear Z; intro Z
     refine s_runk tMWStays Z 4 rfl rfl ?_; clear Z a; intro a Z
     refine g_ob Z (p := (seqB g.1 g_2.1)) (v := .bool g.2.1) (S' := [(14, .bool g.2.1)]) rfl rfl rfl (wantB_t _) rfl (by decide) (fun hp hS => hS.sub (ts := [14]) rfl) (fun hp => Ob_c tMWStays rfl) ?_; clear Z a; intro a Z
     refine g_ob Z (p := (seqB g.1 g_2.1)) (v := .bool g_2.2.1) (S' := [(19, .bool g_2.2.1)]) rfl rfl rfl (wantB_t _) rfl (by decide) (fun hp hS => hS.sub (ts := [19]) rfl) (fun hp => Ob_c tMWStays rfl) ?_; clear Z a; intro a Z
     refine g_ob Z (p := (seqB g.1 g_2.1)) (v := .bool (g.2.1 == g_2.2.1)) (S' := [(130, .bool g.2.1), (131, .bool g_2.2.1)]) rfl rfl rfl (wantB_t _) rfl (by decide) (fun hp hS => ((hS.conv (t := 130) rfl (cond_t hp)).conv (t := 131) rfl (cond_t hp)).sub (ts := [130, 131]) rfl) (fun hp => Ob_c tMWStays rfl) ?_; clear Z a; intro a Z
     refine s_ob Z (v := .bool ((seqB g.1 g_2.1) && (g.2.1 == g_2.2.1))) rfl rfl (by decide) rfl (Ob_pick rfl rfl rfl rfl (pick_and _ _)) ?_; clear Z a; intro a Z
     refine s_runk tMWStays Z 1 rfl rfl ?_; clear Z a; intro a Z
     refine g_ob Z (p := ((seqB g.1 g_2.1) && (g.2.1 == g_2.2.1))) (v := q1) (S' := [(15, q1)]) rfl rfl rfl (wantB_t _) rfl (by decide) (fun hp hS => hS.sub (ts := [15]) rfl) (fun hp => Ob_c tMWStays rfl) ?_; clear Z a; intro a Z
     refine g_ob Z (p := ((seqB g.1 g_2.1) && (g.2.1 == g_2.2.1))) (v := q2) (S' := [(20, q2)]) rfl rfl rfl (wantB_t _) rfl (by decide) (fun hp hS => hS.sub (ts := [20]) rfl) (fun hp => Ob_c tMWStays rfl) ?_; clear Z a; intro a Z
     refine g_call Z (p := ((seqB g.1 g_2.1) && (g.2.1 == g_2.2.1))) (v := .bool s0_6) (S' := [(135, q1), (136, q2)]) (caps := #[]) fn_13_YMWStays rfl rfl rfl (wantB_t _) rfl (by decide) (fun hp hS => ((hS.conv (t := 135) rfl (cond_t hp)).conv (t := 136) rfl (cond_t hp)).sub (ts := [135, 136]) rfl) rfl rfl rfl rfl (fun hp => have hq := c_ref06_SamePairs (gif_in hx14 hp) (H.pick0 (js := [(2, true), (1, true)]) rfl rfl); plainC hq) ?_; clear Z a; intro a w19 hb Z
     replace H : Hf I D w I15 w19 [OEmvcc_Store g1 s0_5.2.2, SlC NEPair q2 s0_5.1, SlC NEPair q1 s0_2.1, SlC NElaw16_Act v2_then0 then0] := H.blw hb
     clear hb
     refine s_ob Z (v := .bool (((seqB g.1 g_2.1) && (g.2.1 == g_2.2.1)) && s0_6)) rfl rfl (by decide) rfl (Ob_pick rfl rfl rfl rfl (pick_and _ _)) ?_; clear Z a; intro a Z
     refine s_runk tMWStays Z 1 rfl rfl ?_; clear Z a; intro a Z
     refine g_ob Z (p := (((seqB g.1 g_2.1) && (g.2.1 == g_2.2.1)) && s0_6)) (v := .bool s0_2.2.1) (S' := [(16, .bool s0_2.2.1)]) rfl rfl rfl (wantB_t _) rfl (by decide) (fun hp hS => hS.sub (ts := [16]) rfl) (fun hp => Ob_c tMWStays rfl) ?_; clear Z a; intro a Z
     refine g_ob Z (p := (((seqB g.1 g_2.1) && (g.2.1 == g_2.2.1)) && s0_6)) (v := .bool s0_5.2.1) (S' := [(21, .bool s0_5.2.1)]) rfl rfl rfl (wantB_t _) rfl (by decide) (fun hp hS => hS.sub (ts := [21]) rfl) (fun hp => Ob_c tMWStays rfl) ?_; clear Z a; intro a Z
     refine g_ob Z (p := (((seqB g.1 g_2.1) && (g.2.1 == g_2.2.1)) && s0_6)) (v := .bool (s0_2.2.1 == s0_5.2.1)) (S' := [(140, .bool s0_2.2.1), (141, .bool s0_5.2.1)]) rfl rfl rfl (wantB_t _) rfl (by decide) (fun hp hS => ((hS.conv (t := 140) rfl (cond_t hp)).conv (t := 141) rfl (cond_t hp)).sub (ts := [140, 141]) rfl) (fun hp => Ob_c tMWStays rfl) ?_; clear Z a; intro a Z
     refine s_ob Z (v := .bool ((((seqB g.1 g_2.1) && (g.2.1 == g_2.2.1)) && s0_6) && (s0_2.2.1 == s0_5.2.1))) rfl rfl (by decide) rfl (Ob_pick rfl rfl rfl rfl (pick_and _ _)) ?_; clear Z a; intro a Z
     refine s_runk tMWStays Z 1 rfl rfl ?_; clear Z a; intro a Z
     refine g_call Z (p := ((((seqB g.1 g_2.1) && (g.2.1 == g_2.2.1)) && s0_6) && (s0_2.2.1 == s0_5.2.1))) (v := .bool a0_3) (S' := []) (caps := #[]) fn_9_YMWStays rfl rfl rfl (wantB_t _) rfl (by decide) (fun hp hS => hS.sub (ts := []) rfl) rfl rfl rfl rfl (fun hp => have hq := c_law16_awake (gif_in hx15 hp) (H.pick0 (js := []) rfl rfl); plainC hq) ?_; clear Z a; intro a w20 hb Z
     replace H : Hf I D w I15 w20 [OEmvcc_Store g1 s0_5.2.2, SlC NEPair q2 s0_5.1, SlC NEPair q1 s0_2.1, SlC NElaw16_Act v2_then0 then0] := H.blw hb
     clear hb
     refine s_ob Z (v := .bool (((((seqB g.1 g_2.1) && (g.2.1 == g_2.2.1)) && s0_6) && (s0_2.2.1 == s0_5.2.1)) && a0_3)) rfl rfl (by decide) rfl (Ob_pick rfl rfl rfl rfl (pick_and _ _)) ?_; clear Z a; intro a Z
     refine s_runk tMWStays Z 1 rfl rfl ?_; clear Z a; intro a Z
     refine s_end Z [10] rfl ?_; clear Z; intro Z
     refine p_then (wp_ret ?_)
     obtain rfl := some_in hF
     exact f_ret Z (run_results1 rfl Z rfl) ⟨rfl, I15, (H.sub [] rfl).eq rfl⟩

end Go.Proofs.Ytfefmdllnjpmgaa
