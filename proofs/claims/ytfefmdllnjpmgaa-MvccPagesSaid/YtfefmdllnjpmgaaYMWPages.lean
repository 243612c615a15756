/- Many versions: the law MvccPages walked. -/
import Derived.Test.YtfefmdllnjpmgaaYMW
namespace Go.Proofs.Ytfefmdllnjpmgaa
open Go.RowKit
def tMWPagesL : TabL := ⟨[(32769, 1), (32770, 2), (39936, 0)], [], [], [(22, (32, 6)), (33, (39, 2))], [(9, (1, false)), (23, (1, false)), (30, (1, false))]⟩

def tMWPages : Tab Try.prog := ⟨tMWPagesL, by kernel_rfl⟩

theorem fn_8_YMWPages : IsFn Try.prog 8 := ⟨_, Try.func8, by kernel_rfl, by kernel_rfl⟩

theorem fn_9_YMWPages : IsFn Try.prog 9 := ⟨_, Try.func9, by kernel_rfl, by kernel_rfl⟩

theorem fn_10_YMWPages : IsFn Try.prog 10 := ⟨_, Try.func10, by kernel_rfl, by kernel_rfl⟩

theorem fn_11_YMWPages : IsFn Try.prog 11 := ⟨_, Try.func11, by kernel_rfl, by kernel_rfl⟩

theorem fn_12_YMWPages : IsFn Try.prog 12 := ⟨_, Try.func12, by kernel_rfl, by kernel_rfl⟩

theorem fn_13_YMWPages : IsFn Try.prog 13 := ⟨_, Try.func13, by kernel_rfl, by kernel_rfl⟩

theorem fn_14_YMWPages : IsFn Try.prog 14 := ⟨_, Try.func14, by kernel_rfl, by kernel_rfl⟩

theorem E_33_YMWPages : Elem Try.prog 33 39 2 32 := ⟨Try.underlying33, by
 have h : (Try.prog.info? 39).map (fun i => (i.zero, i.size, i.bytes)) = some (some (.agg #[.string ByteArray.empty, .string ByteArray.empty]), 2, 32) := by kernel_rfl
 obtain ⟨i, hi, h1⟩ := Option.map_eq_some_iff.1 h
 simp only [Prod.mk.injEq] at h1
 exact ⟨i, _, hi, h1.1, h1.2.1, h1.2.2, by rfl⟩, by decide⟩

def F_law16_MvccPages_l2 (t : Int) (to_ : ByteArray) (n0 : Int) (s0_2 : (List EPair) × Bool × Emvcc_Store) (rc_2 : ((List EPair) × ByteArray × Int × Emvcc_Store) → Option Bool) (sg : (List EPair) × ByteArray × Int × Emvcc_Store) : Option Bool := match sg with | (got, from_, i_2, s0_3) => if (decide (i_2 < 200)) = true then ((F_mvcc_Store_Scan s0_3 from_ to_ t (1 + (n0.tmod 5))).bind fun s0_4 => (chk (((got.length + s0_4.1.length : Nat) : Int) * 32 ≤ 140737488355328) (if (!s0_4.2.1) = true then ((F_ref06_SamePairs (got ++ s0_4.1) s0_2.1).bind fun s0_5 => ((gif s0_5 (F_law16_awake) default).bind fun a0_2 => (some (s0_5 && a0_2)))) else (if ((s0_4.1.length : Int) != (1 + (n0.tmod 5))) = true then (some false) else (chk (inI ((s0_4.1.length : Int) - 1)) (chk ((0 : Int) ≤ (s0_4.1.length : Int) - 1 ∧ (s0_4.1.length : Int) - 1 < (s0_4.1.length : Int)) ((F_ref05_Next ((s0_4.1.getD ((s0_4.1.length : Int) - 1).toNat default).key)).bind fun n0_3 => (chk (inI (i_2 + 1)) (rc_2 (got ++ s0_4.1, n0_3, i_2 + 1, s0_4.2.2)))))))))) else (some false)

def F_law16_MvccPages_l1 (first : List Elaw16_Act) (t : Int) (k : ByteArray) (to_ : ByteArray) (n0 : Int) (rc : (Int × Emvcc_Store) → Option Bool) (sg : Int × Emvcc_Store) : Option Bool := match sg with | (i, s0) => if ((decide (i < (first.length : Int))) && (decide (i < 30))) = true then (chk ((0 : Int) ≤ i ∧ i < (first.length : Int)) (chk ((0 : Int) ≤ i ∧ i < (first.length : Int)) ((F_mvcc_Store_Put s0 ((first.getD (i).toNat default).t) ((first.getD (i).toNat default).ops)).bind fun p => (chk (inI (i + 1)) (rc (i + 1, p.2)))))) else ((F_mvcc_Store_Scan s0 k to_ t 1000).bind fun s0_2 => (chk (inI n0) (chk (inI (1 + (n0.tmod 5))) (iter (F_law16_MvccPages_l2 t to_ n0 s0_2) FU (([] : List EPair), k, 0, s0_2.2.2)))))

def F_law16_MvccPages (first : List Elaw16_Act) (t : Int) (k : ByteArray) (to_ : ByteArray) (n0 : Int) : Option Bool := (F_law16_few first).bind fun f => (if (!f) = true then ((F_law16_awake).bind fun a0 => (some a0)) else ((F_mvcc_New).bind fun n0_2 => (iter (F_law16_MvccPages_l1 first t k to_ n0) FU (0, n0_2))))

set_option maxHeartbeats 1000000 in
theorem c_law16_MvccPages {I D : Dm} {first : List Elaw16_Act} {v1_first : Value} {t : Int} {k : ByteArray} {to_ : ByteArray} {n0 : Int} {w : World} {rr : Bool} (hF : F_law16_MvccPages first t k to_ n0 = some rr) (H : St I D w [SlC NElaw16_Act v1_first first]) :
  Calls Try.prog 3 #[v1_first, .int .u64 t, .string k, .string to_, .int .u8 n0] w (Ret fun vv w' => vv = .bool rr ∧ ∃ I', Hf I D w I' w' []) := by
 replace H := H.hf
 unfold F_law16_MvccPages at hF
 refine f_enter 97 Try.func3 rfl rfl (Nat.le_of_ble_eq_true rfl) fun a Z => ?_
 replace Z := Z.sub (ts := [0, 1, 2, 3, 4]) rfl
 refine wp_seq (f_region Z ?_); clear Z; intro Z
 refine s_runk tMWPages Z 1 rfl rfl ?_; clear Z a; intro a Z
 refine s_end Z [0, 1, 2, 3, 4, 10] rfl ?_; clear Z; intro Z
 refine p_then (wp_seq ?_)
 refine wp_seq ?_
 obtain ⟨f, hx1, hF⟩ := bnd_in hF
 refine f_region Z ?_; clear Z; intro Z
 refine s_runk tMWPages Z 1 rfl rfl ?_; clear Z a; intro a Z
 refine h_call Z H (js := [(0, true)]) rfl (caps := #[]) fn_8_YMWPages rfl rfl rfl rfl rfl (by decide) rfl rfl (fun D1 hS => have hq := c_law16_few hx1 hS; hq) ?_; clear Z a; intro vv a w1 D2 hr hF2 Z
 obtain ⟨rfl, I1, K⟩ := hr
 have H : Hf I D w I1 w1 [SlC NElaw16_Act v1_first first] := hF2 K
 clear hF2 K
 refine s_runk tMWPages Z 1 rfl rfl ?_; clear Z a; intro a Z
 refine s_end Z [0, 1, 2, 3, 4, 10, 23] rfl ?_; clear Z; intro Z
 refine p_then ?_
 refine f_cond Z rfl (fun hc1 => ?_) (fun hc1 => ?_)
 ·replace hF := ite_t hc1 hF
  refine wp_seq ?_
  obtain ⟨a0, hx2, hF⟩ := bnd_in hF
  refine f_region Z ?_; clear Z; intro Z
  refine h_call Z H (js := []) rfl (caps := #[]) fn_9_YMWPages rfl rfl rfl rfl rfl (by decide) rfl rfl (fun D1 hS => have hq := c_law16_awake hx2 hS; hq) ?_; clear Z a; intro vv a w2 D2 hr hF2 Z
  obtain ⟨rfl, I2, K⟩ := hr
  have H : Hf I D w I2 w2 [SlC NElaw16_Act v1_first first] := hF2 K
  clear hF2 K
  refine s_runk tMWPages Z 1 rfl rfl ?_; clear Z a; intro a Z
  refine s_end Z [0, 1, 2, 3, 4, 10] rfl ?_; clear Z; intro Z
  refine p_then (wp_ret ?_)
  refine p_then_r ?_
  obtain rfl := some_in hF
  exact f_ret Z (run_results1 rfl Z rfl) ⟨rfl, I2, (H.sub [] rfl).eq rfl⟩
 ·replace hF := ite_f hc1 hF
  refine wp_skip ?_
  refine p_then (wp_seq ?_)
  obtain ⟨n0_2, hx3, hF⟩ := bnd_in hF
  refine f_region Z ?_; clear Z; intro Z
  refine h_call Z H (js := []) rfl (caps := #[]) fn_10_YMWPages rfl rfl rfl rfl rfl (by decide) rfl rfl (fun D1 hS => have hq := c_mvcc_New hx3 hS; hq) ?_; clear Z a; intro vv a w3 D2 hr hF2 Z
  obtain ⟨g1, rfl, I3, K⟩ := hr
  have H : Hf I D w I3 w3 [OEmvcc_Store g1 n0_2, SlC NElaw16_Act v1_first first] := hF2 K
  clear hF2 K
  refine s_runk tMWPages Z 1 rfl rfl ?_; clear Z a; intro a Z
  refine s_end Z [0, 1, 2, 3, 4, 10, 11] rfl ?_; clear Z; intro Z
  refine p_then (wp_seq ?_)
  refine wp_seq (f_region Z ?_); clear Z; intro Z
  refine s_runk tMWPages Z 1 rfl rfl ?_; clear Z a; intro a Z
  refine s_end Z [0, 1, 2, 3, 4, 10, 11, 12] rfl ?_; clear Z; intro Z
  refine p_then (wp_block ?_)
  refine f_iter hF (fun sg a' w' => match sg with | (i, s0) => Sl 97 [(0, v1_first), (1, .int .u64 t), (2, .string k), (3, .string to_), (4, .int .u8 n0), (10, .bool false), (11, .pointer (some ⟨g1, 0, none⟩)), (12, .int .i64 i)] a' ∧ ∃ I2, Hf I D w I2 w' [OEmvcc_Store g1 s0, SlC NElaw16_Act v1_first first]) ⟨Z.sub (ts := [0, 1, 2, 3, 4, 10, 11, 12]) rfl, ⟨I3, (H.sub [(0, false), (0, true)] rfl).eq rfl⟩⟩ ?_
  clear Z H hF a
  rintro rc ⟨i, s0⟩ a w4 ⟨Z, I4, H⟩ hF
  unfold F_law16_MvccPages_l1 at hF
  try dsimp only at hF
  refine wp_seq ?_
  refine wp_seq (f_region Z ?_); clear Z; intro Z
  refine s_runk tMWPages Z 2 rfl rfl ?_; clear Z a; intro a Z
  refine s_ob Z (v := .int .i64 (first.length : Int)) rfl rfl (by decide) rfl (Ob_slen tMWPages rfl rfl rfl (H.slshape 1 rfl)) ?_; clear Z a; intro a Z
  refine s_runk tMWPages Z 2 rfl rfl ?_; clear Z a; intro a Z
  refine g_ob Z (p := (decide (i < (first.length : Int)))) (v := .int .i64 i) (S' := [(12, .int .i64 i)]) rfl rfl rfl (wantB_t _) rfl (by decide) (fun hp hS => hS.sub (ts := [12]) rfl) (fun hp => Ob_c tMWPages rfl) ?_; clear Z a; intro a Z
  refine g_ob Z (p := (decide (i < (first.length : Int)))) (v := .bool (decide (i < 30))) (S' := [(31, .int .i64 i)]) rfl rfl rfl (wantB_t _) rfl (by decide) (fun hp hS => (hS.conv (t := 31) rfl (cond_t hp)).sub (ts := [31]) rfl) (fun hp => Ob_c tMWPages rfl) ?_; clear Z a; intro a Z
  refine s_ob Z (v := .bool ((decide (i < (first.length : Int))) && (decide (i < 30)))) rfl rfl (by decide) rfl (Ob_pick rfl rfl rfl rfl (pick_and _ _)) ?_; clear Z a; intro a Z
  refine s_end Z [0, 1, 2, 3, 4, 10, 11, 12, 26, 27, 28, 29, 30, 33] rfl ?_; clear Z; intro Z
  refine p_then ?_
  refine f_cond Z rfl (fun hc2 => ?_) (fun hc2 => ?_)
  ·replace hF := ite_t hc2 hF
   refine wp_skip ?_
   refine p_then (wp_seq ?_)
   refine wp_block ?_
   obtain ⟨hg1, hF⟩ := chk_in hF
   obtain ⟨_, ⟨u1, rfl, L1⟩, H⟩ := H.elG 1 rfl (i) (NElaw16_Act.dft _ _)
   replace H := H.addsl L1
   replace H : Hf I D w I4 w4 [SlC NEOp u1 ((first.getD (i).toNat default).ops), AtG ((0 : Int) ≤ i ∧ i < (first.length : Int)) (blkOf v1_first) (oofOf v1_first + (i).toNat * 6) [.int .i64 ((first.getD (i).toNat default).c), .int .u64 ((first.getD (i).toNat default).t), u1, .string ((first.getD (i).toNat default).k), .string ((first.getD (i).toNat default).to_), .int .i64 ((first.getD (i).toNat default).n)], OEmvcc_Store g1 s0, SlC NElaw16_Act v1_first first] := H
   obtain ⟨hg2, hF⟩ := chk_in hF
   obtain ⟨p, hx4, hF⟩ := bnd_in hF
   refine f_quietS 11 (by kernel_rfl) (by kernel_rfl) (by kernel_rfl) (by kernel_rfl) (by kernel_rfl) Z ?_; clear Z; intro Z
   refine q_runk tMWPages Z 3 rfl rfl ?_; clear Z a; intro a Z
   refine q_ob Z (v := .pointer (some ⟨blkOf v1_first, oofOf v1_first + (i).toNat * 6, none⟩)) rfl rfl (by decide) rfl (fun _ hw => Ob_sidx tMWPages rfl rfl rfl rfl (slPl ((H.blw hw).sl 3 rfl) hg1) hg1) ?_; clear Z a; intro a Z
   refine q_runk tMWPages Z 1 rfl rfl ?_; clear Z a; intro a Z
   refine q_ob Z (v := .int .u64 ((first.getD (i).toNat default).t)) rfl rfl (by decide) rfl (fun _ hw => Ob_load tMWPages rfl rfl rfl (((H.blw hw).atg 1 rfl hg1) 1 _ rfl)) ?_; clear Z a; intro a Z
   refine q_runk tMWPages Z 2 rfl rfl ?_; clear Z a; intro a Z
   refine q_ob Z (v := .pointer (some ⟨blkOf v1_first, oofOf v1_first + (i).toNat * 6, none⟩)) rfl rfl (by decide) rfl (fun _ hw => Ob_sidx tMWPages rfl rfl rfl rfl (slPl ((H.blw hw).sl 3 rfl) hg2) hg2) ?_; clear Z a; intro a Z
   refine q_runk tMWPages Z 1 rfl rfl ?_; clear Z a; intro a Z
   refine q_ob Z (v := u1) rfl rfl (by decide) rfl (fun _ hw => Ob_load tMWPages rfl rfl rfl (((H.blw hw).atg 1 rfl hg2) 2 _ rfl)) ?_; clear Z a; intro a Z
   refine q_endS Z [0, 1, 2, 3, 4, 10, 11, 12, 26, 27, 28, 29, 30, 33, 36, 37, 38, 39, 40, 41, 42, 43, 44, 45, 46] rfl ?_; clear Z; intro w5 hb Z
   replace H : Hf I D w I4 w5 [SlC NEOp u1 ((first.getD (i).toNat default).ops), AtG ((0 : Int) ≤ i ∧ i < (first.length : Int)) (blkOf v1_first) (oofOf v1_first + (i).toNat * 6) [.int .i64 ((first.getD (i).toNat default).c), .int .u64 ((first.getD (i).toNat default).t), u1, .string ((first.getD (i).toNat default).k), .string ((first.getD (i).toNat default).to_), .int .i64 ((first.getD (i).toNat default).n)], OEmvcc_Store g1 s0, SlC NElaw16_Act v1_first first] := H.blw hb
   clear hb
   refine h_call Z H (js := [(2, false), (0, true)]) rfl (caps := #[]) fn_11_YMWPages rfl rfl rfl rfl rfl (by decide) rfl rfl (fun D1 hS => have hq := c_mvcc_Store_Put hx4 hS; hq) ?_; clear Z a; intro vv a w6 D2 hr hF2 Z
   obtain ⟨rfl, I5, K⟩ := hr
   have H : Hf I D w I5 w6 [OEmvcc_Store g1 p.2, SlC NEOp u1 ((first.getD (i).toNat default).ops), AtG ((0 : Int) ≤ i ∧ i < (first.length : Int)) (blkOf v1_first) (oofOf v1_first + (i).toNat * 6) [.int .i64 ((first.getD (i).toNat default).c), .int .u64 ((first.getD (i).toNat default).t), u1, .string ((first.getD (i).toNat default).k), .string ((first.getD (i).toNat default).to_), .int .i64 ((first.getD (i).toNat default).n)], SlC NElaw16_Act v1_first first] := hF2 K
   clear hF2 K
   refine s_end Z [0, 1, 2, 3, 4, 10, 11, 12, 26, 27, 28, 29, 30, 33, 36, 37, 38, 39, 40, 41, 42, 43, 44, 45, 46] rfl ?_; clear Z; intro Z
   refine p_blk ?_
   refine p_then ?_
   obtain ⟨hg3, hF⟩ := chk_in hF
   refine f_region Z ?_; clear Z; intro Z
   refine s_runk tMWPages Z 1 rfl rfl ?_; clear Z a; intro a Z
   refine s_ob Z (v := .int .i64 (i + 1)) rfl rfl (by decide) rfl (Ob_add rfl rfl rfl (wrI hg3)) ?_; clear Z a; intro a Z
   refine s_runk tMWPages Z 1 rfl rfl ?_; clear Z a; intro a Z
   refine s_end Z [0, 1, 2, 3, 4, 10, 11, 12, 26, 27, 28, 29, 30, 33, 36, 37, 38, 39, 40, 41, 42, 43, 44, 45, 46, 34, 35] rfl ?_; clear Z; intro Z
   refine p_then ?_
   exact ⟨(i + 1, p.2), ⟨Z.sub (ts := [0, 1, 2, 3, 4, 10, 11, 12]) rfl, ⟨I5, (H.sub [(0, false), (2, true)] rfl).eq rfl⟩⟩, hF⟩
  ·replace hF := ite_f hc2 hF
   refine wp_exit ?_
   refine p_then_x ?_
   refine p_then_x ?_
   refine f_exit_here ?_
   refine p_then (wp_seq ?_)
   obtain ⟨s0_2, hx5, hF⟩ := bnd_in hF
   refine f_region Z ?_; clear Z; intro Z
   refine s_runk tMWPages Z 4 rfl rfl ?_; clear Z a; intro a Z
   refine h_call Z H (js := [(0, false)]) rfl (caps := #[]) fn_12_YMWPages rfl rfl rfl rfl rfl (by decide) rfl rfl (fun D1 hS => have hq := c_mvcc_Store_Scan hx5 hS; hq) ?_; clear Z a; intro vv a w7 D2 hr hF2 Z
   obtain ⟨q1, rfl, I6, K⟩ := hr
   have H : Hf I D w I6 w7 [OEmvcc_Store g1 s0_2.2.2, SlC NEPair q1 s0_2.1, SlC NElaw16_Act v1_first first] := hF2 K
   clear hF2 K
   refine s_runk tMWPages Z 5 rfl rfl ?_; clear Z a; intro a Z
   refine s_end Z [1, 2, 3, 4, 10, 11, 13] rfl ?_; clear Z; intro Z
   refine p_then (wp_seq ?_)
   obtain ⟨hg4, hF⟩ := chk_in hF
   obtain ⟨hg5, hF⟩ := chk_in hF
   refine f_region Z ?_; clear Z; intro Z
   refine s_runk tMWPages Z 1 rfl rfl ?_; clear Z a; intro a Z
   refine s_ob Z (v := .int .i64 n0) rfl rfl (by decide) rfl (Ob_conv rfl rfl (run_convi Try.underlying5 Try.underlying3 _ _ (wrI hg4) _)) ?_; clear Z a; intro a Z
   refine s_ob Z (v := .int .i64 (n0.tmod 5)) rfl rfl (by decide) rfl (Ob_rem rfl rfl rfl (by decide) rfl) ?_; clear Z a; intro a Z
   refine s_ob Z (v := .int .i64 (1 + (n0.tmod 5))) rfl rfl (by decide) rfl (Ob_add rfl rfl rfl (wrI hg5)) ?_; clear Z a; intro a Z
   refine s_runk tMWPages Z 1 rfl rfl ?_; clear Z a; intro a Z
   refine s_end Z [1, 2, 3, 10, 11, 13, 15] rfl ?_; clear Z; intro Z
   refine p_then (wp_seq (f_region Z ?_)); clear Z; intro Z
   refine s_runk tMWPages Z 1 rfl rfl ?_; clear Z a; intro a Z
   refine s_end Z [1, 2, 3, 10, 11, 13, 15, 16] rfl ?_; clear Z; intro Z
   refine p_then (wp_seq (f_region Z ?_)); clear Z; intro Z
   refine s_runk tMWPages Z 2 rfl rfl ?_; clear Z a; intro a Z
   refine s_end Z [1, 3, 10, 11, 13, 15, 16, 17] rfl ?_; clear Z; intro Z
   refine p_then (wp_seq ?_)
   refine wp_seq (f_region Z ?_); clear Z; intro Z
   refine s_runk tMWPages Z 1 rfl rfl ?_; clear Z a; intro a Z
   refine s_end Z [1, 3, 10, 11, 13, 15, 16, 17, 18] rfl ?_; clear Z; intro Z
   refine p_then (wp_block ?_)
   replace H : Hf I D w I6 w7 [OwC NEPair 39 (.slice none 0 0) ([] : List EPair), OEmvcc_Store g1 s0_2.2.2, SlC NEPair q1 s0_2.1, SlC NElaw16_Act v1_first first] := H.nilow NEPair 39
   refine f_iter hF (fun sg a' w' => match sg with | (got, from_, i_2, s0_3) => ∃ v2 : Value, Sl 97 [(1, .int .u64 t), (3, .string to_), (10, .bool false), (11, .pointer (some ⟨g1, 0, none⟩)), (13, q1), (15, .int .i64 (1 + (n0.tmod 5))), (16, v2), (17, .string from_), (18, .int .i64 i_2)] a' ∧ ∃ I2, Hf I D w I2 w' [OEmvcc_Store g1 s0_3, SlC NEPair q1 s0_2.1, OwC NEPair 39 v2 got]) ⟨.slice none 0 0, Z.sub (ts := [1, 3, 10, 11, 13, 15, 16, 17, 18]) rfl, ⟨I6, (H.sub [(1, false), (1, true), (0, false)] rfl).eq rfl⟩⟩ ?_
   clear Z H hF a
   rintro rc_2 ⟨got, from_, i_2, s0_3⟩ a w8 ⟨v2, Z, I7, H⟩ hF
   unfold F_law16_MvccPages_l2 at hF
   try dsimp only at hF
   refine wp_seq ?_
   refine wp_seq (f_region Z ?_); clear Z; intro Z
   refine s_runk tMWPages Z 2 rfl rfl ?_; clear Z a; intro a Z
   refine s_end Z [1, 3, 10, 11, 13, 15, 16, 17, 18, 61, 62] rfl ?_; clear Z; intro Z
   refine p_then ?_
   refine f_cond Z rfl (fun hc3 => ?_) (fun hc3 => ?_)
   ·replace hF := ite_t hc3 hF
    refine wp_skip ?_
    refine p_then (wp_seq ?_)
    refine wp_block ?_
    refine wp_seq ?_
    obtain ⟨s0_4, hx6, hF⟩ := bnd_in hF
    refine f_region Z ?_; clear Z; intro Z
    refine s_runk tMWPages Z 5 rfl rfl ?_; clear Z a; intro a Z
    refine h_call Z H (js := [(0, false)]) rfl (caps := #[]) fn_12_YMWPages rfl rfl rfl rfl rfl (by decide) rfl rfl (fun D1 hS => have hq := c_mvcc_Store_Scan hx6 hS; hq) ?_; clear Z a; intro vv a w9 D2 hr hF2 Z
    obtain ⟨q2, rfl, I8, K⟩ := hr
    have H : Hf I D w I8 w9 [OEmvcc_Store g1 s0_4.2.2, SlC NEPair q2 s0_4.1, SlC NEPair q1 s0_2.1, OwC NEPair 39 v2 got] := hF2 K
    clear hF2 K
    refine s_runk tMWPages Z 5 rfl rfl ?_; clear Z a; intro a Z
    refine s_end Z [1, 3, 10, 11, 13, 15, 16, 17, 18, 61, 62, 66, 67, 68, 69, 70, 71, 65, 72, 73, 19, 20] rfl ?_; clear Z; intro Z
    refine p_then (wp_seq ?_)
    obtain ⟨hg6, hF⟩ := chk_in hF
    refine f_region Z ?_; clear Z; intro Z
    refine s_runk tMWPages Z 2 rfl rfl ?_; clear Z a; intro a Z
    refine h_appO Z H 3 E_33_YMWPages s0_4.1 rfl rfl rfl rfl rfl (by decide) rfl rfl rfl (H.sl2 1 rfl) hg6 (by decide) ?_; clear Z a H; intro v3 a w10 H Z
    dsimp only [List.eraseIdx] at H
    refine s_runk tMWPages Z 1 rfl rfl ?_; clear Z a; intro a Z
    refine s_end Z [1, 3, 10, 11, 13, 15, 16, 17, 18, 61, 62, 66, 67, 68, 69, 70, 71, 65, 72, 73, 19, 20, 74, 75, 76] rfl ?_; clear Z; intro Z
    refine p_then (wp_seq ?_)
    refine wp_seq (f_region Z ?_); clear Z; intro Z
    refine s_runk tMWPages Z 2 rfl rfl ?_; clear Z a; intro a Z
    refine s_end Z [1, 3, 10, 11, 13, 15, 16, 17, 18, 61, 62, 66, 67, 68, 69, 70, 71, 65, 72, 73, 19, 20, 74, 75, 76, 77, 78] rfl ?_; clear Z; intro Z
    refine p_then ?_
    refine f_cond Z rfl (fun hc4 => ?_) (fun hc4 => ?_)
    ·replace hF := ite_t hc4 hF
     refine wp_seq ?_
     obtain ⟨s0_5, hx7, hF⟩ := bnd_in hF
     obtain ⟨a0_2, hx8, hF⟩ := bnd_in hF
     refine f_region Z ?_; clear Z; intro Z
     refine s_runk tMWPages Z 2 rfl rfl ?_; clear Z a; intro a Z
     obtain ⟨I9, _, H⟩ := H.frzow 0 rfl
     replace H : Hf I D w I9 w10 [SlC NEPair v3 (got ++ s0_4.1), OEmvcc_Store g1 s0_4.2.2, SlC NEPair q2 s0_4.1, SlC NEPair q1 s0_2.1] := H
     refine h_call Z H (js := [(0, true), (3, true)]) rfl (caps := #[]) fn_13_YMWPages rfl rfl rfl rfl rfl (by decide) rfl rfl (fun D1 hS => have hq := c_ref06_SamePairs hx7 hS; hq) ?_; clear Z a; intro vv a w11 D2 hr hF2 Z
     obtain ⟨rfl, I10, K⟩ := hr
     have H : Hf I D w I10 w11 [SlC NEPair v3 (got ++ s0_4.1), OEmvcc_Store g1 s0_4.2.2, SlC NEPair q2 s0_4.1, SlC NEPair q1 s0_2.1] := hF2 K
     clear hF2 K
     refine s_runk tMWPages Z 1 rfl rfl ?_; clear Z a; intro a Z
     refine g_call Z (p := s0_5) (v := .bool a0_2) (S' := []) (caps := #[]) fn_9_YMWPages rfl rfl rfl (wantB_t _) rfl (by decide) (fun hp hS => hS.sub (ts := []) rfl) rfl rfl rfl rfl (fun hp => have hq := c_law16_awake (gif_in hx8 hp) (H.pick0 (js := []) rfl rfl); plainC hq) ?_; clear Z a; intro a w12 hb Z
     replace H : Hf I D w I10 w12 [SlC NEPair v3 (got ++ s0_4.1), OEmvcc_Store g1 s0_4.2.2, SlC NEPair q2 s0_4.1, SlC NEPair q1 s0_2.1] := H.blw hb
     clear hb
     refine s_ob Z (v := .bool (s0_5 && a0_2)) rfl rfl (by decide) rfl (Ob_pick rfl rfl rfl rfl (pick_and _ _)) ?_; clear Z a; intro a Z
     refine s_runk tMWPages Z 1 rfl rfl ?_; clear Z a; intro a Z
     refine s_end Z [1, 3, 10, 11, 13, 15, 16, 17, 18, 61, 62, 66, 67, 68, 69, 70, 71, 65, 72, 73, 19, 20, 74, 75, 76, 77, 78, 79, 80, 81, 82, 84] rfl ?_; clear Z; intro Z
     refine p_then (wp_ret ?_)
     refine p_then_r ?_
     refine p_blk_r ?_
     refine p_then_r ?_
     refine p_then_r ?_
     refine p_blk_r ?_
     refine p_then_r ?_
     obtain rfl := some_in hF
     exact f_ret Z (run_results1 rfl Z rfl) ⟨rfl, I10, (H.sub [] rfl).eq rfl⟩
    ·replace hF := ite_f hc4 hF
     refine wp_skip ?_
     refine p_then (wp_seq ?_)
     refine wp_seq (f_region Z ?_); clear Z; intro Z
     refine s_runk tMWPages Z 1 rfl rfl ?_; clear Z a; intro a Z
     refine s_ob Z (v := .int .i64 (s0_4.1.length : Int)) rfl rfl (by decide) rfl (Ob_slen tMWPages rfl rfl rfl (H.slshape 2 rfl)) ?_; clear Z a; intro a Z
     refine s_runk tMWPages Z 2 rfl rfl ?_; clear Z a; intro a Z
     refine s_end Z [1, 3, 10, 11, 13, 15, 16, 17, 18, 61, 62, 66, 67, 68, 69, 70, 71, 65, 72, 73, 19, 20, 74, 75, 76, 77, 78, 85, 86, 87, 88] rfl ?_; clear Z; intro Z
     refine p_then ?_
     refine f_cond Z rfl (fun hc5 => ?_) (fun hc5 => ?_)
     ·replace hF := ite_t hc5 hF
      refine wp_seq (f_region Z ?_); clear Z; intro Z
      refine s_runk tMWPages Z 1 rfl rfl ?_; clear Z a; intro a Z
      refine s_end Z [1, 3, 10, 11, 13, 15, 16, 17, 18, 61, 62, 66, 67, 68, 69, 70, 71, 65, 72, 73, 19, 20, 74, 75, 76, 77, 78, 85, 86, 87, 88] rfl ?_; clear Z; intro Z
      refine p_then (wp_ret ?_)
      refine p_then_r ?_
      refine p_blk_r ?_
      refine p_then_r ?_
      refine p_then_r ?_
      refine p_blk_r ?_
      refine p_then_r ?_
      obtain rfl := some_in hF
      exact f_ret Z (run_results1 rfl Z rfl) ⟨rfl, I8, (H.sub [] rfl).eq rfl⟩
     ·replace hF := ite_f hc5 hF
      refine wp_skip ?_
      refine p_then ?_
      obtain ⟨hg7, hF⟩ := chk_in hF
      obtain ⟨hg8, hF⟩ := chk_in hF
      obtain ⟨n0_3, hx9, hF⟩ := bnd_in hF
      refine f_region Z ?_; clear Z; intro Z
      refine s_runk tMWPages Z 2 rfl rfl ?_; clear Z a; intro a Z
      refine s_ob Z (v := .int .i64 (s0_4.1.length : Int)) rfl rfl (by decide) rfl (Ob_slen tMWPages rfl rfl rfl (H.slshape 2 rfl)) ?_; clear Z a; intro a Z
      refine s_ob Z (v := .int .i64 ((s0_4.1.length : Int) - 1)) rfl rfl (by decide) rfl (Ob_sub rfl rfl rfl (wrI hg7)) ?_; clear Z a; intro a Z
      refine s_ob Z (v := .pointer (some ⟨blkOf q2, oofOf q2 + ((s0_4.1.length : Int) - 1).toNat * 2, none⟩)) rfl rfl (by decide) rfl (Ob_sidx tMWPages rfl rfl rfl rfl (slPl (H.sl 2 rfl) hg8) hg8) ?_; clear Z a; intro a Z
      refine s_runk tMWPages Z 1 rfl rfl ?_; clear Z a; intro a Z
      refine s_ob Z (v := .string ((s0_4.1.getD ((s0_4.1.length : Int) - 1).toNat default).key)) rfl rfl (by decide) rfl (Ob_load tMWPages rfl rfl rfl ((slFl (H.sl 2 rfl) hg8) 0 _ rfl)) ?_; clear Z a; intro a Z
      refine h_call Z H (js := []) rfl (caps := #[]) fn_14_YMWPages rfl rfl rfl rfl rfl (by decide) rfl rfl (fun D1 hS => have hq := c_ref05_Next hx9 hS; hq) ?_; clear Z a; intro vv a w13 D2 hr hF2 Z
      obtain ⟨rfl, I11, K⟩ := hr
      have H : Hf I D w I11 w13 [OwC NEPair 39 v3 (got ++ s0_4.1), OEmvcc_Store g1 s0_4.2.2, SlC NEPair q2 s0_4.1, SlC NEPair q1 s0_2.1] := hF2 K
      clear hF2 K
      refine s_runk tMWPages Z 1 rfl rfl ?_; clear Z a; intro a Z
      refine s_end Z [1, 3, 10, 11, 13, 15, 16, 17, 18, 61, 62, 66, 67, 68, 69, 70, 71, 65, 72, 73, 19, 20, 74, 75, 76, 77, 78, 85, 86, 87, 88, 89, 90, 91, 92, 93, 94, 95, 96] rfl ?_; clear Z; intro Z
      refine p_blk ?_
      refine p_then ?_
      obtain ⟨hg9, hF⟩ := chk_in hF
      refine f_region Z ?_; clear Z; intro Z
      refine s_runk tMWPages Z 1 rfl rfl ?_; clear Z a; intro a Z
      refine s_ob Z (v := .int .i64 (i_2 + 1)) rfl rfl (by decide) rfl (Ob_add rfl rfl rfl (wrI hg9)) ?_; clear Z a; intro a Z
      refine s_runk tMWPages Z 1 rfl rfl ?_; clear Z a; intro a Z
      refine s_end Z [1, 3, 10, 11, 13, 15, 16, 17, 18, 61, 62, 66, 67, 68, 69, 70, 71, 65, 72, 73, 19, 20, 74, 75, 76, 77, 78, 85, 86, 87, 88, 89, 90, 91, 92, 93, 94, 95, 96, 63, 64] rfl ?_; clear Z; intro Z
      refine p_then ?_
      exact ⟨(got ++ s0_4.1, n0_3, i_2 + 1, s0_4.2.2), ⟨v3, Z.sub (ts := [1, 3, 10, 11, 13, 15, 16, 17, 18]) rfl, ⟨I11, (H.sub [(1, false), (2, true), (0, false)] rfl).eq rfl⟩⟩, hF⟩
   ·replace hF := ite_f hc3 hF
    refine wp_exit ?_
    refine p_then_x ?_
    refine p_then_x ?_
    refine f_exit_here ?_
    refine p_then (wp_seq (f_region Z ?_)); clear Z; intro Z
    refine s_runk tMWPages Z 1 rfl rfl ?_; clear Z a; intro a Z
    refine s_end Z [10] rfl ?_; clear Z; intro Z
    refine p_then (wp_ret ?_)
    obtain rfl := some_in hF
    exact f_ret Z (run_results1 rfl Z rfl) ⟨rfl, I7, (H.sub [] rfl).eq rfl⟩

end Go.Proofs.Ytfefmdllnjpmgaa
