/- What a replica knows: the laws' small parts. -/
import Derived.Test.YtglfajjcgbfehaaYRf
namespace Go.Proofs.Ytglfajjcgbfehaa
open Go.RowKit
def tRfWL : TabL := ⟨[(31745, 1), (38914, 2), (40960, 0), (47107, 3), (47108, 6), (47109, 7)], [], [], [(22, (46, 18)), (29, (115, 2)), (35, (3, 1)), (36, (74, 3))], [(29, (1, false)), (35, (1, false)), (36, (1, false))]⟩

def tRfW : Tab Try.prog := ⟨tRfWL, by kernel_rfl⟩

theorem fn_8_YRfW : IsFn Try.prog 8 := ⟨_, Try.func8, by kernel_rfl, by kernel_rfl⟩

theorem fn_11_YRfW : IsFn Try.prog 11 := ⟨_, Try.func11, by kernel_rfl, by kernel_rfl⟩

theorem fn_14_YRfW : IsFn Try.prog 14 := ⟨_, Try.func14, by kernel_rfl, by kernel_rfl⟩

theorem fn_15_YRfW : IsFn Try.prog 15 := ⟨_, Try.func15, by kernel_rfl, by kernel_rfl⟩

theorem fn_19_YRfW : IsFn Try.prog 19 := ⟨_, Try.func19, by kernel_rfl, by kernel_rfl⟩

theorem fn_28_YRfW : IsFn Try.prog 28 := ⟨_, Try.func28, by kernel_rfl, by kernel_rfl⟩

def F_law28_Parts_l1 (l : List ENote) (rc : (Int × Int) → Option Int) (sg : Int × Int) : Option Int := match sg with | (n0, i) => if ((decide (i < (l.length : Int))) && (decide (i < 60))) = true then (chk ((0 : Int) ≤ i ∧ i < (l.length : Int)) (chk ((0 : Int) ≤ i ∧ i < (l.length : Int)) (chk ((0 : Int) ≤ i ∧ i < (l.length : Int)) (chk (inI (i + 1)) (rc ([((((l.getD (i).toNat default).conf).members).length : Int), (((l.getD (i).toNat default).legit).length : Int), (((((l.getD (i).toNat default).entry).batch).ops).length : Int)].foldl max n0, i + 1)))))) else (some n0)

def F_law28_Parts (l : List ENote) : Option Int := iter (F_law28_Parts_l1 l) FU (0, 0)

set_option maxHeartbeats 1000000 in
theorem c_law28_Parts {I D : Dm} {l : List ENote} {v1_l : Value} {w : World} {rr : Int} (hF : F_law28_Parts l = some rr) (H : St I D w [SlC NENote v1_l l]) :
  Calls Try.prog 6 #[v1_l] w (Ret fun vv w' => vv = .int .i64 rr ∧ ∃ I', Hf I D w I' w' []) := by
 replace H := H.hf
 unfold F_law28_Parts at hF
 refine f_enter 39 Try.func6 rfl rfl (Nat.le_of_ble_eq_true rfl) fun a Z => ?_
 replace Z := Z.sub (ts := [0]) rfl
 refine wp_seq (f_region Z ?_); clear Z; intro Z
 refine s_runk tRfW Z 1 rfl rfl ?_; clear Z a; intro a Z
 refine s_end Z [0] rfl ?_; clear Z; intro Z
 refine p_then (wp_seq (f_region Z ?_)); clear Z; intro Z
 refine s_runk tRfW Z 1 rfl rfl ?_; clear Z a; intro a Z
 refine s_end Z [0, 3] rfl ?_; clear Z; intro Z
 refine p_then (wp_seq ?_)
 refine wp_seq (f_region Z ?_); clear Z; intro Z
 refine s_runk tRfW Z 1 rfl rfl ?_; clear Z a; intro a Z
 refine s_end Z [0, 3, 4] rfl ?_; clear Z; intro Z
 refine p_then (wp_block ?_)
 refine f_iter hF (fun sg a' w' => match sg with | (n0, i) => Sl 39 [(0, v1_l), (3, .int .i64 n0), (4, .int .i64 i)] a' ∧ ∃ I2, Hf I D w I2 w' [SlC NENote v1_l l]) ⟨Z.sub (ts := [0, 3, 4]) rfl, ⟨I, (H.sub [(0, true)] rfl).eq rfl⟩⟩ ?_
 clear Z H hF a
 rintro rc ⟨n0, i⟩ a w1 ⟨Z, I1, H⟩ hF
 unfold F_law28_Parts_l1 at hF
 try dsimp only at hF
 refine wp_seq ?_
 refine wp_seq (f_region Z ?_); clear Z; intro Z
 refine s_runk tRfW Z 2 rfl rfl ?_; clear Z a; intro a Z
 refine s_ob Z (v := .int .i64 (l.length : Int)) rfl rfl (by decide) rfl (Ob_slen tRfW rfl rfl rfl (H.slshape 0 rfl)) ?_; clear Z a; intro a Z
 refine s_runk tRfW Z 2 rfl rfl ?_; clear Z a; intro a Z
 refine g_ob Z (p := (decide (i < (l.length : Int)))) (v := .int .i64 i) (S' := [(4, .int .i64 i)]) rfl rfl rfl (wantB_t _) rfl (by decide) (fun hp hS => hS.sub (ts := [4]) rfl) (fun hp => Ob_c tRfW rfl) ?_; clear Z a; intro a Z
 refine g_ob Z (p := (decide (i < (l.length : Int)))) (v := .bool (decide (i < 60))) (S' := [(10, .int .i64 i)]) rfl rfl rfl (wantB_t _) rfl (by decide) (fun hp hS => (hS.conv (t := 10) rfl (cond_t hp)).sub (ts := [10]) rfl) (fun hp => Ob_c tRfW rfl) ?_; clear Z a; intro a Z
 refine s_ob Z (v := .bool ((decide (i < (l.length : Int))) && (decide (i < 60)))) rfl rfl (by decide) rfl (Ob_pick rfl rfl rfl rfl (pick_and _ _)) ?_; clear Z a; intro a Z
 refine s_end Z [0, 3, 4, 12] rfl ?_; clear Z; intro Z
 refine p_then ?_
 refine f_cond Z rfl (fun hc1 => ?_) (fun hc1 => ?_)
 ·replace hF := ite_t hc1 hF
  refine wp_skip ?_
  refine p_then (wp_seq ?_)
  refine wp_block ?_
  obtain ⟨hg1, hF⟩ := chk_in hF
  obtain ⟨_, ⟨u1, u2, u3, rfl, L1, L2, L3⟩, H⟩ := H.elG 0 rfl (i) (NENote.dft _ _)
  replace H := H.addsl L1
  replace H := H.addsl L2
  replace H := H.addsl L3
  replace H : Hf I D w I1 w1 [SlC NEOp u3 ((((l.getD (i).toNat default).entry).batch).ops), SlC Ni64 u2 ((l.getD (i).toNat default).legit), SlC NEMember u1 (((l.getD (i).toNat default).conf).members), AtG ((0 : Int) ≤ i ∧ i < (l.length : Int)) (blkOf v1_l) (oofOf v1_l + (i).toNat * 18) [.int .i64 ((l.getD (i).toNat default).k), .int .i64 ((l.getD (i).toNat default).n), .int .u64 ((l.getD (i).toNat default).at_), .int .i64 (((l.getD (i).toNat default).conf).epoch), u1, .int .u64 (((l.getD (i).toNat default).conf).floor), u2, .int .i64 ((((l.getD (i).toNat default).entry).batch).client), .int .i64 ((((l.getD (i).toNat default).entry).batch).req), u3, .int .u64 (((l.getD (i).toNat default).entry).ts), .int .i64 (((l.getD (i).toNat default).pin).id), .int .u64 (((l.getD (i).toNat default).pin).at_), .int .i64 (((l.getD (i).toNat default).pin).left), .int .i64 (((l.getD (i).toNat default).said).client), .int .i64 (((l.getD (i).toNat default).said).req), .int .i64 (((l.getD (i).toNat default).said).e), .int .i64 (((l.getD (i).toNat default).said).pin)], SlC NENote v1_l l] := H
  obtain ⟨hg2, hF⟩ := chk_in hF
  obtain ⟨hg3, hF⟩ := chk_in hF
  refine f_quietd (by kernel_rfl) (by kernel_rfl) Z ?_; clear Z; intro Z
  refine q_runk tRfW Z 3 rfl rfl ?_; clear Z a; intro a Z
  refine q_ob Z (v := .pointer (some ⟨blkOf v1_l, oofOf v1_l + (i).toNat * 18, none⟩)) rfl rfl (by decide) rfl (fun _ hw => Ob_sidx tRfW rfl rfl rfl rfl (slPl ((H.blw hw).sl 4 rfl) hg1) hg1) ?_; clear Z a; intro a Z
  refine q_runk tRfW Z 2 rfl rfl ?_; clear Z a; intro a Z
  refine q_ob Z (v := u1) rfl rfl (by decide) rfl (fun _ hw => Ob_load tRfW rfl rfl rfl (((H.blw hw).atg 3 rfl hg1) 4 _ rfl)) ?_; clear Z a; intro a Z
  refine q_ob Z (v := .int .i64 ((((l.getD (i).toNat default).conf).members).length : Int)) rfl rfl (by decide) rfl (fun _ hw => Ob_slen tRfW rfl rfl rfl ((H.blw hw).slshape 2 rfl)) ?_; clear Z a; intro a Z
  refine q_runk tRfW Z 2 rfl rfl ?_; clear Z a; intro a Z
  refine q_ob Z (v := .pointer (some ⟨blkOf v1_l, oofOf v1_l + (i).toNat * 18, none⟩)) rfl rfl (by decide) rfl (fun _ hw => Ob_sidx tRfW rfl rfl rfl rfl (slPl ((H.blw hw).sl 4 rfl) hg2) hg2) ?_; clear Z a; intro a Z
  refine q_runk tRfW Z 1 rfl rfl ?_; clear Z a; intro a Z
  refine q_ob Z (v := u2) rfl rfl (by decide) rfl (fun _ hw => Ob_load tRfW rfl rfl rfl (((H.blw hw).atg 3 rfl hg2) 6 _ rfl)) ?_; clear Z a; intro a Z
  refine q_ob Z (v := .int .i64 (((l.getD (i).toNat default).legit).length : Int)) rfl rfl (by decide) rfl (fun _ hw => Ob_slen tRfW rfl rfl rfl ((H.blw hw).slshape 1 rfl)) ?_; clear Z a; intro a Z
  refine q_runk tRfW Z 2 rfl rfl ?_; clear Z a; intro a Z
  refine q_ob Z (v := .pointer (some ⟨blkOf v1_l, oofOf v1_l + (i).toNat * 18, none⟩)) rfl rfl (by decide) rfl (fun _ hw => Ob_sidx tRfW rfl rfl rfl rfl (slPl ((H.blw hw).sl 4 rfl) hg3) hg3) ?_; clear Z a; intro a Z
  refine q_runk tRfW Z 3 rfl rfl ?_; clear Z a; intro a Z
  refine q_ob Z (v := u3) rfl rfl (by decide) rfl (fun _ hw => Ob_load tRfW rfl rfl rfl (((H.blw hw).atg 3 rfl hg3) 9 _ rfl)) ?_; clear Z a; intro a Z
  refine q_ob Z (v := .int .i64 (((((l.getD (i).toNat default).entry).batch).ops).length : Int)) rfl rfl (by decide) rfl (fun _ hw => Ob_slen tRfW rfl rfl rfl ((H.blw hw).slshape 0 rfl)) ?_; clear Z a; intro a Z
  refine q_ob Z (v := .int .i64 ([((((l.getD (i).toNat default).conf).members).length : Int), (((l.getD (i).toNat default).legit).length : Int), (((((l.getD (i).toNat default).entry).batch).ops).length : Int)].foldl max n0)) rfl rfl (by decide) rfl (fun _ hw => Ob_maxN (n0) [((((l.getD (i).toNat default).conf).members).length : Int), (((l.getD (i).toNat default).legit).length : Int), (((((l.getD (i).toNat default).entry).batch).ops).length : Int)] rfl rfl rfl) ?_; clear Z a; intro a Z
  refine q_runk tRfW Z 1 rfl rfl ?_; clear Z a; intro a Z
  refine q_end Z [0, 3, 4] rfl ?_; clear Z; intro w2 hb Z
  replace H : Hf I D w I1 w2 [SlC NEOp u3 ((((l.getD (i).toNat default).entry).batch).ops), SlC Ni64 u2 ((l.getD (i).toNat default).legit), SlC NEMember u1 (((l.getD (i).toNat default).conf).members), AtG ((0 : Int) ≤ i ∧ i < (l.length : Int)) (blkOf v1_l) (oofOf v1_l + (i).toNat * 18) [.int .i64 ((l.getD (i).toNat default).k), .int .i64 ((l.getD (i).toNat default).n), .int .u64 ((l.getD (i).toNat default).at_), .int .i64 (((l.getD (i).toNat default).conf).epoch), u1, .int .u64 (((l.getD (i).toNat default).conf).floor), u2, .int .i64 ((((l.getD (i).toNat default).entry).batch).client), .int .i64 ((((l.getD (i).toNat default).entry).batch).req), u3, .int .u64 (((l.getD (i).toNat default).entry).ts), .int .i64 (((l.getD (i).toNat default).pin).id), .int .u64 (((l.getD (i).toNat default).pin).at_), .int .i64 (((l.getD (i).toNat default).pin).left), .int .i64 (((l.getD (i).toNat default).said).client), .int .i64 (((l.getD (i).toNat default).said).req), .int .i64 (((l.getD (i).toNat default).said).e), .int .i64 (((l.getD (i).toNat default).said).pin)], SlC NENote v1_l l] := H.blw hb
  clear hb
  refine p_blk ?_
  refine p_then ?_
  obtain ⟨hg4, hF⟩ := chk_in hF
  refine f_region Z ?_; clear Z; intro Z
  refine s_runk tRfW Z 1 rfl rfl ?_; clear Z a; intro a Z
  refine s_ob Z (v := .int .i64 (i + 1)) rfl rfl (by decide) rfl (Ob_add rfl rfl rfl (wrI hg4)) ?_; clear Z a; intro a Z
  refine s_runk tRfW Z 1 rfl rfl ?_; clear Z a; intro a Z
  refine s_end Z [0, 3, 4] rfl ?_; clear Z; intro Z
  refine p_then ?_
  exact ⟨([((((l.getD (i).toNat default).conf).members).length : Int), (((l.getD (i).toNat default).legit).length : Int), (((((l.getD (i).toNat default).entry).batch).ops).length : Int)].foldl max n0, i + 1), ⟨Z.sub (ts := [0, 3, 4]) rfl, ⟨I1, (H.sub [(4, true)] rfl).eq rfl⟩⟩, hF⟩
 ·replace hF := ite_f hc1 hF
  refine wp_exit ?_
  refine p_then_x ?_
  refine p_then_x ?_
  refine f_exit_here ?_
  refine p_then (wp_seq (f_region Z ?_)); clear Z; intro Z
  refine s_runk tRfW Z 2 rfl rfl ?_; clear Z a; intro a Z
  refine s_end Z [2] rfl ?_; clear Z; intro Z
  refine p_then (wp_ret ?_)
  obtain rfl := some_in hF
  exact f_ret Z (run_results1 rfl Z rfl) ⟨rfl, I1, (H.sub [] rfl).eq rfl⟩

def F_law30_awake : Option Bool := (F_rstate_New).bind fun n0 => ((F_rstate_State_Apply n0 ({ (default : ENote) with k := 2, entry := ({ batch := ({ client := 0, req := 1, ops := [({ key := ⟨#[97]⟩, val := ⟨#[49]⟩, del := false } : EOp)] } : EBatch), ts := 0 } : EEntry) } : ENote)).bind fun a0 => ((F_rstate_State_Apply a0.2 ({ (default : ENote) with k := 3, at_ := 5 } : ENote)).bind fun a0_2 => ((F_mvcc_New).bind fun n0_2 => ((F_rstate_State_Feed a0_2.2 n0_2 0 9).bind fun f => ((F_mvcc_Store_Get f.2.2 ⟨#[97]⟩ 5).bind fun g => ((gif ((a0.1 == 0) && (a0_2.1 == 0)) (F_rstate_State_Stamped f.2.1) default).bind fun s0 => ((gif ((((((a0.1 == 0) && (a0_2.1 == 0)) && (s0.1 == 1)) && (f.1 == 1)) && (seqB g.1 ⟨#[49]⟩)) && g.2.1) (F_rstate_State_Apply (cond ((a0.1 == 0) && (a0_2.1 == 0)) s0.2 f.2.1) ({ (default : ENote) with k := 5 } : ENote)) default).bind fun a0_3 => (some (((((((a0.1 == 0) && (a0_2.1 == 0)) && (s0.1 == 1)) && (f.1 == 1)) && (seqB g.1 ⟨#[49]⟩)) && g.2.1) && (a0_3.1 == 11))))))))))

set_option maxHeartbeats 1000000 in
theorem c_law30_awake {I D : Dm} {w : World} {rr : Bool} (hF : F_law30_awake = some rr) (H : St I D w []) :
  Calls Try.prog 7 #[] w (Ret fun vv w' => vv = .bool rr ∧ ∃ I', Hf I D w I' w' []) := by
 replace H := H.hf
 unfold F_law30_awake at hF
 refine f_enter 56 Try.func7 rfl rfl (Nat.le_of_ble_eq_true rfl) fun a Z => ?_
 replace Z := Z.sub (ts := []) rfl
 refine wp_seq (f_region Z ?_); clear Z; intro Z
 refine s_runk tRfW Z 1 rfl rfl ?_; clear Z a; intro a Z
 refine s_end Z [] rfl ?_; clear Z; intro Z
 refine p_then (wp_seq ?_)
 obtain ⟨n0, hx1, hF⟩ := bnd_in hF
 refine f_region Z ?_; clear Z; intro Z
 refine h_call Z H (js := []) rfl (caps := #[]) fn_8_YRfW rfl rfl rfl rfl rfl (by decide) rfl rfl (fun D1 hS => have hq := c_rstate_New hx1 hS; hq) ?_; clear Z a; intro vv a w1 D2 hr hF2 Z
 obtain ⟨g1, rfl, I1, K⟩ := hr
 have H : Hf I D w I1 w1 [OErstate_State g1 n0] := hF2 K
 clear hF2 K
 refine s_runk tRfW Z 1 rfl rfl ?_; clear Z a; intro a Z
 refine s_end Z [1] rfl ?_; clear Z; intro Z
 refine p_then (wp_seq ?_)
 obtain ⟨a0, hx2, hF⟩ := bnd_in hF
 refine f_region Z ?_; clear Z; intro Z
 refine s_runk tRfW Z 1 rfl rfl ?_; clear Z a; intro a Z
 refine s_ob Z (v := .agg #[.string ⟨#[97]⟩, .string ⟨#[49]⟩, .bool false]) rfl rfl (by decide) rfl (Ob_build (vs := [(0, .string ⟨#[97]⟩), (1, .string ⟨#[49]⟩)]) rfl rfl (by go_simp <;> rfl)) ?_; clear Z a; intro a Z
 refine h_bslice Z H (vs := [(0, .agg #[.string ⟨#[97]⟩, .string ⟨#[49]⟩, .bool false])]) (cl := [.string ⟨#[97]⟩, .string ⟨#[49]⟩, .bool false]) (e := 74) rfl rfl rfl (by decide) rfl rfl (fun w => run_bslice (z := .agg #[.string ByteArray.empty, .string ByteArray.empty, .bool false]) (m := 3) Try.underlying36 (by kernel_rfl) rfl rfl (by decide) (by simp [Instr.fill, Value.cells]) w) ?_; clear Z a H; intro a w2 b1 H Z
 refine s_ob Z (v := .agg #[.int .i64 0, .int .i64 1, .slice (some ⟨b1, 0, none⟩) 1 1]) rfl rfl (by decide) rfl (Ob_build (vs := [(1, .int .i64 1), (2, .slice (some ⟨b1, 0, none⟩) 1 1)]) rfl rfl (by go_simp <;> rfl)) ?_; clear Z a; intro a Z
 refine s_ob Z (v := .agg #[.int .i64 0, .int .i64 1, .slice (some ⟨b1, 0, none⟩) 1 1, .int .u64 0]) rfl rfl (by decide) rfl (Ob_build (vs := [(0, .agg #[.int .i64 0, .int .i64 1, .slice (some ⟨b1, 0, none⟩) 1 1])]) rfl rfl (by go_simp <;> rfl)) ?_; clear Z a; intro a Z
 refine s_ob Z (v := .agg #[.int .i64 2, .int .i64 0, .int .u64 0, .int .i64 0, .slice none 0 0, .int .u64 0, .slice none 0 0, .int .i64 0, .int .i64 1, .slice (some ⟨b1, 0, none⟩) 1 1, .int .u64 0, .int .i64 0, .int .u64 0, .int .i64 0, .int .i64 0, .int .i64 0, .int .i64 0, .int .i64 0]) rfl rfl (by decide) rfl (Ob_build (vs := [(0, .int .i64 2), (5, .agg #[.int .i64 0, .int .i64 1, .slice (some ⟨b1, 0, none⟩) 1 1, .int .u64 0])]) rfl rfl (by go_simp <;> rfl)) ?_; clear Z a; intro a Z
 replace H : Hf I D w I1 w2 [SlC NEMember (.slice none 0 0) ([] : List EMember), BxC b1 74 [.string ⟨#[97]⟩, .string ⟨#[49]⟩, .bool false], OErstate_State g1 n0] := H.slNil NEMember
 replace H : Hf I D w I1 w2 [SlC Ni64 (.slice none 0 0) ([] : List Int), SlC NEMember (.slice none 0 0) ([] : List EMember), BxC b1 74 [.string ⟨#[97]⟩, .string ⟨#[49]⟩, .bool false], OErstate_State g1 n0] := H.slNil Ni64
 obtain ⟨I2, _, H⟩ := H.frzlit 2 rfl (R := NEOp) [[.string ⟨#[97]⟩, .string ⟨#[49]⟩, .bool false]] [({ key := ⟨#[97]⟩, val := ⟨#[49]⟩, del := false } : EOp)] rfl rfl (fun i h1 h2 => by match i, h1, h2 with | 0, _, _ => exact ⟨rfl, trivial⟩) (show 1 ≤ maxLen from by decide) (n := 1) rfl
 replace H : Hf I D w I2 w2 [SlC NEOp (.slice (some ⟨b1, 0, none⟩) 1 1) [({ key := ⟨#[97]⟩, val := ⟨#[49]⟩, del := false } : EOp)], SlC Ni64 (.slice none 0 0) ([] : List Int), SlC NEMember (.slice none 0 0) ([] : List EMember), OErstate_State g1 n0] := H
 refine h_call Z H (js := [(3, false), (2, true), (1, true), (0, true)]) rfl (caps := #[]) fn_11_YRfW rfl rfl rfl rfl rfl (by decide) rfl rfl (fun D1 hS => have hq := c_rstate_State_Apply hx2 hS; hq) ?_; clear Z a; intro vv a w3 D2 hr hF2 Z
 obtain ⟨rfl, I3, K⟩ := hr
 have H : Hf I D w I3 w3 [OErstate_State g1 a0.2, SlC NEOp (.slice (some ⟨b1, 0, none⟩) 1 1) [({ key := ⟨#[97]⟩, val := ⟨#[49]⟩, del := false } : EOp)], SlC Ni64 (.slice none 0 0) ([] : List Int), SlC NEMember (.slice none 0 0) ([] : List EMember)] := hF2 K
 clear hF2 K
 refine s_runk tRfW Z 1 rfl rfl ?_; clear Z a; intro a Z
 refine s_end Z [1, 2] rfl ?_; clear Z; intro Z
 refine p_then (wp_seq ?_)
 obtain ⟨a0_2, hx3, hF⟩ := bnd_in hF
 refine f_region Z ?_; clear Z; intro Z
 refine s_runk tRfW Z 1 rfl rfl ?_; clear Z a; intro a Z
 refine s_ob Z (v := .agg #[.int .i64 3, .int .i64 0, .int .u64 5, .int .i64 0, .slice none 0 0, .int .u64 0, .slice none 0 0, .int .i64 0, .int .i64 0, .slice none 0 0, .int .u64 0, .int .i64 0, .int .u64 0, .int .i64 0, .int .i64 0, .int .i64 0, .int .i64 0, .int .i64 0]) rfl rfl (by decide) rfl (Ob_build (vs := [(0, .int .i64 3), (2, .int .u64 5)]) rfl rfl (by go_simp <;> rfl)) ?_; clear Z a; intro a Z
 replace H : Hf I D w I3 w3 [SlC NEMember (.slice none 0 0) ([] : List EMember), OErstate_State g1 a0.2, SlC NEOp (.slice (some ⟨b1, 0, none⟩) 1 1) [({ key := ⟨#[97]⟩, val := ⟨#[49]⟩, del := false } : EOp)], SlC Ni64 (.slice none 0 0) ([] : List Int), SlC NEMember (.slice none 0 0) ([] : List EMember)] := H.slNil NEMember
 replace H : Hf I D w I3 w3 [SlC Ni64 (.slice none 0 0) ([] : List Int), SlC NEMember (.slice none 0 0) ([] : List EMember), OErstate_State g1 a0.2, SlC NEOp (.slice (some ⟨b1, 0, none⟩) 1 1) [({ key := ⟨#[97]⟩, val := ⟨#[49]⟩, del := false } : EOp)], SlC Ni64 (.slice none 0 0) ([] : List Int), SlC NEMember (.slice none 0 0) ([] : List EMember)] := H.slNil Ni64
 replace H : Hf I D w I3 w3 [SlC NEOp (.slice none 0 0) ([] : List EOp), SlC Ni64 (.slice none 0 0) ([] : List Int), SlC NEMember (.slice none 0 0) ([] : List EMember), OErstate_State g1 a0.2, SlC NEOp (.slice (some ⟨b1, 0, none⟩) 1 1) [({ key := ⟨#[97]⟩, val := ⟨#[49]⟩, del := false } : EOp)], SlC Ni64 (.slice none 0 0) ([] : List Int), SlC NEMember (.slice none 0 0) ([] : List EMember)] := H.slNil NEOp
 refine h_call Z H (js := [(3, false), (2, true), (1, true), (0, true)]) rfl (caps := #[]) fn_11_YRfW rfl rfl rfl rfl rfl (by decide) rfl rfl (fun D1 hS => have hq := c_rstate_State_Apply hx3 hS; hq) ?_; clear Z a; intro vv a w4 D2 hr hF2 Z
 obtain ⟨rfl, I4, K⟩ := hr
 have H : Hf I D w I4 w4 [OErstate_State g1 a0_2.2, SlC NEOp (.slice none 0 0) ([] : List EOp), SlC Ni64 (.slice none 0 0) ([] : List Int), SlC NEMember (.slice none 0 0) ([] : List EMember), SlC NEOp (.slice (some ⟨b1, 0, none⟩) 1 1) [({ key := ⟨#[97]⟩, val := ⟨#[49]⟩, del := false } : EOp)], SlC Ni64 (.slice none 0 0) ([] : List Int), SlC NEMember (.slice none 0 0) ([] : List EMember)] := hF2 K
 clear hF2 K
 refine s_runk tRfW Z 1 rfl rfl ?_; clear Z a; intro a Z
 refine s_end Z [1, 2, 3] rfl ?_; clear Z; intro Z
 refine p_then (wp_seq ?_)
 obtain ⟨n0_2, hx4, hF⟩ := bnd_in hF
 refine f_region Z ?_; clear Z; intro Z
 refine h_call Z H (js := []) rfl (caps := #[]) fn_14_YRfW rfl rfl rfl rfl rfl (by decide) rfl rfl (fun D1 hS => have hq := c_mvcc_New hx4 hS; hq) ?_; clear Z a; intro vv a w5 D2 hr hF2 Z
 obtain ⟨g2, rfl, I5, K⟩ := hr
 have H : Hf I D w I5 w5 [OEmvcc_Store g2 n0_2, OErstate_State g1 a0_2.2, SlC NEOp (.slice none 0 0) ([] : List EOp), SlC Ni64 (.slice none 0 0) ([] : List Int), SlC NEMember (.slice none 0 0) ([] : List EMember), SlC NEOp (.slice (some ⟨b1, 0, none⟩) 1 1) [({ key := ⟨#[97]⟩, val := ⟨#[49]⟩, del := false } : EOp)], SlC Ni64 (.slice none 0 0) ([] : List Int), SlC NEMember (.slice none 0 0) ([] : List EMember)] := hF2 K
 clear hF2 K
 refine s_runk tRfW Z 1 rfl rfl ?_; clear Z a; intro a Z
 refine s_end Z [1, 2, 3, 4] rfl ?_; clear Z; intro Z
 refine p_then (wp_seq ?_)
 obtain ⟨f, hx5, hF⟩ := bnd_in hF
 refine f_region Z ?_; clear Z; intro Z
 refine s_runk tRfW Z 2 rfl rfl ?_; clear Z a; intro a Z
 refine h_call Z H (js := [(1, false), (0, false)]) rfl (caps := #[]) fn_15_YRfW rfl rfl rfl rfl rfl (by decide) rfl rfl (fun D1 hS => have hq := c_rstate_State_Feed hx5 hS; hq) ?_; clear Z a; intro vv a w6 D2 hr hF2 Z
 obtain ⟨rfl, I6, K⟩ := hr
 have H : Hf I D w I6 w6 [OErstate_State g1 f.2.1, OEmvcc_Store g2 f.2.2, SlC NEOp (.slice none 0 0) ([] : List EOp), SlC Ni64 (.slice none 0 0) ([] : List Int), SlC NEMember (.slice none 0 0) ([] : List EMember), SlC NEOp (.slice (some ⟨b1, 0, none⟩) 1 1) [({ key := ⟨#[97]⟩, val := ⟨#[49]⟩, del := false } : EOp)], SlC Ni64 (.slice none 0 0) ([] : List Int), SlC NEMember (.slice none 0 0) ([] : List EMember)] := hF2 K
 clear hF2 K
 refine s_runk tRfW Z 1 rfl rfl ?_; clear Z a; intro a Z
 refine s_end Z [1, 2, 3, 4, 5] rfl ?_; clear Z; intro Z
 refine p_then (wp_seq ?_)
 obtain ⟨g, hx6, hF⟩ := bnd_in hF
 refine f_region Z ?_; clear Z; intro Z
 refine s_runk tRfW Z 1 rfl rfl ?_; clear Z a; intro a Z
 refine h_call Z H (js := [(1, false)]) rfl (caps := #[]) fn_28_YRfW rfl rfl rfl rfl rfl (by decide) rfl rfl (fun D1 hS => have hq := c_mvcc_Store_Get hx6 hS; hq) ?_; clear Z a; intro vv a w7 D2 hr hF2 Z
 obtain ⟨rfl, I7, K⟩ := hr
 have H : Hf I D w I7 w7 [OEmvcc_Store g2 g.2.2, OErstate_State g1 f.2.1, SlC NEOp (.slice none 0 0) ([] : List EOp), SlC Ni64 (.slice none 0 0) ([] : List Int), SlC NEMember (.slice none 0 0) ([] : List EMember), SlC NEOp (.slice (some ⟨b1, 0, none⟩) 1 1) [({ key := ⟨#[97]⟩, val := ⟨#[49]⟩, del := false } : EOp)], SlC Ni64 (.slice none 0 0) ([] : List Int), SlC NEMember (.slice none 0 0) ([] : List EMember)] := hF2 K
 clear hF2 K
 refine s_runk tRfW Z 5 rfl rfl ?_; clear Z a; intro a Z
 refine s_end Z [1, 2, 3, 5, 6, 7] rfl ?_; clear Z; intro Z
 refine p_then (wp_seq ?_)
 obtain ⟨s0, hx7, hF⟩ := bnd_in hF
 obtain ⟨a0_3, hx8, hF⟩ := bnd_in hF
 refine f_region Z ?_; clear Z; intro Z
 refine s_runk tRfW Z 3 rfl rfl ?_; clear Z a; intro a Z
 refine g_ob Z (p := (a0.1 == 0)) (v := .int .i64 a0_2.1) (S' := [(3, .int .i64 a0_2.1)]) rfl rfl rfl (wantB_t _) rfl (by decide) (fun hp hS => hS.sub (ts := [3]) rfl) (fun hp => Ob_c tRfW rfl) ?_; clear Z a; intro a Z
 refine g_ob Z (p := (a0.1 == 0)) (v := .bool (a0_2.1 == 0)) (S' := [(31, .int .i64 a0_2.1)]) rfl rfl rfl (wantB_t _) rfl (by decide) (fun hp hS => (hS.conv (t := 31) rfl (cond_t hp)).sub (ts := [31]) rfl) (fun hp => Ob_c tRfW rfl) ?_; clear Z a; intro a Z
 refine s_ob Z (v := .bool ((a0.1 == 0) && (a0_2.1 == 0))) rfl rfl (by decide) rfl (Ob_pick rfl rfl rfl rfl (pick_and _ _)) ?_; clear Z a; intro a Z
 refine s_runk tRfW Z 1 rfl rfl ?_; clear Z a; intro a Z
 refine g_ob Z (p := ((a0.1 == 0) && (a0_2.1 == 0))) (v := .pointer (some ⟨g1, 0, none⟩)) (S' := [(1, .pointer (some ⟨g1, 0, none⟩))]) rfl rfl rfl (wantB_t _) rfl (by decide) (fun hp hS => hS.sub (ts := [1]) rfl) (fun hp => Ob_c tRfW rfl) ?_; clear Z a; intro a Z
 refine h_gcall Z H (js := [(1, false)]) rfl (p := ((a0.1 == 0) && (a0_2.1 == 0))) (v := .int .i64 s0.1) (S' := [(35, .pointer (some ⟨g1, 0, none⟩))]) (caps := #[]) (fun qq => [OErstate_State g1 (cond qq s0.2 f.2.1)]) fn_19_YRfW rfl rfl rfl (wantB_t _) rfl (by decide) (fun hp hS => (hS.conv (t := 35) rfl (cond_t hp)).sub (ts := [35]) rfl) rfl rfl rfl rfl (fun hp D1 hS => have hq := c_rstate_State_Stamped (gif_in hx7 hp) hS; hq) (fun hp => H.sub [(1, false), (0, false), (0, true), (1, true), (2, true), (3, true), (4, true), (5, true)] rfl) ?_; clear Z a H; intro a w8 I8 H Z
 replace H : Hf I D w I8 w8 [OErstate_State g1 (cond ((a0.1 == 0) && (a0_2.1 == 0)) s0.2 f.2.1), OEmvcc_Store g2 g.2.2, SlC NEOp (.slice none 0 0) ([] : List EOp), SlC Ni64 (.slice none 0 0) ([] : List Int), SlC NEMember (.slice none 0 0) ([] : List EMember), SlC NEOp (.slice (some ⟨b1, 0, none⟩) 1 1) [({ key := ⟨#[97]⟩, val := ⟨#[49]⟩, del := false } : EOp)], SlC Ni64 (.slice none 0 0) ([] : List Int), SlC NEMember (.slice none 0 0) ([] : List EMember)] := H
 refine g_ob Z (p := ((a0.1 == 0) && (a0_2.1 == 0))) (v := .bool (s0.1 == 1)) (S' := [(36, .int .i64 s0.1)]) rfl rfl rfl (wantB_t _) rfl (by decide) (fun hp hS => (hS.conv (t := 36) rfl (cond_t hp)).sub (ts := [36]) rfl) (fun hp => Ob_c tRfW rfl) ?_; clear Z a; intro a Z
 refine s_ob Z (v := .bool (((a0.1 == 0) && (a0_2.1 == 0)) && (s0.1 == 1))) rfl rfl (by decide) rfl (Ob_pick rfl rfl rfl rfl (pick_and _ _)) ?_; clear Z a; intro a Z
 refine s_runk tRfW Z 1 rfl rfl ?_; clear Z a; intro a Z
 refine g_ob Z (p := (((a0.1 == 0) && (a0_2.1 == 0)) && (s0.1 == 1))) (v := .int .i64 f.1) (S' := [(5, .int .i64 f.1)]) rfl rfl rfl (wantB_t _) rfl (by decide) (fun hp hS => hS.sub (ts := [5]) rfl) (fun hp => Ob_c tRfW rfl) ?_; clear Z a; intro a Z
 refine g_ob Z (p := (((a0.1 == 0) && (a0_2.1 == 0)) && (s0.1 == 1))) (v := .bool (f.1 == 1)) (S' := [(40, .int .i64 f.1)]) rfl rfl rfl (wantB_t _) rfl (by decide) (fun hp hS => (hS.conv (t := 40) rfl (cond_t hp)).sub (ts := [40]) rfl) (fun hp => Ob_c tRfW rfl) ?_; clear Z a; intro a Z
 refine s_ob Z (v := .bool ((((a0.1 == 0) && (a0_2.1 == 0)) && (s0.1 == 1)) && (f.1 == 1))) rfl rfl (by decide) rfl (Ob_pick rfl rfl rfl rfl (pick_and _ _)) ?_; clear Z a; intro a Z
 refine s_runk tRfW Z 1 rfl rfl ?_; clear Z a; intro a Z
 refine g_ob Z (p := ((((a0.1 == 0) && (a0_2.1 == 0)) && (s0.1 == 1)) && (f.1 == 1))) (v := .string g.1) (S' := [(6, .string g.1)]) rfl rfl rfl (wantB_t _) rfl (by decide) (fun hp hS => hS.sub (ts := [6]) rfl) (fun hp => Ob_c tRfW rfl) ?_; clear Z a; intro a Z
 refine g_ob Z (p := ((((a0.1 == 0) && (a0_2.1 == 0)) && (s0.1 == 1)) && (f.1 == 1))) (v := .bool (seqB g.1 ⟨#[49]⟩)) (S' := [(44, .string g.1)]) rfl rfl rfl (wantB_t _) rfl (by decide) (fun hp hS => (hS.conv (t := 44) rfl (cond_t hp)).sub (ts := [44]) rfl) (fun hp => Ob_c tRfW rfl) ?_; clear Z a; intro a Z
 refine s_ob Z (v := .bool (((((a0.1 == 0) && (a0_2.1 == 0)) && (s0.1 == 1)) && (f.1 == 1)) && (seqB g.1 ⟨#[49]⟩))) rfl rfl (by decide) rfl (Ob_pick rfl rfl rfl rfl (pick_and _ _)) ?_; clear Z a; intro a Z
 refine s_runk tRfW Z 1 rfl rfl ?_; clear Z a; intro a Z
 refine g_ob Z (p := (((((a0.1 == 0) && (a0_2.1 == 0)) && (s0.1 == 1)) && (f.1 == 1)) && (seqB g.1 ⟨#[49]⟩))) (v := .bool g.2.1) (S' := [(7, .bool g.2.1)]) rfl rfl rfl (wantB_t _) rfl (by decide) (fun hp hS => hS.sub (ts := [7]) rfl) (fun hp => Ob_c tRfW rfl) ?_; clear Z a; intro a Z
 refine s_ob Z (v := .bool ((((((a0.1 == 0) && (a0_2.1 == 0)) && (s0.1 == 1)) && (f.1 == 1)) && (seqB g.1 ⟨#[49]⟩)) && g.2.1)) rfl rfl (by decide) rfl (Ob_pick rfl rfl rfl rfl (pick_and _ _)) ?_; clear Z a; intro a Z
 refine s_runk tRfW Z 1 rfl rfl ?_; clear Z a; intro a Z
 refine g_ob Z (p := ((((((a0.1 == 0) && (a0_2.1 == 0)) && (s0.1 == 1)) && (f.1 == 1)) && (seqB g.1 ⟨#[49]⟩)) && g.2.1)) (v := .pointer (some ⟨g1, 0, none⟩)) (S' := [(1, .pointer (some ⟨g1, 0, none⟩))]) rfl rfl rfl (wantB_t _) rfl (by decide) (fun hp hS => hS.sub (ts := [1]) rfl) (fun hp => Ob_c tRfW rfl) ?_; clear Z a; intro a Z
 refine g_ob Z (p := ((((((a0.1 == 0) && (a0_2.1 == 0)) && (s0.1 == 1)) && (f.1 == 1)) && (seqB g.1 ⟨#[49]⟩)) && g.2.1)) (v := .agg #[.int .i64 5, .int .i64 0, .int .u64 0, .int .i64 0, .slice none 0 0, .int .u64 0, .slice none 0 0, .int .i64 0, .int .i64 0, .slice none 0 0, .int .u64 0, .int .i64 0, .int .u64 0, .int .i64 0, .int .i64 0, .int .i64 0, .int .i64 0, .int .i64 0]) (S' := []) rfl rfl rfl (wantB_t _) rfl (by decide) (fun hp hS => hS.sub (ts := []) rfl) (fun hp => Ob_build (vs := [(0, .int .i64 5)]) rfl rfl (by go_simp <;> rfl)) ?_; clear Z a; intro a Z
 replace H : Hf I D w I8 w8 [SlC NEMember (.slice none 0 0) ([] : List EMember), OErstate_State g1 (cond ((a0.1 == 0) && (a0_2.1 == 0)) s0.2 f.2.1), OEmvcc_Store g2 g.2.2, SlC NEOp (.slice none 0 0) ([] : List EOp), SlC Ni64 (.slice none 0 0) ([] : List Int), SlC NEMember (.slice none 0 0) ([] : List EMember), SlC NEOp (.slice (some ⟨b1, 0, none⟩) 1 1) [({ key := ⟨#[97]⟩, val := ⟨#[49]⟩, del := false } : EOp)], SlC Ni64 (.slice none 0 0) ([] : List Int), SlC NEMember (.slice none 0 0) ([] : List EMember)] := H.slNil NEMember
 replace H : Hf I D w I8 w8 [SlC Ni64 (.slice none 0 0) ([] : List Int), SlC NEMember (.slice none 0 0) ([] : List EMember), OErstate_State g1 (cond ((a0.1 == 0) && (a0_2.1 == 0)) s0.2 f.2.1), OEmvcc_Store g2 g.2.2, SlC NEOp (.slice none 0 0) ([] : List EOp), SlC Ni64 (.slice none 0 0) ([] : List Int), SlC NEMember (.slice none 0 0) ([] : List EMember), SlC NEOp (.slice (some ⟨b1, 0, none⟩) 1 1) [({ key := ⟨#[97]⟩, val := ⟨#[49]⟩, del := false } : EOp)], SlC Ni64 (.slice none 0 0) ([] : List Int), SlC NEMember (.slice none 0 0) ([] : List EMember)] := H.slNil Ni64
 replace H : Hf I D w I8 w8 [SlC NEOp (.slice none 0 0) ([] : List EOp), SlC Ni64 (.slice none 0 0) ([] : List Int), SlC NEMember (.slice none 0 0) ([] : List EMember), OErstate_State g1 (cond ((a0.1 == 0) && (a0_2.1 == 0)) s0.2 f.2.1), OEmvcc_Store g2 g.2.2, SlC NEOp (.slice none 0 0) ([] : List EOp), SlC Ni64 (.slice none 0 0) ([] : List Int), SlC NEMember (.slice none 0 0) ([] : List EMember), SlC NEOp (.slice (some ⟨b1, 0, none⟩) 1 1) [({ key := ⟨#[97]⟩, val := ⟨#[49]⟩, del := false } : EOp)], SlC Ni64 (.slice none 0 0) ([] : List Int), SlC NEMember (.slice none 0 0) ([] : List EMember)] := H.slNil NEOp
 refine h_gcall Z H (js := [(3, false), (2, true), (1, true), (0, true)]) rfl (p := ((((((a0.1 == 0) && (a0_2.1 == 0)) && (s0.1 == 1)) && (f.1 == 1)) && (seqB g.1 ⟨#[49]⟩)) && g.2.1)) (v := .int .i64 a0_3.1) (S' := [(51, .pointer (some ⟨g1, 0, none⟩)), (52, .agg #[.int .i64 5, .int .i64 0, .int .u64 0, .int .i64 0, .slice none 0 0, .int .u64 0, .slice none 0 0, .int .i64 0, .int .i64 0, .slice none 0 0, .int .u64 0, .int .i64 0, .int .u64 0, .int .i64 0, .int .i64 0, .int .i64 0, .int .i64 0, .int .i64 0])]) (caps := #[]) (fun qq => [OErstate_State g1 (cond qq a0_3.2 (cond ((a0.1 == 0) && (a0_2.1 == 0)) s0.2 f.2.1))]) fn_11_YRfW rfl rfl rfl (wantB_t _) rfl (by decide) (fun hp hS => ((hS.conv (t := 51) rfl (cond_t hp)).conv (t := 52) rfl (cond_t hp)).sub (ts := [51, 52]) rfl) rfl rfl rfl rfl (fun hp D1 hS => have hq := c_rstate_State_Apply (gif_in hx8 hp) hS; hq) (fun hp => H.sub [(3, false), (0, true), (1, true), (2, true), (3, false), (3, true), (4, true), (5, true), (6, true), (7, true), (8, true)] rfl) ?_; clear Z a H; intro a w9 I9 H Z
 replace H : Hf I D w I9 w9 [OErstate_State g1 (cond ((((((a0.1 == 0) && (a0_2.1 == 0)) && (s0.1 == 1)) && (f.1 == 1)) && (seqB g.1 ⟨#[49]⟩)) && g.2.1) a0_3.2 (cond ((a0.1 == 0) && (a0_2.1 == 0)) s0.2 f.2.1)), SlC NEOp (.slice none 0 0) ([] : List EOp), SlC Ni64 (.slice none 0 0) ([] : List Int), SlC NEMember (.slice none 0 0) ([] : List EMember), OEmvcc_Store g2 g.2.2, SlC NEOp (.slice none 0 0) ([] : List EOp), SlC Ni64 (.slice none 0 0) ([] : List Int), SlC NEMember (.slice none 0 0) ([] : List EMember), SlC NEOp (.slice (some ⟨b1, 0, none⟩) 1 1) [({ key := ⟨#[97]⟩, val := ⟨#[49]⟩, del := false } : EOp)], SlC Ni64 (.slice none 0 0) ([] : List Int), SlC NEMember (.slice none 0 0) ([] : List EMember)] := H
 refine g_ob Z (p := ((((((a0.1 == 0) && (a0_2.1 == 0)) && (s0.1 == 1)) && (f.1 == 1)) && (seqB g.1 ⟨#[49]⟩)) && g.2.1)) (v := .bool (a0_3.1 == 11)) (S' := [(53, .int .i64 a0_3.1)]) rfl rfl rfl (wantB_t _) rfl (by decide) (fun hp hS => (hS.conv (t := 53) rfl (cond_t hp)).sub (ts := [53]) rfl) (fun hp => Ob_c tRfW rfl) ?_; clear Z a; intro a Z
 refine s_ob Z (v := .bool (((((((a0.1 == 0) && (a0_2.1 == 0)) && (s0.1 == 1)) && (f.1 == 1)) && (seqB g.1 ⟨#[49]⟩)) && g.2.1) && (a0_3.1 == 11))) rfl rfl (by decide) rfl (Ob_pick rfl rfl rfl rfl (pick_and _ _)) ?_; clear Z a; intro a Z
 refine s_runk tRfW Z 1 rfl rfl ?_; clear Z a; intro a Z
 refine s_end Z [0] rfl ?_; clear Z; intro Z
 refine p_then (wp_ret ?_)
 obtain rfl := some_in hF
 exact f_ret Z (run_results1 rfl Z rfl) ⟨rfl, I9, (H.sub [] rfl).eq rfl⟩

end Go.Proofs.Ytglfajjcgbfehaa
