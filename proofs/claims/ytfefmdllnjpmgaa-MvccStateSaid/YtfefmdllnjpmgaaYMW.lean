/- Many versions: the laws' small parts. -/
import Derived.Test.YtfefmdllnjpmgaaYMv2
import Derived.Test.YtfefmdllnjpmgaaYMTreeG
namespace Go.Proofs.Ytfefmdllnjpmgaa
open Go.RowKit
def tMWL : TabL := ⟨[(32769, 1), (32770, 2), (32771, 3), (32772, 4), (32773, 5)], [], [4], [(22, (32, 6)), (30, (60, 3))], [(3, (1, false)), (9, (1, false)), (23, (1, false)), (30, (1, false)), (32, (6, true))]⟩

def tMW : Tab Try.prog := ⟨tMWL, by kernel_rfl⟩

theorem fn_10_YMW : IsFn Try.prog 10 := ⟨_, Try.func10, by kernel_rfl, by kernel_rfl⟩

theorem fn_11_YMW : IsFn Try.prog 11 := ⟨_, Try.func11, by kernel_rfl, by kernel_rfl⟩

theorem fn_20_YMW : IsFn Try.prog 20 := ⟨_, Try.func20, by kernel_rfl, by kernel_rfl⟩

theorem fn_21_YMW : IsFn Try.prog 21 := ⟨_, Try.func21, by kernel_rfl, by kernel_rfl⟩

theorem fn_23_YMW : IsFn Try.prog 23 := ⟨_, Try.func23, by kernel_rfl, by kernel_rfl⟩

def F_law16_awake : Option Bool := (F_mvcc_New).bind fun n0 => ((F_mvcc_Store_Put n0 3 [({ key := ⟨#[97]⟩, val := ⟨#[49]⟩, del := false } : EOp)]).bind fun p => ((F_mvcc_Store_Put p.2 5 [({ key := ⟨#[97]⟩, val := ByteArray.empty, del := true } : EOp)]).bind fun p_2 => ((F_mvcc_Store_Get p_2.2 ⟨#[97]⟩ 4).bind fun g => ((F_mvcc_Store_Get g.2.2 ⟨#[97]⟩ 5).bind fun g_2 => ((gif (((((p.1 == 0) && (p_2.1 == 0)) && (seqB g.1 ⟨#[49]⟩)) && g.2.1) && (!g_2.2.1)) (F_mvcc_Store_Last g_2.2.2) default).bind fun l => ((gif ((((((p.1 == 0) && (p_2.1 == 0)) && (seqB g.1 ⟨#[49]⟩)) && g.2.1) && (!g_2.2.1)) && (l == 5)) (F_mvcc_Store_Cells g_2.2.2) default).bind fun c => (some (((((((p.1 == 0) && (p_2.1 == 0)) && (seqB g.1 ⟨#[49]⟩)) && g.2.1) && (!g_2.2.1)) && (l == 5)) && (c == 2)))))))))

set_option maxHeartbeats 1000000 in
theorem c_law16_awake {I D : Dm} {w : World} {rr : Bool} (hF : F_law16_awake = some rr) (H : St I D w []) :
  Calls Try.prog 9 #[] w (Ret fun vv w' => vv = .bool rr ∧ ∃ I', Hf I D w I' w' []) := by
 replace H := H.hf
 unfold F_law16_awake at hF
 refine f_enter 54 Try.func9 rfl rfl (Nat.le_of_ble_eq_true rfl) fun a Z => ?_
 replace Z := Z.sub (ts := []) rfl
 refine wp_seq (f_region Z ?_); clear Z; intro Z
 refine s_runk tMW Z 1 rfl rfl ?_; clear Z a; intro a Z
 refine s_end Z [0] rfl ?_; clear Z; intro Z
 refine p_then (wp_seq ?_)
 obtain ⟨n0, hx1, hF⟩ := bnd_in hF
 refine f_region Z ?_; clear Z; intro Z
 refine h_call Z H (js := []) rfl (caps := #[]) fn_10_YMW rfl rfl rfl rfl rfl (by decide) rfl rfl (fun D1 hS => have hq := c_mvcc_New hx1 hS; hq) ?_; clear Z a; intro vv a w1 D2 hr hF2 Z
 obtain ⟨g1, rfl, I1, K⟩ := hr
 have H : Hf I D w I1 w1 [OEmvcc_Store g1 n0] := hF2 K
 clear hF2 K
 refine s_runk tMW Z 1 rfl rfl ?_; clear Z a; intro a Z
 refine s_end Z [0, 1] rfl ?_; clear Z; intro Z
 refine p_then (wp_seq ?_)
 obtain ⟨p, hx2, hF⟩ := bnd_in hF
 refine f_region Z ?_; clear Z; intro Z
 refine s_runk tMW Z 1 rfl rfl ?_; clear Z a; intro a Z
 refine s_ob Z (v := .agg #[.string ⟨#[97]⟩, .string ⟨#[49]⟩, .bool false]) rfl rfl (by decide) rfl (Ob_build (vs := [(0, .string ⟨#[97]⟩), (1, .string ⟨#[49]⟩)]) rfl rfl (by go_simp <;> rfl)) ?_; clear Z a; intro a Z
 refine h_bslice Z H (vs := [(0, .agg #[.string ⟨#[97]⟩, .string ⟨#[49]⟩, .bool false])]) (cl := [.string ⟨#[97]⟩, .string ⟨#[49]⟩, .bool false]) (e := 60) rfl rfl rfl (by decide) rfl rfl (fun w => run_bslice (z := .agg #[.string ByteArray.empty, .string ByteArray.empty, .bool false]) (m := 3) Try.underlying30 (by kernel_rfl) rfl rfl (by decide) (by simp [Instr.fill, Value.cells]) w) ?_; clear Z a H; intro a w2 b1 H Z
 obtain ⟨I2, _, H⟩ := H.frzlit 0 rfl (R := NEOp) [[.string ⟨#[97]⟩, .string ⟨#[49]⟩, .bool false]] [({ key := ⟨#[97]⟩, val := ⟨#[49]⟩, del := false } : EOp)] rfl rfl (fun i h1 h2 => by match i, h1, h2 with | 0, _, _ => exact ⟨rfl, trivial⟩) (show 1 ≤ maxLen from by decide) (n := 1) rfl
 replace H : Hf I D w I2 w2 [SlC NEOp (.slice (some ⟨b1, 0, none⟩) 1 1) [({ key := ⟨#[97]⟩, val := ⟨#[49]⟩, del := false } : EOp)], OEmvcc_Store g1 n0] := H
 refine h_call Z H (js := [(1, false), (0, true)]) rfl (caps := #[]) fn_11_YMW rfl rfl rfl rfl rfl (by decide) rfl rfl (fun D1 hS => have hq := c_mvcc_Store_Put hx2 hS; hq) ?_; clear Z a; intro vv a w3 D2 hr hF2 Z
 obtain ⟨rfl, I3, K⟩ := hr
 have H : Hf I D w I3 w3 [OEmvcc_Store g1 p.2, SlC NEOp (.slice (some ⟨b1, 0, none⟩) 1 1) [({ key := ⟨#[97]⟩, val := ⟨#[49]⟩, del := false } : EOp)]] := hF2 K
 clear hF2 K
 refine s_runk tMW Z 1 rfl rfl ?_; clear Z a; intro a Z
 refine s_end Z [0, 1, 2] rfl ?_; clear Z; intro Z
 refine p_then (wp_seq ?_)
 obtain ⟨p_2, hx3, hF⟩ := bnd_in hF
 refine f_region Z ?_; clear Z; intro Z
 refine s_runk tMW Z 1 rfl rfl ?_; clear Z a; intro a Z
 refine s_ob Z (v := .agg #[.string ⟨#[97]⟩, .string ByteArray.empty, .bool true]) rfl rfl (by decide) rfl (Ob_build (vs := [(0, .string ⟨#[97]⟩), (2, .bool true)]) rfl rfl (by go_simp <;> rfl)) ?_; clear Z a; intro a Z
 refine h_bslice Z H (vs := [(0, .agg #[.string ⟨#[97]⟩, .string ByteArray.empty, .bool true])]) (cl := [.string ⟨#[97]⟩, .string ByteArray.empty, .bool true]) (e := 60) rfl rfl rfl (by decide) rfl rfl (fun w => run_bslice (z := .agg #[.string ByteArray.empty, .string ByteArray.empty, .bool false]) (m := 3) Try.underlying30 (by kernel_rfl) rfl rfl (by decide) (by simp [Instr.fill, Value.cells]) w) ?_; clear Z a H; intro a w4 b2 H Z
 obtain ⟨I4, _, H⟩ := H.frzlit 0 rfl (R := NEOp) [[.string ⟨#[97]⟩, .string ByteArray.empty, .bool true]] [({ key := ⟨#[97]⟩, val := ByteArray.empty, del := true } : EOp)] rfl rfl (fun i h1 h2 => by match i, h1, h2 with | 0, _, _ => exact ⟨rfl, trivial⟩) (show 1 ≤ maxLen from by decide) (n := 1) rfl
 replace H : Hf I D w I4 w4 [SlC NEOp (.slice (some ⟨b2, 0, none⟩) 1 1) [({ key := ⟨#[97]⟩, val := ByteArray.empty, del := true } : EOp)], OEmvcc_Store g1 p.2, SlC NEOp (.slice (some ⟨b1, 0, none⟩) 1 1) [({ key := ⟨#[97]⟩, val := ⟨#[49]⟩, del := false } : EOp)]] := H
 refine h_call Z H (js := [(1, false), (0, true)]) rfl (caps := #[]) fn_11_YMW rfl rfl rfl rfl rfl (by decide) rfl rfl (fun D1 hS => have hq := c_mvcc_Store_Put hx3 hS; hq) ?_; clear Z a; intro vv a w5 D2 hr hF2 Z
 obtain ⟨rfl, I5, K⟩ := hr
 have H : Hf I D w I5 w5 [OEmvcc_Store g1 p_2.2, SlC NEOp (.slice (some ⟨b2, 0, none⟩) 1 1) [({ key := ⟨#[97]⟩, val := ByteArray.empty, del := true } : EOp)], SlC NEOp (.slice (some ⟨b1, 0, none⟩) 1 1) [({ key := ⟨#[97]⟩, val := ⟨#[49]⟩, del := false } : EOp)]] := hF2 K
 clear hF2 K
 refine s_runk tMW Z 1 rfl rfl ?_; clear Z a; intro a Z
 refine s_end Z [0, 1, 2, 3] rfl ?_; clear Z; intro Z
 refine p_then (wp_seq ?_)
 obtain ⟨g, hx4, hF⟩ := bnd_in hF
 refine f_region Z ?_; clear Z; intro Z
 refine s_runk tMW Z 1 rfl rfl ?_; clear Z a; intro a Z
 refine h_call Z H (js := [(0, false)]) rfl (caps := #[]) fn_23_YMW rfl rfl rfl rfl rfl (by decide) rfl rfl (fun D1 hS => have hq := c_mvcc_Store_Get hx4 hS; hq) ?_; clear Z a; intro vv a w6 D2 hr hF2 Z
 obtain ⟨rfl, I6, K⟩ := hr
 have H : Hf I D w I6 w6 [OEmvcc_Store g1 g.2.2, SlC NEOp (.slice (some ⟨b2, 0, none⟩) 1 1) [({ key := ⟨#[97]⟩, val := ByteArray.empty, del := true } : EOp)], SlC NEOp (.slice (some ⟨b1, 0, none⟩) 1 1) [({ key := ⟨#[97]⟩, val := ⟨#[49]⟩, del := false } : EOp)]] := hF2 K
 clear hF2 K
 refine s_runk tMW Z 5 rfl rfl ?_; clear Z a; intro a Z
 refine s_end Z [0, 1, 2, 3, 4, 5] rfl ?_; clear Z; intro Z
 refine p_then (wp_seq ?_)
 obtain ⟨g_2, hx5, hF⟩ := bnd_in hF
 refine f_region Z ?_; clear Z; intro Z
 refine s_runk tMW Z 1 rfl rfl ?_; clear Z a; intro a Z
 refine h_call Z H (js := [(0, false)]) rfl (caps := #[]) fn_23_YMW rfl rfl rfl rfl rfl (by decide) rfl rfl (fun D1 hS => have hq := c_mvcc_Store_Get hx5 hS; hq) ?_; clear Z a; intro vv a w7 D2 hr hF2 Z
 obtain ⟨rfl, I7, K⟩ := hr
 have H : Hf I D w I7 w7 [OEmvcc_Store g1 g_2.2.2, SlC NEOp (.slice (some ⟨b2, 0, none⟩) 1 1) [({ key := ⟨#[97]⟩, val := ByteArray.empty, del := true } : EOp)], SlC NEOp (.slice (some ⟨b1, 0, none⟩) 1 1) [({ key := ⟨#[97]⟩, val := ⟨#[49]⟩, del := false } : EOp)]] := hF2 K
 clear hF2 K
 refine s_runk tMW Z 5 rfl rfl ?_; clear Z a; intro a Z
 refine s_end Z [0, 1, 2, 3, 4, 5, 7] rfl ?_; clear Z; intro Z
 refine p_then (wp_seq ?_)
 obtain ⟨l, hx6, hF⟩ := bnd_in hF
 obtain ⟨c, hx7, hF⟩ := bnd_in hF
 refine f_region Z ?_; clear Z; intro Z
 refine s_runk tMW Z 3 rfl rfl ?_; clear Z a; intro a Z
 refine g_ob Z (p := (p.1 == 0)) (v := .int .i64 p_2.1) (S' := [(3, .int .i64 p_2.1)]) rfl rfl rfl (wantB_t _) rfl (by decide) (fun hp hS => hS.sub (ts := [3]) rfl) (fun hp => Ob_c tMW rfl) ?_; clear Z a; intro a Z
 refine g_ob Z (p := (p.1 == 0)) (v := .bool (p_2.1 == 0)) (S' := [(30, .int .i64 p_2.1)]) rfl rfl rfl (wantB_t _) rfl (by decide) (fun hp hS => (hS.conv (t := 30) rfl (cond_t hp)).sub (ts := [30]) rfl) (fun hp => Ob_c tMW rfl) ?_; clear Z a; intro a Z
 refine s_ob Z (v := .bool ((p.1 == 0) && (p_2.1 == 0))) rfl rfl (by decide) rfl (Ob_pick rfl rfl rfl rfl (pick_and _ _)) ?_; clear Z a; intro a Z
 refine s_runk tMW Z 1 rfl rfl ?_; clear Z a; intro a Z
 refine g_ob Z (p := ((p.1 == 0) && (p_2.1 == 0))) (v := .string g.1) (S' := [(4, .string g.1)]) rfl rfl rfl (wantB_t _) rfl (by decide) (fun hp hS => hS.sub (ts := [4]) rfl) (fun hp => Ob_c tMW rfl) ?_; clear Z a; intro a Z
 refine g_ob Z (p := ((p.1 == 0) && (p_2.1 == 0))) (v := .bool (seqB g.1 ⟨#[49]⟩)) (S' := [(34, .string g.1)]) rfl rfl rfl (wantB_t _) rfl (by decide) (fun hp hS => (hS.conv (t := 34) rfl (cond_t hp)).sub (ts := [34]) rfl) (fun hp => Ob_c tMW rfl) ?_; clear Z a; intro a Z
 refine s_ob Z (v := .bool (((p.1 == 0) && (p_2.1 == 0)) && (seqB g.1 ⟨#[49]⟩))) rfl rfl (by decide) rfl (Ob_pick rfl rfl rfl rfl (pick_and _ _)) ?_; clear Z a; intro a Z
 refine s_runk tMW Z 1 rfl rfl ?_; clear Z a; intro a Z
 refine g_ob Z (p := (((p.1 == 0) && (p_2.1 == 0)) && (seqB g.1 ⟨#[49]⟩))) (v := .bool g.2.1) (S' := [(5, .bool g.2.1)]) rfl rfl rfl (wantB_t _) rfl (by decide) (fun hp hS => hS.sub (ts := [5]) rfl) (fun hp => Ob_c tMW rfl) ?_; clear Z a; intro a Z
 refine s_ob Z (v := .bool ((((p.1 == 0) && (p_2.1 == 0)) && (seqB g.1 ⟨#[49]⟩)) && g.2.1)) rfl rfl (by decide) rfl (Ob_pick rfl rfl rfl rfl (pick_and _ _)) ?_; clear Z a; intro a Z
 refine s_runk tMW Z 1 rfl rfl ?_; clear Z a; intro a Z
 refine g_ob Z (p := ((((p.1 == 0) && (p_2.1 == 0)) && (seqB g.1 ⟨#[49]⟩)) && g.2.1)) (v := .bool g_2.2.1) (S' := [(7, .bool g_2.2.1)]) rfl rfl rfl (wantB_t _) rfl (by decide) (fun hp hS => hS.sub (ts := [7]) rfl) (fun hp => Ob_c tMW rfl) ?_; clear Z a; intro a Z
 refine g_ob Z (p := ((((p.1 == 0) && (p_2.1 == 0)) && (seqB g.1 ⟨#[49]⟩)) && g.2.1)) (v := .bool (!g_2.2.1)) (S' := [(41, .bool g_2.2.1)]) rfl rfl rfl (wantB_t _) rfl (by decide) (fun hp hS => (hS.conv (t := 41) rfl (cond_t hp)).sub (ts := [41]) rfl) (fun hp => Ob_c tMW rfl) ?_; clear Z a; intro a Z
 refine s_ob Z (v := .bool (((((p.1 == 0) && (p_2.1 == 0)) && (seqB g.1 ⟨#[49]⟩)) && g.2.1) && (!g_2.2.1))) rfl rfl (by decide) rfl (Ob_pick rfl rfl rfl rfl (pick_and _ _)) ?_; clear Z a; intro a Z
 refine s_runk tMW Z 1 rfl rfl ?_; clear Z a; intro a Z
 refine g_ob Z (p := (((((p.1 == 0) && (p_2.1 == 0)) && (seqB g.1 ⟨#[49]⟩)) && g.2.1) && (!g_2.2.1))) (v := .pointer (some ⟨g1, 0, none⟩)) (S' := [(1, .pointer (some ⟨g1, 0, none⟩))]) rfl rfl rfl (wantB_t _) rfl (by decide) (fun hp hS => hS.sub (ts := [1]) rfl) (fun hp => Ob_c tMW rfl) ?_; clear Z a; intro a Z
 refine h_gcall Z H (js := [(0, false)]) rfl (p := (((((p.1 == 0) && (p_2.1 == 0)) && (seqB g.1 ⟨#[49]⟩)) && g.2.1) && (!g_2.2.1))) (v := .int .u64 l) (S' := [(45, .pointer (some ⟨g1, 0, none⟩))]) (caps := #[]) (fun _ => [OEmvcc_Store g1 g_2.2.2]) fn_20_YMW rfl rfl rfl (wantB_t _) rfl (by decide) (fun hp hS => (hS.conv (t := 45) rfl (cond_t hp)).sub (ts := [45]) rfl) rfl rfl rfl rfl (fun hp D1 hS => have hq := c_mvcc_Store_Last (gif_in hx6 hp) hS; hq) (fun hp => H.sub [(0, false), (0, true), (1, true)] rfl) ?_; clear Z a H; intro a w8 I8 H Z
 replace H : Hf I D w I8 w8 [OEmvcc_Store g1 g_2.2.2, SlC NEOp (.slice (some ⟨b2, 0, none⟩) 1 1) [({ key := ⟨#[97]⟩, val := ByteArray.empty, del := true } : EOp)], SlC NEOp (.slice (some ⟨b1, 0, none⟩) 1 1) [({ key := ⟨#[97]⟩, val := ⟨#[49]⟩, del := false } : EOp)]] := H
 refine g_ob Z (p := (((((p.1 == 0) && (p_2.1 == 0)) && (seqB g.1 ⟨#[49]⟩)) && g.2.1) && (!g_2.2.1))) (v := .bool (l == 5)) (S' := [(46, .int .u64 l)]) rfl rfl rfl (wantB_t _) rfl (by decide) (fun hp hS => (hS.conv (t := 46) rfl (cond_t hp)).sub (ts := [46]) rfl) (fun hp => Ob_c tMW rfl) ?_; clear Z a; intro a Z
 refine s_ob Z (v := .bool ((((((p.1 == 0) && (p_2.1 == 0)) && (seqB g.1 ⟨#[49]⟩)) && g.2.1) && (!g_2.2.1)) && (l == 5))) rfl rfl (by decide) rfl (Ob_pick rfl rfl rfl rfl (pick_and _ _)) ?_; clear Z a; intro a Z
 refine s_runk tMW Z 1 rfl rfl ?_; clear Z a; intro a Z
 refine g_ob Z (p := ((((((p.1 == 0) && (p_2.1 == 0)) && (seqB g.1 ⟨#[49]⟩)) && g.2.1) && (!g_2.2.1)) && (l == 5))) (v := .pointer (some ⟨g1, 0, none⟩)) (S' := [(1, .pointer (some ⟨g1, 0, none⟩))]) rfl rfl rfl (wantB_t _) rfl (by decide) (fun hp hS => hS.sub (ts := [1]) rfl) (fun hp => Ob_c tMW rfl) ?_; clear Z a; intro a Z
 refine h_gcall Z H (js := [(0, false)]) rfl (p := ((((((p.1 == 0) && (p_2.1 == 0)) && (seqB g.1 ⟨#[49]⟩)) && g.2.1) && (!g_2.2.1)) && (l == 5))) (v := .int .i64 c) (S' := [(50, .pointer (some ⟨g1, 0, none⟩))]) (caps := #[]) (fun _ => [OEmvcc_Store g1 g_2.2.2]) fn_21_YMW rfl rfl rfl (wantB_t _) rfl (by decide) (fun hp hS => (hS.conv (t := 50) rfl (cond_t hp)).sub (ts := [50]) rfl) rfl rfl rfl rfl (fun hp D1 hS => have hq := c_mvcc_Store_Cells (gif_in hx7 hp) hS; hq) (fun hp => H.sub [(0, false), (0, true), (1, true)] rfl) ?_; clear Z a H; intro a w9 I9 H Z
 replace H : Hf I D w I9 w9 [OEmvcc_Store g1 g_2.2.2, SlC NEOp (.slice (some ⟨b2, 0, none⟩) 1 1) [({ key := ⟨#[97]⟩, val := ByteArray.empty, del := true } : EOp)], SlC NEOp (.slice (some ⟨b1, 0, none⟩) 1 1) [({ key := ⟨#[97]⟩, val := ⟨#[49]⟩, del := false } : EOp)]] := H
 refine g_ob Z (p := ((((((p.1 == 0) && (p_2.1 == 0)) && (seqB g.1 ⟨#[49]⟩)) && g.2.1) && (!g_2.2.1)) && (l == 5))) (v := .bool (c == 2)) (S' := [(51, .int .i64 c)]) rfl rfl rfl (wantB_t _) rfl (by decide) (fun hp hS => (hS.conv (t := 51) rfl (cond_t hp)).sub (ts := [51]) rfl) (fun hp => Ob_c tMW rfl) ?_; clear Z a; intro a Z
 refine s_ob Z (v := .bool (((((((p.1 == 0) && (p_2.1 == 0)) && (seqB g.1 ⟨#[49]⟩)) && g.2.1) && (!g_2.2.1)) && (l == 5)) && (c == 2))) rfl rfl (by decide) rfl (Ob_pick rfl rfl rfl rfl (pick_and _ _)) ?_; clear Z a; intro a Z
 refine s_runk tMW Z 1 rfl rfl ?_; clear Z a; intro a Z
 refine s_end Z [0] rfl ?_; clear Z; intro Z
 refine p_then (wp_ret ?_)
 obtain rfl := some_in hF
 exact f_ret Z (run_results1 rfl Z rfl) ⟨rfl, I9, (H.sub [] rfl).eq rfl⟩

def F_law16_few_l1 (l : List Elaw16_Act) (rc : Int → Option Bool) (sg : Int) : Option Bool := match sg with | i => if ((decide (i < (l.length : Int))) && (decide (i < 40))) = true then (chk ((0 : Int) ≤ i ∧ i < (l.length : Int)) (if (decide ((((l.getD (i).toNat default).ops).length : Int) > 20)) = true then (some false) else (chk (inI (i + 1)) (rc (i + 1))))) else (some true)

def F_law16_few (l : List Elaw16_Act) : Option Bool := iter (F_law16_few_l1 l) FU 0

set_option maxHeartbeats 1000000 in
theorem c_law16_few {I D : Dm} {l : List Elaw16_Act} {v1_l : Value} {w : World} {rr : Bool} (hF : F_law16_few l = some rr) (H : St I D w [SlC NElaw16_Act v1_l l]) :
  Calls Try.prog 8 #[v1_l] w (Ret fun vv w' => vv = .bool rr ∧ ∃ I', Hf I D w I' w' []) := by
 replace H := H.hf
 unfold F_law16_few at hF
 refine f_enter 21 Try.func8 rfl rfl (Nat.le_of_ble_eq_true rfl) fun a Z => ?_
 replace Z := Z.sub (ts := [0]) rfl
 refine wp_seq (f_region Z ?_); clear Z; intro Z
 refine s_runk tMW Z 1 rfl rfl ?_; clear Z a; intro a Z
 refine s_end Z [0, 2] rfl ?_; clear Z; intro Z
 refine p_then (wp_seq ?_)
 refine wp_seq (f_region Z ?_); clear Z; intro Z
 refine s_runk tMW Z 1 rfl rfl ?_; clear Z a; intro a Z
 refine s_end Z [0, 2, 3] rfl ?_; clear Z; intro Z
 refine p_then (wp_block ?_)
 refine f_iter hF (fun sg a' w' => match sg with | i => Sl 21 [(0, v1_l), (2, .bool false), (3, .int .i64 i)] a' ∧ ∃ I2, Hf I D w I2 w' [SlC NElaw16_Act v1_l l]) ⟨Z.sub (ts := [0, 2, 3]) rfl, ⟨I, (H.sub [(0, true)] rfl).eq rfl⟩⟩ ?_
 clear Z H hF a
 rintro rc i a w1 ⟨Z, I1, H⟩ hF
 unfold F_law16_few_l1 at hF
 try dsimp only at hF
 refine wp_seq ?_
 refine wp_seq (f_region Z ?_); clear Z; intro Z
 refine s_runk tMW Z 2 rfl rfl ?_; clear Z a; intro a Z
 refine s_ob Z (v := .int .i64 (l.length : Int)) rfl rfl (by decide) rfl (Ob_slen tMW rfl rfl rfl (H.slshape 0 rfl)) ?_; clear Z a; intro a Z
 refine s_runk tMW Z 2 rfl rfl ?_; clear Z a; intro a Z
 refine g_ob Z (p := (decide (i < (l.length : Int)))) (v := .int .i64 i) (S' := [(3, .int .i64 i)]) rfl rfl rfl (wantB_t _) rfl (by decide) (fun hp hS => hS.sub (ts := [3]) rfl) (fun hp => Ob_c tMW rfl) ?_; clear Z a; intro a Z
 refine g_ob Z (p := (decide (i < (l.length : Int)))) (v := .bool (decide (i < 40))) (S' := [(9, .int .i64 i)]) rfl rfl rfl (wantB_t _) rfl (by decide) (fun hp hS => (hS.conv (t := 9) rfl (cond_t hp)).sub (ts := [9]) rfl) (fun hp => Ob_c tMW rfl) ?_; clear Z a; intro a Z
 refine s_ob Z (v := .bool ((decide (i < (l.length : Int))) && (decide (i < 40)))) rfl rfl (by decide) rfl (Ob_pick rfl rfl rfl rfl (pick_and _ _)) ?_; clear Z a; intro a Z
 refine s_end Z [0, 2, 3, 4, 5, 6, 7, 8, 11] rfl ?_; clear Z; intro Z
 refine p_then ?_
 refine f_cond Z rfl (fun hc1 => ?_) (fun hc1 => ?_)
 ·replace hF := ite_t hc1 hF
  refine wp_skip ?_
  refine p_then (wp_seq ?_)
  refine wp_block ?_
  refine wp_seq ?_
  obtain ⟨hg1, hF⟩ := chk_in hF
  refine f_region Z ?_; clear Z; intro Z
  refine s_runk tMW Z 2 rfl rfl ?_; clear Z a; intro a Z
  refine s_ob Z (v := .pointer (some ⟨blkOf v1_l, oofOf v1_l + (i).toNat * 6, none⟩)) rfl rfl (by decide) rfl (Ob_sidx tMW rfl rfl rfl rfl (slPl (H.sl 0 rfl) hg1) hg1) ?_; clear Z a; intro a Z
  refine s_runk tMW Z 1 rfl rfl ?_; clear Z a; intro a Z
  obtain ⟨_, ⟨u1, rfl, L1⟩, H⟩ := H.elG 0 rfl (i) (NElaw16_Act.dft _ _)
  replace H := H.addsl L1
  replace H : Hf I D w I1 w1 [SlC NEOp u1 ((l.getD (i).toNat default).ops), AtG ((0 : Int) ≤ i ∧ i < (l.length : Int)) (blkOf v1_l) (oofOf v1_l + (i).toNat * 6) [.int .i64 ((l.getD (i).toNat default).c), .int .u64 ((l.getD (i).toNat default).t), u1, .string ((l.getD (i).toNat default).k), .string ((l.getD (i).toNat default).to_), .int .i64 ((l.getD (i).toNat default).n)], SlC NElaw16_Act v1_l l] := H
  refine s_ob Z (v := u1) rfl rfl (by decide) rfl (Ob_load tMW rfl rfl rfl ((H.atg 1 rfl hg1) 2 _ rfl)) ?_; clear Z a; intro a Z
  refine s_ob Z (v := .int .i64 (((l.getD (i).toNat default).ops).length : Int)) rfl rfl (by decide) rfl (Ob_slen tMW rfl rfl rfl (H.slshape 0 rfl)) ?_; clear Z a; intro a Z
  refine s_runk tMW Z 1 rfl rfl ?_; clear Z a; intro a Z
  refine s_end Z [0, 2, 3, 4, 5, 6, 7, 8, 11, 14, 15, 16, 17, 18, 19, 20] rfl ?_; clear Z; intro Z
  refine p_then ?_
  refine f_cond Z rfl (fun hc2 => ?_) (fun hc2 => ?_)
  ·replace hF := ite_t hc2 hF
   refine wp_seq (f_region Z ?_); clear Z; intro Z
   refine s_runk tMW Z 1 rfl rfl ?_; clear Z a; intro a Z
   refine s_end Z [0, 2, 3, 4, 5, 6, 7, 8, 11, 14, 15, 16, 17, 18, 19, 20] rfl ?_; clear Z; intro Z
   refine p_then (wp_ret ?_)
   refine p_blk_r ?_
   refine p_then_r ?_
   refine p_then_r ?_
   refine p_blk_r ?_
   refine p_then_r ?_
   obtain rfl := some_in hF
   exact f_ret Z (run_results1 rfl Z rfl) ⟨rfl, I1, (H.sub [] rfl).eq rfl⟩
  ·replace hF := ite_f hc2 hF
   refine wp_skip ?_
   refine p_blk ?_
   refine p_then ?_
   obtain ⟨hg2, hF⟩ := chk_in hF
   refine f_region Z ?_; clear Z; intro Z
   refine s_runk tMW Z 1 rfl rfl ?_; clear Z a; intro a Z
   refine s_ob Z (v := .int .i64 (i + 1)) rfl rfl (by decide) rfl (Ob_add rfl rfl rfl (wrI hg2)) ?_; clear Z a; intro a Z
   refine s_runk tMW Z 1 rfl rfl ?_; clear Z a; intro a Z
   refine s_end Z [0, 2, 3, 4, 5, 6, 7, 8, 11, 14, 15, 16, 17, 18, 19, 20, 12, 13] rfl ?_; clear Z; intro Z
   refine p_then ?_
   exact ⟨(i + 1), ⟨Z.sub (ts := [0, 2, 3]) rfl, ⟨I1, (H.sub [(2, true)] rfl).eq rfl⟩⟩, hF⟩
 ·replace hF := ite_f hc1 hF
  refine wp_exit ?_
  refine p_then_x ?_
  refine p_then_x ?_
  refine f_exit_here ?_
  refine p_then (wp_seq (f_region Z ?_)); clear Z; intro Z
  refine s_runk tMW Z 1 rfl rfl ?_; clear Z a; intro a Z
  refine s_end Z [2] rfl ?_; clear Z; intro Z
  refine p_then (wp_ret ?_)
  obtain rfl := some_in hF
  exact f_ret Z (run_results1 rfl Z rfl) ⟨rfl, I1, (H.sub [] rfl).eq rfl⟩

end Go.Proofs.Ytfefmdllnjpmgaa
