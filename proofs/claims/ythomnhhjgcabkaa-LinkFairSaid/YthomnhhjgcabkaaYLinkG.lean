/- Links: two sides. -/
import Derived.Test.YthomnhhjgcabkaaYLinkC
import Derived.Test.YthomnhhjgcabkaaYS
import Derived.Test.YthomnhhjgcabkaaYAI
namespace Go.Proofs.Ythomnhhjgcabkaa
open Go.RowKit
structure Elaw22_pair where
 l : List (Option Elink_Link)
 boot : List Int
 way : List ESeg
 to_ : List Int
 sent : List Int
 told : List Int
 ok : Bool

instance : Inhabited Elaw22_pair := ⟨⟨[none, none], [0, 0], [], [], [0, 0], [0, 0], false⟩⟩

def cElaw22_pair (x : Elaw22_pair) (v0 : Value) (v1 : Value) (v2 : Value) (v3 : Value) : List Value := [v0, v1, .int .i64 (x.boot.getD 0 0), .int .i64 (x.boot.getD 1 0), v2, v3, .int .i64 (x.sent.getD 0 0), .int .i64 (x.sent.getD 1 0), .int .i64 (x.told.getD 0 0), .int .i64 (x.told.getD 1 0), .bool x.ok]

def OElaw22_pair (b : Nat) (x : Elaw22_pair) : Ch := ExC fun (p : Value × Value × Value × Value) => [BxC b 60 (cElaw22_pair x p.1 p.2.1 p.2.2.1 p.2.2.2), PtC OElink_Link p.1 (x.l.getD 0 none), PtC OElink_Link p.2.1 (x.l.getD 1 none), OwC NESeg 31 p.2.2.1 x.way, OwC Ni64 3 p.2.2.2 x.to_]

def tLinkGL : TabL := ⟨[(61440, 0), (61442, 4), (61443, 5), (61444, 6), (61445, 8), (61446, 10)], [9], [], [(37, (31, 8)), (39, (9, 1)), (58, (3, 1)), (107, (5, 1))], [(3, (1, false)), (4, (1, false)), (9, (1, false)), (23, (1, false)), (31, (8, true)), (37, (1, false)), (58, (1, false)), (60, (11, true))]⟩

def tLinkG : Tab Try.prog := ⟨tLinkGL, by kernel_rfl⟩

theorem fn_8_YLinkG : IsFn Try.prog 8 := ⟨_, Try.func8, by kernel_rfl, by kernel_rfl⟩

theorem fn_15_YLinkG : IsFn Try.prog 15 := ⟨_, Try.func15, by kernel_rfl, by kernel_rfl⟩

theorem fn_38_YLinkG : IsFn Try.prog 38 := ⟨_, Try.func38, by kernel_rfl, by kernel_rfl⟩

theorem E_37_YLinkG : Elem Try.prog 37 31 8 72 := ⟨Try.underlying37, by
 have h : (Try.prog.info? 31).map (fun i => (i.zero, i.size, i.bytes)) = some (some (.agg #[.int .i64 0, .int .i64 0, .int .i64 0, .int .i64 0, .int .i64 0, .int .i64 0, .bool false, .string ByteArray.empty]), 8, 72) := by kernel_rfl
 obtain ⟨i, hi, h1⟩ := Option.map_eq_some_iff.1 h
 simp only [Prod.mk.injEq] at h1
 exact ⟨i, _, hi, h1.1, h1.2.1, h1.2.2, by rfl⟩, by decide⟩

theorem E_58_YLinkG : Elem Try.prog 58 3 1 8 := ⟨Try.underlying58, by
 have h : (Try.prog.info? 3).map (fun i => (i.zero, i.size, i.bytes)) = some (some (.int .i64 0), 1, 8) := by kernel_rfl
 obtain ⟨i, hi, h1⟩ := Option.map_eq_some_iff.1 h
 simp only [Prod.mk.injEq] at h1
 exact ⟨i, _, hi, h1.1, h1.2.1, h1.2.2, by rfl⟩, by decide⟩

def F_law22_number (n0 : Int) : Option ByteArray := chk (inI (n0.tdiv 256)) (chk (inB (n0.tdiv 256)) (chk (inB (n0.tmod 256)) (some (strI [n0.tdiv 256, n0.tmod 256]))))

set_option maxHeartbeats 1000000 in
theorem c_law22_number {I D : Dm} {n0 : Int} {w : World} {rr : ByteArray} (hF : F_law22_number n0 = some rr) (H : St I D w []) :
  Calls Try.prog 36 #[.int .i64 n0] w (Ret fun vv w' => vv = .string rr ∧ ∃ I', Hf I D w I' w' []) := by
 replace H := H.hf
 unfold F_law22_number at hF
 refine f_enter 11 Try.func36 rfl rfl (Nat.le_of_ble_eq_true rfl) fun a Z => ?_
 replace Z := Z.sub (ts := [0]) rfl
 refine wp_seq (f_region Z ?_); clear Z; intro Z
 refine s_runk tLinkG Z 1 rfl rfl ?_; clear Z a; intro a Z
 refine s_end Z [0, 2] rfl ?_; clear Z; intro Z
 refine p_then (wp_seq ?_)
 obtain ⟨hg1, hF⟩ := chk_in hF
 obtain ⟨hg2, hF⟩ := chk_in hF
 obtain ⟨hg3, hF⟩ := chk_in hF
 refine f_region Z ?_; clear Z; intro Z
 refine s_runk tLinkG Z 1 rfl rfl ?_; clear Z a; intro a Z
 refine s_ob Z (v := .int .i64 (n0.tdiv 256)) rfl rfl (by decide) rfl (Ob_quo rfl rfl rfl (by decide) (wrI hg1)) ?_; clear Z a; intro a Z
 refine s_ob Z (v := .int .u8 (n0.tdiv 256)) rfl rfl (by decide) rfl (Ob_conv rfl rfl (run_convi Try.underlying3 Try.underlying5 _ _ (wrB hg2) _)) ?_; clear Z a; intro a Z
 refine s_runk tLinkG Z 1 rfl rfl ?_; clear Z a; intro a Z
 refine s_ob Z (v := .int .i64 (n0.tmod 256)) rfl rfl (by decide) rfl (Ob_rem rfl rfl rfl (by decide) rfl) ?_; clear Z a; intro a Z
 refine s_ob Z (v := .int .u8 (n0.tmod 256)) rfl rfl (by decide) rfl (Ob_conv rfl rfl (run_convi Try.underlying3 Try.underlying5 _ _ (wrB hg3) _)) ?_; clear Z a; intro a Z
 refine h_bslice Z H (vs := [(0, .int .u8 (n0.tdiv 256)), (1, .int .u8 (n0.tmod 256))]) (cl := [.int .u8 (n0.tdiv 256), .int .u8 (n0.tmod 256)]) (e := 5) rfl rfl rfl (by decide) rfl rfl (fun w => run_bslice (z := .int .u8 0) (m := 1) Try.underlying107 (by kernel_rfl) rfl rfl (by decide) (by simp [Instr.fill, Value.cells]) w) ?_; clear Z a H; intro a w1 b1 H Z
 refine s_ob Z (v := .string (strI [n0.tdiv 256, n0.tmod 256])) rfl rfl (by decide) rfl (Ob_conv rfl rfl (run_b2lit [n0.tdiv 256, n0.tmod 256] Try.underlying107 Try.underlying5 Try.underlying9 (H.bx 0 rfl))) ?_; clear Z a; intro a Z
 refine s_runk tLinkG Z 1 rfl rfl ?_; clear Z a; intro a Z
 refine s_end Z [2] rfl ?_; clear Z; intro Z
 refine p_then (wp_ret ?_)
 obtain rfl := some_in hF
 exact f_ret Z (run_results1 rfl Z rfl) ⟨rfl, I, (H.sub [] rfl).eq rfl⟩

def F_law22_numbered (s0 : ByteArray) : Option Int := if ((s0.size : Int) != 2) = true then (some (-1)) else (chk ((0 : Int) ≤ 0 ∧ 0 < (s0.size : Int)) (chk (inI (byteAt s0 (0 : Int).toNat : Int)) (chk (inI (256 * (byteAt s0 (0 : Int).toNat : Int))) (chk ((0 : Int) ≤ 1 ∧ 1 < (s0.size : Int)) (chk (inI (byteAt s0 (1 : Int).toNat : Int)) (chk (inI (256 * (byteAt s0 (0 : Int).toNat : Int) + (byteAt s0 (1 : Int).toNat : Int))) (some (256 * (byteAt s0 (0 : Int).toNat : Int) + (byteAt s0 (1 : Int).toNat : Int)))))))))

set_option maxHeartbeats 1000000 in
theorem c_law22_numbered {I D : Dm} {s0 : ByteArray} {w : World} {rr : Int} (hF : F_law22_numbered s0 = some rr) (H : St I D w []) :
  Calls Try.prog 38 #[.string s0] w (Ret fun vv w' => vv = .int .i64 rr ∧ ∃ I', Hf I D w I' w' []) := by
 replace H := H.hf
 unfold F_law22_numbered at hF
 refine f_enter 14 Try.func38 rfl rfl (Nat.le_of_ble_eq_true rfl) fun a Z => ?_
 replace Z := Z.sub (ts := [0]) rfl
 refine wp_seq (f_region Z ?_); clear Z; intro Z
 refine s_runk tLinkG Z 1 rfl rfl ?_; clear Z a; intro a Z
 refine s_end Z [0, 2] rfl ?_; clear Z; intro Z
 refine p_then (wp_seq ?_)
 refine wp_seq (f_region Z ?_); clear Z; intro Z
 refine s_runk tLinkG Z 3 rfl rfl ?_; clear Z a; intro a Z
 refine s_end Z [0, 2, 5] rfl ?_; clear Z; intro Z
 refine p_then ?_
 refine f_cond Z rfl (fun hc1 => ?_) (fun hc1 => ?_)
 ·replace hF := ite_t hc1 hF
  refine wp_seq (f_region Z ?_); clear Z; intro Z
  refine s_runk tLinkG Z 1 rfl rfl ?_; clear Z a; intro a Z
  refine s_end Z [0, 2] rfl ?_; clear Z; intro Z
  refine p_then (wp_ret ?_)
  refine p_then_r ?_
  obtain rfl := some_in hF
  exact f_ret Z (run_results1 rfl Z rfl) ⟨rfl, I, (H.sub [] rfl).eq rfl⟩
 ·replace hF := ite_f hc1 hF
  refine wp_skip ?_
  refine p_then (wp_seq ?_)
  obtain ⟨hg1, hF⟩ := chk_in hF
  obtain ⟨hg2, hF⟩ := chk_in hF
  obtain ⟨hg3, hF⟩ := chk_in hF
  obtain ⟨hg4, hF⟩ := chk_in hF
  obtain ⟨hg5, hF⟩ := chk_in hF
  obtain ⟨hg6, hF⟩ := chk_in hF
  refine f_quietd (by kernel_rfl) (by kernel_rfl) Z ?_; clear Z; intro Z
  refine q_runk tLinkG Z 1 rfl rfl ?_; clear Z a; intro a Z
  refine q_ob Z (v := .int .u8 (byteAt s0 (0 : Int).toNat : Int)) rfl rfl (by decide) rfl (fun _ hw => Ob_sidxs tLinkG rfl rfl rfl rfl hg1) ?_; clear Z a; intro a Z
  refine q_ob Z (v := .int .i64 (byteAt s0 (0 : Int).toNat : Int)) rfl rfl (by decide) rfl (fun _ hw => Ob_conv rfl rfl (run_convi Try.underlying5 Try.underlying3 _ _ (wrI hg2) _)) ?_; clear Z a; intro a Z
  refine q_ob Z (v := .int .i64 (256 * (byteAt s0 (0 : Int).toNat : Int))) rfl rfl (by decide) rfl (fun _ hw => Ob_mul rfl rfl rfl (wrI hg3)) ?_; clear Z a; intro a Z
  refine q_runk tLinkG Z 1 rfl rfl ?_; clear Z a; intro a Z
  refine q_ob Z (v := .int .u8 (byteAt s0 (1 : Int).toNat : Int)) rfl rfl (by decide) rfl (fun _ hw => Ob_sidxs tLinkG rfl rfl rfl rfl hg4) ?_; clear Z a; intro a Z
  refine q_ob Z (v := .int .i64 (byteAt s0 (1 : Int).toNat : Int)) rfl rfl (by decide) rfl (fun _ hw => Ob_conv rfl rfl (run_convi Try.underlying5 Try.underlying3 _ _ (wrI hg5) _)) ?_; clear Z a; intro a Z
  refine q_ob Z (v := .int .i64 (256 * (byteAt s0 (0 : Int).toNat : Int) + (byteAt s0 (1 : Int).toNat : Int))) rfl rfl (by decide) rfl (fun _ hw => Ob_add rfl rfl rfl (wrI hg6)) ?_; clear Z a; intro a Z
  refine q_runk tLinkG Z 1 rfl rfl ?_; clear Z a; intro a Z
  refine q_end Z [2] rfl ?_; clear Z; intro w1 hb Z
  replace H : Hf I D w I w1 [] := H.blw hb
  clear hb
  refine p_then (wp_ret ?_)
  obtain rfl := some_in hF
  exact f_ret Z (run_results1 rfl Z rfl) ⟨rfl, I, (H.sub [] rfl).eq rfl⟩

def F_law22_both : Option (Option Elaw22_pair) := (F_link_New 1).bind fun n0 => (optE n0.1 ((F_link_New 1).bind fun n0_2 => (optE n0_2.1 (some none) (fun x_2 => some none))) (fun x => (F_link_New 1).bind fun n0_3 => (optE n0_3.1 (some none) (fun x_3 => if ((((n0.2 != 0) || (n0_3.2 != 0)) || false) || false) = true then (some none) else (some (some ({ (default : Elaw22_pair) with l := [some x, some x_3], boot := [1, 1], sent := [0, 0], told := [0, 0], ok := true } : Elaw22_pair)))))))

set_option maxHeartbeats 1000000 in
theorem c_law22_both {I D : Dm} {w : World} {rr : Option Elaw22_pair} (hF : F_law22_both = some rr) (H : St I D w []) :
  Calls Try.prog 21 #[] w (Ret fun vv w' => ∃ q1 : Value, vv = q1 ∧ ∃ I', Hf I D w I' w' [PtC OElaw22_pair q1 rr]) := by
 replace H := H.hf
 unfold F_law22_both at hF
 refine f_enter 33 Try.func21 rfl rfl (Nat.le_of_ble_eq_true rfl) fun a Z => ?_
 replace Z := Z.sub (ts := []) rfl
 refine wp_seq (f_region Z ?_); clear Z; intro Z
 refine s_runk tLinkG Z 1 rfl rfl ?_; clear Z a; intro a Z
 refine s_end Z [0] rfl ?_; clear Z; intro Z
 refine p_then (wp_seq ?_)
 obtain ⟨n0, hx1, hF⟩ := bnd_in hF
 refine f_region Z ?_; clear Z; intro Z
 refine h_call Z H (js := []) rfl (caps := #[]) fn_8_YLinkG rfl rfl rfl rfl rfl (by decide) rfl rfl (fun D1 hS => have hq := c_link_New hx1 hS; hq) ?_; clear Z a; intro vv a w1 D2 hr hF2 Z
 obtain ⟨q1, rfl, I1, K⟩ := hr
 have H : Hf I D w I1 w1 [PtC OElink_Link q1 n0.1] := hF2 K
 clear hF2 K
 refine s_runk tLinkG Z 5 rfl rfl ?_; clear Z a; intro a Z
 refine s_end Z [0, 1, 2] rfl ?_; clear Z; intro Z
 rcases optE_in hF with ⟨ho1, hF⟩ | ⟨x, ho1, hF⟩
 ·obtain ⟨hv, H⟩ := H.optN 0 rfl ho1
  subst hv
  replace H : Hf I D w I1 w1 [] := H
  refine p_then (wp_seq ?_)
  obtain ⟨n0_2, hx2, hF⟩ := bnd_in hF
  refine f_region Z ?_; clear Z; intro Z
  refine h_call Z H (js := []) rfl (caps := #[]) fn_8_YLinkG rfl rfl rfl rfl rfl (by decide) rfl rfl (fun D1 hS => have hq := c_link_New hx2 hS; hq) ?_; clear Z a; intro vv a w2 D2 hr hF2 Z
  obtain ⟨q2, rfl, I2, K⟩ := hr
  have H : Hf I D w I2 w2 [PtC OElink_Link q2 n0_2.1] := hF2 K
  clear hF2 K
  refine s_runk tLinkG Z 5 rfl rfl ?_; clear Z a; intro a Z
  refine s_end Z [0, 1, 2, 3, 4] rfl ?_; clear Z; intro Z
  rcases optE_in hF with ⟨ho2, hF⟩ | ⟨x_2, ho2, hF⟩
  ·obtain ⟨hv, H⟩ := H.optN 0 rfl ho2
   subst hv
   replace H : Hf I D w I2 w2 [] := H
   refine p_then (wp_seq ?_)
   refine wp_seq (f_region Z ?_); clear Z; intro Z
   refine s_runk tLinkG Z 3 rfl rfl ?_; clear Z a; intro a Z
   refine g_ob Z (p := (!(n0.2 != 0))) (v := .int .i64 n0_2.2) (S' := [(4, .int .i64 n0_2.2)]) rfl rfl rfl (wantB_f _) rfl (by decide) (fun hp hS => hS.sub (ts := [4]) rfl) (fun hp => Ob_c tLinkG rfl) ?_; clear Z a; intro a Z
   refine g_ob Z (p := (!(n0.2 != 0))) (v := .bool (n0_2.2 != 0)) (S' := [(16, .int .i64 n0_2.2)]) rfl rfl rfl (wantB_f _) rfl (by decide) (fun hp hS => (hS.conv (t := 16) rfl (cond_t hp)).sub (ts := [16]) rfl) (fun hp => Ob_c tLinkG rfl) ?_; clear Z a; intro a Z
   refine s_ob Z (v := .bool ((n0.2 != 0) || (n0_2.2 != 0))) rfl rfl (by decide) rfl (Ob_pick rfl rfl rfl rfl (pick_or _ _)) ?_; clear Z a; intro a Z
   refine s_runk tLinkG Z 1 rfl rfl ?_; clear Z a; intro a Z
   refine g_ob Z (p := (!((n0.2 != 0) || (n0_2.2 != 0)))) (v := .pointer none) (S' := [(1, .pointer none)]) rfl rfl rfl (wantB_f _) rfl (by decide) (fun hp hS => hS.sub (ts := [1]) rfl) (fun hp => Ob_c tLinkG rfl) ?_; clear Z a; intro a Z
   refine g_ob Z (p := (!((n0.2 != 0) || (n0_2.2 != 0)))) (v := .bool true) (S' := [(20, .pointer none)]) rfl rfl rfl (wantB_f _) rfl (by decide) (fun hp hS => (hS.conv (t := 20) rfl (cond_t hp)).sub (ts := [20]) rfl) (fun hp => Ob_pnil rfl rfl rfl Try.underlying23 (.inl ⟨rfl, rfl⟩)) ?_; clear Z a; intro a Z
   refine s_ob Z (v := .bool true) rfl rfl (by decide) rfl (Ob_pick rfl rfl rfl rfl (pick_or1 _)) ?_; clear Z a; intro a Z
   refine s_runk tLinkG Z 1 rfl rfl ?_; clear Z a; intro a Z
   refine g_if Z rfl rfl rfl (p := false) rfl rfl (by decide) (fun h => by cases h) ?_; clear Z; intro _ a Z
   refine g_if Z rfl rfl rfl (p := false) rfl rfl (by decide) (fun h => by cases h) ?_; clear Z; intro _ a Z
   refine s_ob Z (v := .bool true) rfl rfl (by decide) rfl (Ob_pick rfl rfl rfl rfl rfl) ?_; clear Z a; intro a Z
   refine s_end Z [0, 1, 3, 26] rfl ?_; clear Z; intro Z
   refine p_then ?_
   refine wp_cond_true (Z.ev rfl) ?_
   refine wp_seq (f_region Z ?_); clear Z; intro Z
   refine s_runk tLinkG Z 1 rfl rfl ?_; clear Z a; intro a Z
   refine s_end Z [0, 1, 3] rfl ?_; clear Z; intro Z
   refine p_then (wp_ret ?_)
   refine p_then_r ?_
   replace H : Hf I D w I2 w2 [PtC OElaw22_pair (.pointer none) none] := H.mkN OElaw22_pair
   obtain rfl := some_in hF
   exact f_ret Z (run_results1 rfl Z rfl) ⟨.pointer none, rfl, I2, (H.sub [(0, false)] rfl).eq rfl⟩
  ·obtain ⟨b2, hv, H⟩ := H.optS 0 rfl ho2
   subst hv
   replace H : Hf I D w I2 w2 [OElink_Link b2 x_2] := H
   refine p_then (wp_seq ?_)
   refine wp_seq (f_region Z ?_); clear Z; intro Z
   refine s_runk tLinkG Z 3 rfl rfl ?_; clear Z a; intro a Z
   refine g_ob Z (p := (!(n0.2 != 0))) (v := .int .i64 n0_2.2) (S' := [(4, .int .i64 n0_2.2)]) rfl rfl rfl (wantB_f _) rfl (by decide) (fun hp hS => hS.sub (ts := [4]) rfl) (fun hp => Ob_c tLinkG rfl) ?_; clear Z a; intro a Z
   refine g_ob Z (p := (!(n0.2 != 0))) (v := .bool (n0_2.2 != 0)) (S' := [(16, .int .i64 n0_2.2)]) rfl rfl rfl (wantB_f _) rfl (by decide) (fun hp hS => (hS.conv (t := 16) rfl (cond_t hp)).sub (ts := [16]) rfl) (fun hp => Ob_c tLinkG rfl) ?_; clear Z a; intro a Z
   refine s_ob Z (v := .bool ((n0.2 != 0) || (n0_2.2 != 0))) rfl rfl (by decide) rfl (Ob_pick rfl rfl rfl rfl (pick_or _ _)) ?_; clear Z a; intro a Z
   refine s_runk tLinkG Z 1 rfl rfl ?_; clear Z a; intro a Z
   refine g_ob Z (p := (!((n0.2 != 0) || (n0_2.2 != 0)))) (v := .pointer none) (S' := [(1, .pointer none)]) rfl rfl rfl (wantB_f _) rfl (by decide) (fun hp hS => hS.sub (ts := [1]) rfl) (fun hp => Ob_c tLinkG rfl) ?_; clear Z a; intro a Z
   refine g_ob Z (p := (!((n0.2 != 0) || (n0_2.2 != 0)))) (v := .bool true) (S' := [(20, .pointer none)]) rfl rfl rfl (wantB_f _) rfl (by decide) (fun hp hS => (hS.conv (t := 20) rfl (cond_t hp)).sub (ts := [20]) rfl) (fun hp => Ob_pnil rfl rfl rfl Try.underlying23 (.inl ⟨rfl, rfl⟩)) ?_; clear Z a; intro a Z
   refine s_ob Z (v := .bool true) rfl rfl (by decide) rfl (Ob_pick rfl rfl rfl rfl (pick_or1 _)) ?_; clear Z a; intro a Z
   refine s_runk tLinkG Z 1 rfl rfl ?_; clear Z a; intro a Z
   refine g_if Z rfl rfl rfl (p := false) rfl rfl (by decide) (fun h => by cases h) ?_; clear Z; intro _ a Z
   refine g_if Z rfl rfl rfl (p := false) rfl rfl (by decide) (fun h => by cases h) ?_; clear Z; intro _ a Z
   refine s_ob Z (v := .bool true) rfl rfl (by decide) rfl (Ob_pick rfl rfl rfl rfl rfl) ?_; clear Z a; intro a Z
   refine s_end Z [0, 1, 3, 26] rfl ?_; clear Z; intro Z
   refine p_then ?_
   refine wp_cond_true (Z.ev rfl) ?_
   refine wp_seq (f_region Z ?_); clear Z; intro Z
   refine s_runk tLinkG Z 1 rfl rfl ?_; clear Z a; intro a Z
   refine s_end Z [0, 1, 3] rfl ?_; clear Z; intro Z
   refine p_then (wp_ret ?_)
   refine p_then_r ?_
   replace H : Hf I D w I2 w2 [PtC OElaw22_pair (.pointer none) none, OElink_Link b2 x_2] := H.mkN OElaw22_pair
   obtain rfl := some_in hF
   exact f_ret Z (run_results1 rfl Z rfl) ⟨.pointer none, rfl, I2, (H.sub [(0, false)] rfl).eq rfl⟩
 ·obtain ⟨b1, hv, H⟩ := H.optS 0 rfl ho1
  subst hv
  replace H : Hf I D w I1 w1 [OElink_Link b1 x] := H
  refine p_then (wp_seq ?_)
  obtain ⟨n0_3, hx3, hF⟩ := bnd_in hF
  refine f_region Z ?_; clear Z; intro Z
  refine h_call Z H (js := []) rfl (caps := #[]) fn_8_YLinkG rfl rfl rfl rfl rfl (by decide) rfl rfl (fun D1 hS => have hq := c_link_New hx3 hS; hq) ?_; clear Z a; intro vv a w3 D2 hr hF2 Z
  obtain ⟨q3, rfl, I3, K⟩ := hr
  have H : Hf I D w I3 w3 [PtC OElink_Link q3 n0_3.1, OElink_Link b1 x] := hF2 K
  clear hF2 K
  refine s_runk tLinkG Z 5 rfl rfl ?_; clear Z a; intro a Z
  refine s_end Z [0, 1, 2, 3, 4] rfl ?_; clear Z; intro Z
  rcases optE_in hF with ⟨ho3, hF⟩ | ⟨x_3, ho3, hF⟩
  ·obtain ⟨hv, H⟩ := H.optN 0 rfl ho3
   subst hv
   replace H : Hf I D w I3 w3 [OElink_Link b1 x] := H
   refine p_then (wp_seq ?_)
   refine wp_seq (f_region Z ?_); clear Z; intro Z
   refine s_runk tLinkG Z 3 rfl rfl ?_; clear Z a; intro a Z
   refine g_ob Z (p := (!(n0.2 != 0))) (v := .int .i64 n0_3.2) (S' := [(4, .int .i64 n0_3.2)]) rfl rfl rfl (wantB_f _) rfl (by decide) (fun hp hS => hS.sub (ts := [4]) rfl) (fun hp => Ob_c tLinkG rfl) ?_; clear Z a; intro a Z
   refine g_ob Z (p := (!(n0.2 != 0))) (v := .bool (n0_3.2 != 0)) (S' := [(16, .int .i64 n0_3.2)]) rfl rfl rfl (wantB_f _) rfl (by decide) (fun hp hS => (hS.conv (t := 16) rfl (cond_t hp)).sub (ts := [16]) rfl) (fun hp => Ob_c tLinkG rfl) ?_; clear Z a; intro a Z
   refine s_ob Z (v := .bool ((n0.2 != 0) || (n0_3.2 != 0))) rfl rfl (by decide) rfl (Ob_pick rfl rfl rfl rfl (pick_or _ _)) ?_; clear Z a; intro a Z
   refine s_runk tLinkG Z 1 rfl rfl ?_; clear Z a; intro a Z
   refine g_ob Z (p := (!((n0.2 != 0) || (n0_3.2 != 0)))) (v := .pointer (some ⟨b1, 0, none⟩)) (S' := [(1, .pointer (some ⟨b1, 0, none⟩))]) rfl rfl rfl (wantB_f _) rfl (by decide) (fun hp hS => hS.sub (ts := [1]) rfl) (fun hp => Ob_c tLinkG rfl) ?_; clear Z a; intro a Z
   refine g_ob Z (p := (!((n0.2 != 0) || (n0_3.2 != 0)))) (v := .bool false) (S' := [(20, .pointer (some ⟨b1, 0, none⟩))]) rfl rfl rfl (wantB_f _) rfl (by decide) (fun hp hS => (hS.conv (t := 20) rfl (cond_t hp)).sub (ts := [20]) rfl) (fun hp => Ob_pnil rfl rfl rfl Try.underlying23 (.inl ⟨rfl, rfl⟩)) ?_; clear Z a; intro a Z
   refine s_ob Z (v := .bool (((n0.2 != 0) || (n0_3.2 != 0)) || false)) rfl rfl (by decide) rfl (Ob_pick rfl rfl rfl rfl (pick_or _ _)) ?_; clear Z a; intro a Z
   refine s_runk tLinkG Z 1 rfl rfl ?_; clear Z a; intro a Z
   refine g_ob Z (p := (!(((n0.2 != 0) || (n0_3.2 != 0)) || false))) (v := .pointer none) (S' := [(3, .pointer none)]) rfl rfl rfl (wantB_f _) rfl (by decide) (fun hp hS => hS.sub (ts := [3]) rfl) (fun hp => Ob_c tLinkG rfl) ?_; clear Z a; intro a Z
   refine g_ob Z (p := (!(((n0.2 != 0) || (n0_3.2 != 0)) || false))) (v := .bool true) (S' := [(24, .pointer none)]) rfl rfl rfl (wantB_f _) rfl (by decide) (fun hp hS => (hS.conv (t := 24) rfl (cond_t hp)).sub (ts := [24]) rfl) (fun hp => Ob_pnil rfl rfl rfl Try.underlying23 (.inl ⟨rfl, rfl⟩)) ?_; clear Z a; intro a Z
   refine s_ob Z (v := .bool true) rfl rfl (by decide) rfl (Ob_pick rfl rfl rfl rfl (pick_or1 _)) ?_; clear Z a; intro a Z
   refine s_end Z [0, 1, 3, 26] rfl ?_; clear Z; intro Z
   refine p_then ?_
   refine wp_cond_true (Z.ev rfl) ?_
   refine wp_seq (f_region Z ?_); clear Z; intro Z
   refine s_runk tLinkG Z 1 rfl rfl ?_; clear Z a; intro a Z
   refine s_end Z [0, 1, 3] rfl ?_; clear Z; intro Z
   refine p_then (wp_ret ?_)
   refine p_then_r ?_
   replace H : Hf I D w I3 w3 [PtC OElaw22_pair (.pointer none) none, OElink_Link b1 x] := H.mkN OElaw22_pair
   obtain rfl := some_in hF
   exact f_ret Z (run_results1 rfl Z rfl) ⟨.pointer none, rfl, I3, (H.sub [(0, false)] rfl).eq rfl⟩
  ·obtain ⟨b3, hv, H⟩ := H.optS 0 rfl ho3
   subst hv
   replace H : Hf I D w I3 w3 [OElink_Link b3 x_3, OElink_Link b1 x] := H
   refine p_then (wp_seq ?_)
   refine wp_seq (f_region Z ?_); clear Z; intro Z
   refine s_runk tLinkG Z 3 rfl rfl ?_; clear Z a; intro a Z
   refine g_ob Z (p := (!(n0.2 != 0))) (v := .int .i64 n0_3.2) (S' := [(4, .int .i64 n0_3.2)]) rfl rfl rfl (wantB_f _) rfl (by decide) (fun hp hS => hS.sub (ts := [4]) rfl) (fun hp => Ob_c tLinkG rfl) ?_; clear Z a; intro a Z
   refine g_ob Z (p := (!(n0.2 != 0))) (v := .bool (n0_3.2 != 0)) (S' := [(16, .int .i64 n0_3.2)]) rfl rfl rfl (wantB_f _) rfl (by decide) (fun hp hS => (hS.conv (t := 16) rfl (cond_t hp)).sub (ts := [16]) rfl) (fun hp => Ob_c tLinkG rfl) ?_; clear Z a; intro a Z
   refine s_ob Z (v := .bool ((n0.2 != 0) || (n0_3.2 != 0))) rfl rfl (by decide) rfl (Ob_pick rfl rfl rfl rfl (pick_or _ _)) ?_; clear Z a; intro a Z
   refine s_runk tLinkG Z 1 rfl rfl ?_; clear Z a; intro a Z
   refine g_ob Z (p := (!((n0.2 != 0) || (n0_3.2 != 0)))) (v := .pointer (some ⟨b1, 0, none⟩)) (S' := [(1, .pointer (some ⟨b1, 0, none⟩))]) rfl rfl rfl (wantB_f _) rfl (by decide) (fun hp hS => hS.sub (ts := [1]) rfl) (fun hp => Ob_c tLinkG rfl) ?_; clear Z a; intro a Z
   refine g_ob Z (p := (!((n0.2 != 0) || (n0_3.2 != 0)))) (v := .bool false) (S' := [(20, .pointer (some ⟨b1, 0, none⟩))]) rfl rfl rfl (wantB_f _) rfl (by decide) (fun hp hS => (hS.conv (t := 20) rfl (cond_t hp)).sub (ts := [20]) rfl) (fun hp => Ob_pnil rfl rfl rfl Try.underlying23 (.inl ⟨rfl, rfl⟩)) ?_; clear Z a; intro a Z
   refine s_ob Z (v := .bool (((n0.2 != 0) || (n0_3.2 != 0)) || false)) rfl rfl (by decide) rfl (Ob_pick rfl rfl rfl rfl (pick_or _ _)) ?_; clear Z a; intro a Z
   refine s_runk tLinkG Z 1 rfl rfl ?_; clear Z a; intro a Z
   refine g_ob Z (p := (!(((n0.2 != 0) || (n0_3.2 != 0)) || false))) (v := .pointer (some ⟨b3, 0, none⟩)) (S' := [(3, .pointer (some ⟨b3, 0, none⟩))]) rfl rfl rfl (wantB_f _) rfl (by decide) (fun hp hS => hS.sub (ts := [3]) rfl) (fun hp => Ob_c tLinkG rfl) ?_; clear Z a; intro a Z
   refine g_ob Z (p := (!(((n0.2 != 0) || (n0_3.2 != 0)) || false))) (v := .bool false) (S' := [(24, .pointer (some ⟨b3, 0, none⟩))]) rfl rfl rfl (wantB_f _) rfl (by decide) (fun hp hS => (hS.conv (t := 24) rfl (cond_t hp)).sub (ts := [24]) rfl) (fun hp => Ob_pnil rfl rfl rfl Try.underlying23 (.inl ⟨rfl, rfl⟩)) ?_; clear Z a; intro a Z
   refine s_ob Z (v := .bool ((((n0.2 != 0) || (n0_3.2 != 0)) || false) || false)) rfl rfl (by decide) rfl (Ob_pick rfl rfl rfl rfl (pick_or _ _)) ?_; clear Z a; intro a Z
   refine s_end Z [0, 1, 3, 26] rfl ?_; clear Z; intro Z
   refine p_then ?_
   refine f_cond Z rfl (fun hc1 => ?_) (fun hc1 => ?_)
   ·replace hF := ite_t hc1 hF
    refine wp_seq (f_region Z ?_); clear Z; intro Z
    refine s_runk tLinkG Z 1 rfl rfl ?_; clear Z a; intro a Z
    refine s_end Z [0, 1, 3] rfl ?_; clear Z; intro Z
    refine p_then (wp_ret ?_)
    refine p_then_r ?_
    replace H : Hf I D w I3 w3 [PtC OElaw22_pair (.pointer none) none, OElink_Link b3 x_3, OElink_Link b1 x] := H.mkN OElaw22_pair
    obtain rfl := some_in hF
    exact f_ret Z (run_results1 rfl Z rfl) ⟨.pointer none, rfl, I3, (H.sub [(0, false)] rfl).eq rfl⟩
   ·replace hF := ite_f hc1 hF
    refine wp_skip ?_
    refine p_then (wp_seq (f_region Z ?_)); clear Z; intro Z
    refine s_runk tLinkG Z 2 rfl rfl ?_; clear Z a; intro a Z
    refine s_ob Z (v := .agg #[.pointer (some ⟨b1, 0, none⟩), .pointer (some ⟨b3, 0, none⟩)]) rfl rfl (by decide) rfl (Ob_build (vs := [(0, .pointer (some ⟨b1, 0, none⟩)), (1, .pointer (some ⟨b3, 0, none⟩))]) rfl rfl (by go_simp <;> rfl)) ?_; clear Z a; intro a Z
    refine s_ob Z (v := .agg #[.int .i64 1, .int .i64 1]) rfl rfl (by decide) rfl (Ob_build (vs := [(0, .int .i64 1), (1, .int .i64 1)]) rfl rfl (by go_simp <;> rfl)) ?_; clear Z a; intro a Z
    refine s_ob Z (v := .agg #[.pointer (some ⟨b1, 0, none⟩), .pointer (some ⟨b3, 0, none⟩), .int .i64 1, .int .i64 1, .slice none 0 0, .slice none 0 0, .int .i64 0, .int .i64 0, .int .i64 0, .int .i64 0, .bool true]) rfl rfl (by decide) rfl (Ob_build (vs := [(0, .agg #[.pointer (some ⟨b1, 0, none⟩), .pointer (some ⟨b3, 0, none⟩)]), (1, .agg #[.int .i64 1, .int .i64 1]), (6, .bool true)]) rfl rfl (by go_simp <;> rfl)) ?_; clear Z a; intro a Z
    refine h_boxv Z H (cl := [.pointer (some ⟨b1, 0, none⟩), .pointer (some ⟨b3, 0, none⟩), .int .i64 1, .int .i64 1, .slice none 0 0, .slice none 0 0, .int .i64 0, .int .i64 0, .int .i64 0, .int .i64 0, .bool true]) rfl rfl rfl (by decide) rfl rfl rfl ?_; clear Z a H; intro a w4 b4 H Z
    refine s_runk tLinkG Z 1 rfl rfl ?_; clear Z a; intro a Z
    refine s_end Z [0] rfl ?_; clear Z; intro Z
    refine p_then (wp_ret ?_)
    replace H : Hf I D w I3 w4 [PtC OElink_Link (.pointer (some ⟨b1, 0, none⟩)) (some x), BxC b4 60 [.pointer (some ⟨b1, 0, none⟩), .pointer (some ⟨b3, 0, none⟩), .int .i64 1, .int .i64 1, .slice none 0 0, .slice none 0 0, .int .i64 0, .int .i64 0, .int .i64 0, .int .i64 0, .bool true], OElink_Link b3 x_3] := H.mkS (K := OElink_Link) 2 rfl
    replace H : Hf I D w I3 w4 [PtC OElink_Link (.pointer (some ⟨b3, 0, none⟩)) (some x_3), PtC OElink_Link (.pointer (some ⟨b1, 0, none⟩)) (some x), BxC b4 60 [.pointer (some ⟨b1, 0, none⟩), .pointer (some ⟨b3, 0, none⟩), .int .i64 1, .int .i64 1, .slice none 0 0, .slice none 0 0, .int .i64 0, .int .i64 0, .int .i64 0, .int .i64 0, .bool true]] := H.mkS (K := OElink_Link) 2 rfl
    replace H : Hf I D w I3 w4 [OwC NESeg 31 (.slice none 0 0) ([] : List ESeg), PtC OElink_Link (.pointer (some ⟨b3, 0, none⟩)) (some x_3), PtC OElink_Link (.pointer (some ⟨b1, 0, none⟩)) (some x), BxC b4 60 [.pointer (some ⟨b1, 0, none⟩), .pointer (some ⟨b3, 0, none⟩), .int .i64 1, .int .i64 1, .slice none 0 0, .slice none 0 0, .int .i64 0, .int .i64 0, .int .i64 0, .int .i64 0, .bool true]] := H.nilow NESeg 31
    replace H : Hf I D w I3 w4 [OwC Ni64 3 (.slice none 0 0) ([] : List Int), OwC NESeg 31 (.slice none 0 0) ([] : List ESeg), PtC OElink_Link (.pointer (some ⟨b3, 0, none⟩)) (some x_3), PtC OElink_Link (.pointer (some ⟨b1, 0, none⟩)) (some x), BxC b4 60 [.pointer (some ⟨b1, 0, none⟩), .pointer (some ⟨b3, 0, none⟩), .int .i64 1, .int .i64 1, .slice none 0 0, .slice none 0 0, .int .i64 0, .int .i64 0, .int .i64 0, .int .i64 0, .bool true]] := H.nilow Ni64 3
    replace H : Hf I D w I3 w4 [OElaw22_pair b4 ({ (default : Elaw22_pair) with l := [some x, some x_3], boot := [1, 1], sent := [0, 0], told := [0, 0], ok := true } : Elaw22_pair)] := H.shutX (.pointer (some ⟨b1, 0, none⟩), .pointer (some ⟨b3, 0, none⟩), .slice none 0 0, .slice none 0 0) [(4, false), (3, false), (2, false), (1, false), (0, false)] rfl
    replace H : Hf I D w I3 w4 [PtC OElaw22_pair (.pointer (some ⟨b4, 0, none⟩)) (some ({ (default : Elaw22_pair) with l := [some x, some x_3], boot := [1, 1], sent := [0, 0], told := [0, 0], ok := true } : Elaw22_pair))] := H.mkS (K := OElaw22_pair) 0 rfl
    obtain rfl := some_in hF
    exact f_ret Z (run_results1 rfl Z rfl) ⟨.pointer (some ⟨b4, 0, none⟩), rfl, I3, (H.sub [(0, false)] rfl).eq rfl⟩

def F_law22_pair_come_l1 (p : Elaw22_pair) (i : Int) (n0 : (List ByteArray) × Int) (rc : (Int × Elaw22_pair) → Option Elaw22_pair) (sg : Int × Elaw22_pair) : Option Elaw22_pair := match sg with | (k, p_2) => if ((decide (k < (n0.1.length : Int))) && (decide (k < 2))) = true then (chk ((0 : Int) ≤ k ∧ k < (n0.1.length : Int)) ((F_law22_numbered (n0.1.getD (k).toNat default)).bind fun n0_2 => (if ((1 - (p.to_.getD (i).toNat default)) == 0) = true then (chk ((p_2.ok && (decide (n0_2 > (p_2.told.getD 0 0)))) = true → inI (1 - (p.to_.getD (i).toNat default))) (chk (inI (k + 1)) (rc (k + 1, ({ p_2 with told := [n0_2, (p_2.told.getD 1 0)], ok := (p_2.ok && (decide (n0_2 > (p_2.told.getD 0 0)))) && (decide (n0_2 ≤ (p_2.sent.getD 0 0))) } : Elaw22_pair))))) else if ((1 - (p.to_.getD (i).toNat default)) == 1) = true then (chk ((p_2.ok && (decide (n0_2 > (p_2.told.getD 0 0)))) = true → inI (1 - (p.to_.getD (i).toNat default))) (chk (inI (k + 1)) (rc (k + 1, ({ p_2 with told := [n0_2, (p_2.told.getD 1 0)], ok := (p_2.ok && (decide (n0_2 > (p_2.told.getD 0 0)))) && (decide (n0_2 ≤ (p_2.sent.getD 1 0))) } : Elaw22_pair))))) else none))) else (some p_2)

def F_law22_pair_come_l2 (p : Elaw22_pair) (i : Int) (i_2 : (List ByteArray) × Int × Elink_Link) (rc_2 : (Int × Elaw22_pair) → Option Elaw22_pair) (sg : Int × Elaw22_pair) : Option Elaw22_pair := match sg with | (k_2, p_3) => if ((decide (k_2 < (i_2.1.length : Int))) && (decide (k_2 < 2))) = true then (chk ((0 : Int) ≤ k_2 ∧ k_2 < (i_2.1.length : Int)) ((F_law22_numbered (i_2.1.getD (k_2).toNat default)).bind fun n0_3 => (if ((1 - (p.to_.getD (i).toNat default)) == 0) = true then (chk ((p_3.ok && (decide (n0_3 > (p_3.told.getD 0 0)))) = true → inI (1 - (p.to_.getD (i).toNat default))) (chk (inI (k_2 + 1)) (rc_2 (k_2 + 1, ({ p_3 with told := [n0_3, (p_3.told.getD 1 0)], ok := (p_3.ok && (decide (n0_3 > (p_3.told.getD 0 0)))) && (decide (n0_3 ≤ (p_3.sent.getD 0 0))) } : Elaw22_pair))))) else if ((1 - (p.to_.getD (i).toNat default)) == 1) = true then (chk ((p_3.ok && (decide (n0_3 > (p_3.told.getD 0 0)))) = true → inI (1 - (p.to_.getD (i).toNat default))) (chk (inI (k_2 + 1)) (rc_2 (k_2 + 1, ({ p_3 with told := [n0_3, (p_3.told.getD 1 0)], ok := (p_3.ok && (decide (n0_3 > (p_3.told.getD 0 0)))) && (decide (n0_3 ≤ (p_3.sent.getD 1 0))) } : Elaw22_pair))))) else none))) else (some p_3)

def F_law22_pair_come_l3 (p : Elaw22_pair) (i : Int) (n0_4 : (List ByteArray) × Int) (rc_3 : (Int × Elaw22_pair) → Option Elaw22_pair) (sg : Int × Elaw22_pair) : Option Elaw22_pair := match sg with | (k_3, p_4) => if ((decide (k_3 < (n0_4.1.length : Int))) && (decide (k_3 < 2))) = true then (chk ((0 : Int) ≤ k_3 ∧ k_3 < (n0_4.1.length : Int)) ((F_law22_numbered (n0_4.1.getD (k_3).toNat default)).bind fun n0_5 => (if ((1 - (p.to_.getD (i).toNat default)) == 0) = true then (chk ((p_4.ok && (decide (n0_5 > (p_4.told.getD 1 0)))) = true → inI (1 - (p.to_.getD (i).toNat default))) (chk (inI (k_3 + 1)) (rc_3 (k_3 + 1, ({ p_4 with told := [(p_4.told.getD 0 0), n0_5], ok := (p_4.ok && (decide (n0_5 > (p_4.told.getD 1 0)))) && (decide (n0_5 ≤ (p_4.sent.getD 0 0))) } : Elaw22_pair))))) else if ((1 - (p.to_.getD (i).toNat default)) == 1) = true then (chk ((p_4.ok && (decide (n0_5 > (p_4.told.getD 1 0)))) = true → inI (1 - (p.to_.getD (i).toNat default))) (chk (inI (k_3 + 1)) (rc_3 (k_3 + 1, ({ p_4 with told := [(p_4.told.getD 0 0), n0_5], ok := (p_4.ok && (decide (n0_5 > (p_4.told.getD 1 0)))) && (decide (n0_5 ≤ (p_4.sent.getD 1 0))) } : Elaw22_pair))))) else none))) else (some p_4)

def F_law22_pair_come_l4 (p : Elaw22_pair) (i : Int) (i_3 : (List ByteArray) × Int × Elink_Link) (rc_4 : (Int × Elaw22_pair) → Option Elaw22_pair) (sg : Int × Elaw22_pair) : Option Elaw22_pair := match sg with | (k_4, p_5) => if ((decide (k_4 < (i_3.1.length : Int))) && (decide (k_4 < 2))) = true then (chk ((0 : Int) ≤ k_4 ∧ k_4 < (i_3.1.length : Int)) ((F_law22_numbered (i_3.1.getD (k_4).toNat default)).bind fun n0_6 => (if ((1 - (p.to_.getD (i).toNat default)) == 0) = true then (chk ((p_5.ok && (decide (n0_6 > (p_5.told.getD 1 0)))) = true → inI (1 - (p.to_.getD (i).toNat default))) (chk (inI (k_4 + 1)) (rc_4 (k_4 + 1, ({ p_5 with told := [(p_5.told.getD 0 0), n0_6], ok := (p_5.ok && (decide (n0_6 > (p_5.told.getD 1 0)))) && (decide (n0_6 ≤ (p_5.sent.getD 0 0))) } : Elaw22_pair))))) else if ((1 - (p.to_.getD (i).toNat default)) == 1) = true then (chk ((p_5.ok && (decide (n0_6 > (p_5.told.getD 1 0)))) = true → inI (1 - (p.to_.getD (i).toNat default))) (chk (inI (k_4 + 1)) (rc_4 (k_4 + 1, ({ p_5 with told := [(p_5.told.getD 0 0), n0_6], ok := (p_5.ok && (decide (n0_6 > (p_5.told.getD 1 0)))) && (decide (n0_6 ≤ (p_5.sent.getD 1 0))) } : Elaw22_pair))))) else none))) else (some p_5)

def F_law22_pair_come (p : Elaw22_pair) (i : Int) : Option Elaw22_pair := chk ((0 : Int) ≤ i ∧ i < (p.to_.length : Int)) (if ((p.to_.getD (i).toNat default) == 0) = true then (optE (p.l.getD 0 none) (chk ((0 : Int) ≤ i ∧ i < (p.way.length : Int)) ((F_link_Link_In_nil (p.way.getD (i).toNat default)).bind fun n0 => (iter (F_law22_pair_come_l1 p i n0) FU (0, ({ p with l := [none, (p.l.getD 1 none)], ok := (p.ok && (n0.2 == 0)) && (decide ((n0.1.length : Int) ≤ 1)) } : Elaw22_pair))))) (fun x => chk ((0 : Int) ≤ i ∧ i < (p.way.length : Int)) ((F_link_Link_In x (p.way.getD (i).toNat default)).bind fun i_2 => (iter (F_law22_pair_come_l2 p i i_2) FU (0, ({ p with l := [some i_2.2.2, (p.l.getD 1 none)], ok := (p.ok && (i_2.2.1 == 0)) && (decide ((i_2.1.length : Int) ≤ 1)) } : Elaw22_pair)))))) else if ((p.to_.getD (i).toNat default) == 1) = true then (optE (p.l.getD 1 none) (chk ((0 : Int) ≤ i ∧ i < (p.way.length : Int)) ((F_link_Link_In_nil (p.way.getD (i).toNat default)).bind fun n0_4 => (iter (F_law22_pair_come_l3 p i n0_4) FU (0, ({ p with l := [(p.l.getD 0 none), none], ok := (p.ok && (n0_4.2 == 0)) && (decide ((n0_4.1.length : Int) ≤ 1)) } : Elaw22_pair))))) (fun x_2 => chk ((0 : Int) ≤ i ∧ i < (p.way.length : Int)) ((F_link_Link_In x_2 (p.way.getD (i).toNat default)).bind fun i_3 => (iter (F_law22_pair_come_l4 p i i_3) FU (0, ({ p with l := [(p.l.getD 0 none), some i_3.2.2], ok := (p.ok && (i_3.2.1 == 0)) && (decide ((i_3.1.length : Int) ≤ 1)) } : Elaw22_pair)))))) else none)

set_option maxHeartbeats 1000000 in
theorem c_law22_pair_come {I D : Dm} {b_p : Nat} {p : Elaw22_pair} {i : Int} {w : World} {rr : Elaw22_pair} (hF : F_law22_pair_come p i = some rr) (H : St I D w [OElaw22_pair b_p p]) :
  Calls Try.prog 24 #[.pointer (some ⟨b_p, 0, none⟩), .int .i64 i] w (Ret fun vv w' => vv = .tuple #[] ∧ ∃ I', Hf I D w I' w' [OElaw22_pair b_p rr]) := by
 replace H := H.hf
 unfold F_law22_pair_come at hF
 refine f_enter 98 Try.func24 rfl rfl (Nat.le_of_ble_eq_true rfl) fun a Z => ?_
 replace Z := Z.sub (ts := [0, 1]) rfl
 refine wp_seq ?_
 obtain ⟨hg1, hF⟩ := chk_in hF
 refine f_region Z ?_; clear Z; intro Z
 refine s_runk tLinkG Z 3 rfl rfl ?_; clear Z a; intro a Z
 obtain ⟨⟨v1, v2, v3, v4⟩, H⟩ := H.openX 0 rfl
 replace H : Hf I D w I w [BxC b_p 60 [v1, v2, .int .i64 (p.boot.getD 0 0), .int .i64 (p.boot.getD 1 0), v3, v4, .int .i64 (p.sent.getD 0 0), .int .i64 (p.sent.getD 1 0), .int .i64 (p.told.getD 0 0), .int .i64 (p.told.getD 1 0), .bool p.ok], PtC OElink_Link v1 (p.l.getD 0 none), PtC OElink_Link v2 (p.l.getD 1 none), OwC NESeg 31 v3 p.way, OwC Ni64 3 v4 p.to_] := H
 refine s_ob Z (v := v4) rfl rfl (by decide) rfl (Ob_load tLinkG rfl rfl rfl ((H.bx 0 rfl).cell 5 rfl)) ?_; clear Z a; intro a Z
 refine s_runk tLinkG Z 1 rfl rfl ?_; clear Z a; intro a Z
 refine s_ob Z (v := .pointer (some ⟨blkOf v4, oofOf v4 + (i).toNat * 1, none⟩)) rfl rfl (by decide) rfl (Ob_sidx tLinkG rfl rfl rfl rfl (slPl (H.owA 4 rfl) hg1) hg1) ?_; clear Z a; intro a Z
 refine s_ob Z (v := .int .i64 (p.to_.getD (i).toNat default)) rfl rfl (by decide) rfl (Ob_load tLinkG rfl rfl rfl ((slFl (H.owA 4 rfl) hg1) 0 _ rfl)) ?_; clear Z a; intro a Z
 refine s_runk tLinkG Z 1 rfl rfl ?_; clear Z a; intro a Z
 refine s_end Z [0, 1, 4] rfl ?_; clear Z; intro Z
 refine p_then (wp_seq ?_)
 refine bsplit ((p.to_.getD (i).toNat default) == 0) (fun hi1 => ?_) (fun hi1 => ?_)
 ·replace hF := ite_t hi1 hF
  rcases optE_in hF with ⟨ho1, hF⟩ | ⟨x, ho1, hF⟩
  ·obtain ⟨hv, H⟩ := H.optN 1 rfl ho1
   subst hv
   replace H : Hf I D w I w [BxC b_p 60 [.pointer none, v2, .int .i64 (p.boot.getD 0 0), .int .i64 (p.boot.getD 1 0), v3, v4, .int .i64 (p.sent.getD 0 0), .int .i64 (p.sent.getD 1 0), .int .i64 (p.told.getD 0 0), .int .i64 (p.told.getD 1 0), .bool p.ok], PtC OElink_Link v2 (p.l.getD 1 none), OwC NESeg 31 v3 p.way, OwC Ni64 3 v4 p.to_] := H
   obtain ⟨hg2, hF⟩ := chk_in hF
   obtain ⟨n0, hx1, hF⟩ := bnd_in hF
   refine f_regionM Z (by kernel_rfl) (by kernel_rfl) (by decide) (by decide) [13] [(0, 0, 0), (0, 0, 0), (1, 0, 0), (5, 0, 0), (15, 0, 0), (31, 0, 0), (0, 0, 0), (64, 0, 0), (192, 0, 0), (448, 0, 0), (0, 0, 0), (1984, 0, 0), (4032, 0, 0), (8191, 0, 0), (16383, 1, 1), (32767, 1, 1), (32767, 1, 1), (65535, 1, 1), (262143, 1, 1)] (by kernel_rfl) (fun jj => match jj with | 14 => 13 | 15 => 13 | 17 => 13 | _ => jj) (by kernel_rfl) (fun jj rv vv => cond (Nat.blt jj 9) (cond (Nat.blt jj 4) (cond (Nat.blt jj 2) (cond (Nat.blt jj 1) (vv = .pointer (some ⟨b_p, 0, none⟩)) (vv = .int .i64 (p.to_.getD (i).toNat default))) (cond (Nat.blt jj 3) (vv = .pointer (some ⟨b_p, 0, none⟩)) (vv = .pointer (some ⟨b_p, 0, none⟩)))) (cond (Nat.blt jj 6) (cond (Nat.blt jj 5) (vv = .pointer (some ⟨b_p, 0, none⟩)) (vv = .pointer none)) (cond (Nat.blt jj 7) (vv = .pointer (some ⟨b_p, 0, none⟩)) (cond (Nat.blt jj 8) (vv = .pointer (some ⟨b_p, 0, none⟩)) (vv = .pointer (some ⟨b_p, 4, none⟩)))))) (cond (Nat.blt jj 14) (cond (Nat.blt jj 11) (cond (Nat.blt jj 10) (vv = v3) (vv = .int .i64 i)) (cond (Nat.blt jj 12) (vv = .pointer (some ⟨blkOf v3, oofOf v3 + (i).toNat * 8, none⟩)) (cond (Nat.blt jj 13) (vv = .agg #[.int .i64 ((p.way.getD (i).toNat default).boot), .int .i64 ((p.way.getD (i).toNat default).stream), .int .i64 ((p.way.getD (i).toNat default).seq), .int .i64 ((p.way.getD (i).toNat default).ackBoot), .int .i64 ((p.way.getD (i).toNat default).ackStream), .int .i64 ((p.way.getD (i).toNat default).ackSeq), .bool ((p.way.getD (i).toNat default).has), .string ((p.way.getD (i).toNat default).body)]) (vv = .tuple #[(tupAt vv 0), .int .i64 n0.2])))) (cond (Nat.blt jj 16) (cond (Nat.blt jj 15) (vv = .tuple #[(tupAt rv 0), .int .i64 n0.2]) (vv = (tupAt rv 0))) (cond (Nat.blt jj 17) (vv = .int .i64 n0.2) (cond (Nat.blt jj 18) (vv = (tupAt rv 0)) (vv = .int .i64 n0.2)))))) (fun ss vals1 xw => match ss with | 0 => Gx I D w I w xw [BxC b_p 60 [.pointer none, v2, .int .i64 (p.boot.getD 0 0), .int .i64 (p.boot.getD 1 0), v3, v4, .int .i64 (p.sent.getD 0 0), .int .i64 (p.sent.getD 1 0), .int .i64 (p.told.getD 0 0), .int .i64 (p.told.getD 1 0), .bool p.ok], PtC OElink_Link v2 (p.l.getD 1 none), OwC NESeg 31 v3 p.way, OwC Ni64 3 v4 p.to_] | _ => Gx I D w I w xw [SlC NS (tupAt (vals1 13) 0) n0.1, BxC b_p 60 [.pointer none, v2, .int .i64 (p.boot.getD 0 0), .int .i64 (p.boot.getD 1 0), v3, v4, .int .i64 (p.sent.getD 0 0), .int .i64 (p.sent.getD 1 0), .int .i64 (p.told.getD 0 0), .int .i64 (p.told.getD 1 0), .bool p.ok], PtC OElink_Link v2 (p.l.getD 1 none), OwC NESeg 31 v3 p.way, OwC Ni64 3 v4 p.to_]) (fun _ => Gx.start H) ?_ ?_
   ·intro fr hfr hfe
    refine .cons (fun ss hlo hhi vals1 xw hG hV => ?_) ?_
    ·obtain rfl : ss = 0 := Nat.le_antisymm hhi hlo
     rw [← hfe]
     have hS := (hfr vals1).sub (ts := [0]) (S' := [(0, .pointer (some ⟨b_p, 0, none⟩))]) rfl
     exact L_val hS rfl (Ob_c tLinkG rfl) ⟨rfl, hG⟩
    refine .cons (fun ss hlo hhi vals1 xw hG hV => ?_) ?_
    ·obtain rfl : ss = 0 := Nat.le_antisymm hhi hlo
     rw [← hfe]
     have hS := (hfr vals1).sub (ts := [4]) (S' := [(4, .int .i64 (p.to_.getD (i).toNat default))]) rfl
     exact L_val hS rfl (Ob_c tLinkG rfl) ⟨rfl, hG⟩
    refine .cons (fun ss hlo hhi vals1 xw hG hV => ?_) ?_
    ·obtain rfl : ss = 0 := Nat.le_antisymm hhi hlo
     rw [← hfe]
     have hS := (hfr vals1).sub (ts := [17]) (S' := [(17, vals1 0)]) rfl
     replace hS := hS.conv (t := 17) rfl (show (vals1 0) = .pointer (some ⟨b_p, 0, none⟩) from hV 0 (by decide))
     exact L_val hS rfl (Ob_c tLinkG rfl) ⟨rfl, hG⟩
    refine .cons (fun ss hlo hhi vals1 xw hG hV => ?_) ?_
    ·obtain rfl : ss = 0 := Nat.le_antisymm hhi hlo
     rw [← hfe]
     have hS := (hfr vals1).sub (ts := [19]) (S' := [(19, vals1 2)]) rfl
     replace hS := hS.conv (t := 19) rfl (show (vals1 2) = .pointer (some ⟨b_p, 0, none⟩) from hV 2 (by decide))
     exact L_val hS rfl (Ob_c tLinkG rfl) ⟨rfl, hG⟩
    refine .cons (fun ss hlo hhi vals1 xw hG hV => ?_) ?_
    ·obtain rfl : ss = 0 := Nat.le_antisymm hhi hlo
     rw [← hfe]
     have hS := (hfr vals1).sub (ts := [20, 18]) (S' := [(20, vals1 3), (18, vals1 1)]) rfl
     replace hS := hS.conv (t := 20) rfl (show (vals1 3) = .pointer (some ⟨b_p, 0, none⟩) from hV 3 (by decide))
     replace hS := hS.conv (t := 18) rfl (show (vals1 1) = .int .i64 (p.to_.getD (i).toNat default) from hV 1 (by decide))
     exact L_val hS rfl (Ob_apix (m := 1) 0 rfl rfl rfl Try.underlying56 (by kernel_rfl) (eq_of_beq hi1) (by decide)) ⟨rfl, hG⟩
    refine .cons (fun ss hlo hhi vals1 xw hG hV => ?_) ?_
    ·obtain rfl : ss = 0 := Nat.le_antisymm hhi hlo
     rw [← hfe]
     have hS := (hfr vals1).sub (ts := [21]) (S' := [(21, vals1 4)]) rfl
     replace hS := hS.conv (t := 21) rfl (show (vals1 4) = .pointer (some ⟨b_p, 0, none⟩) from hV 4 (by decide))
     obtain ⟨I2, hI2, H⟩ := Gx.ex hG
     exact L_val hS rfl (Ob_load tLinkG rfl rfl rfl ((H.bx 0 rfl).cell 0 rfl)) ⟨rfl, hG⟩
    refine .cons (fun ss hlo hhi vals1 xw hG hV => ?_) ?_
    ·obtain rfl : ss = 0 := Nat.le_antisymm hhi hlo
     rw [← hfe]
     have hS := (hfr vals1).sub (ts := [0]) (S' := [(0, .pointer (some ⟨b_p, 0, none⟩))]) rfl
     exact L_val hS rfl (Ob_c tLinkG rfl) ⟨rfl, hG⟩
    refine .cons (fun ss hlo hhi vals1 xw hG hV => ?_) ?_
    ·obtain rfl : ss = 0 := Nat.le_antisymm hhi hlo
     rw [← hfe]
     have hS := (hfr vals1).sub (ts := [23]) (S' := [(23, vals1 6)]) rfl
     replace hS := hS.conv (t := 23) rfl (show (vals1 6) = .pointer (some ⟨b_p, 0, none⟩) from hV 6 (by decide))
     exact L_val hS rfl (Ob_c tLinkG rfl) ⟨rfl, hG⟩
    refine .cons (fun ss hlo hhi vals1 xw hG hV => ?_) ?_
    ·obtain rfl : ss = 0 := Nat.le_antisymm hhi hlo
     rw [← hfe]
     have hS := (hfr vals1).sub (ts := [24]) (S' := [(24, vals1 7)]) rfl
     replace hS := hS.conv (t := 24) rfl (show (vals1 7) = .pointer (some ⟨b_p, 0, none⟩) from hV 7 (by decide))
     exact L_val hS rfl (Ob_c tLinkG rfl) ⟨rfl, hG⟩
    refine .cons (fun ss hlo hhi vals1 xw hG hV => ?_) ?_
    ·obtain rfl : ss = 0 := Nat.le_antisymm hhi hlo
     rw [← hfe]
     have hS := (hfr vals1).sub (ts := [25]) (S' := [(25, vals1 8)]) rfl
     replace hS := hS.conv (t := 25) rfl (show (vals1 8) = .pointer (some ⟨b_p, 4, none⟩) from hV 8 (by decide))
     obtain ⟨I2, hI2, H⟩ := Gx.ex hG
     exact L_val hS rfl (Ob_load tLinkG rfl rfl rfl ((H.bx 0 rfl).cell 4 rfl)) ⟨rfl, hG⟩
    refine .cons (fun ss hlo hhi vals1 xw hG hV => ?_) ?_
    ·obtain rfl : ss = 0 := Nat.le_antisymm hhi hlo
     rw [← hfe]
     have hS := (hfr vals1).sub (ts := [1]) (S' := [(1, .int .i64 i)]) rfl
     exact L_val hS rfl (Ob_c tLinkG rfl) ⟨rfl, hG⟩
    refine .cons (fun ss hlo hhi vals1 xw hG hV => ?_) ?_
    ·obtain rfl : ss = 0 := Nat.le_antisymm hhi hlo
     rw [← hfe]
     have hS := (hfr vals1).sub (ts := [26, 27]) (S' := [(26, vals1 9), (27, vals1 10)]) rfl
     replace hS := hS.conv (t := 26) rfl (show (vals1 9) = v3 from hV 9 (by decide))
     replace hS := hS.conv (t := 27) rfl (show (vals1 10) = .int .i64 i from hV 10 (by decide))
     obtain ⟨I2, hI2, H⟩ := Gx.ex hG
     exact L_val hS rfl (Ob_sidx tLinkG rfl rfl rfl rfl (slPl (H.owA 2 rfl) hg2) hg2) ⟨rfl, hG⟩
    refine .cons (fun ss hlo hhi vals1 xw hG hV => ?_) ?_
    ·obtain rfl : ss = 0 := Nat.le_antisymm hhi hlo
     rw [← hfe]
     have hS := (hfr vals1).sub (ts := [28]) (S' := [(28, vals1 11)]) rfl
     replace hS := hS.conv (t := 28) rfl (show (vals1 11) = .pointer (some ⟨blkOf v3, oofOf v3 + (i).toNat * 8, none⟩) from hV 11 (by decide))
     obtain ⟨I2, hI2, H⟩ := Gx.ex hG
     exact L_val hS rfl (Ob_loads tLinkG rfl rfl rfl ((slFl (H.owA 2 rfl) hg2).part 0 rfl)) ⟨rfl, hG⟩
    refine .cons (fun ss hlo hhi vals1 xw hG hV => ?_) ?_
    ·obtain rfl : ss = 0 := Nat.le_antisymm hhi hlo
     rw [← hfe]
     have hS := (hfr vals1).sub (ts := [22, 29]) (S' := [(22, vals1 5), (29, vals1 12)]) rfl
     replace hS := hS.conv (t := 22) rfl (show (vals1 5) = .pointer none from hV 5 (by decide))
     replace hS := hS.conv (t := 29) rfl (show (vals1 12) = .agg #[.int .i64 ((p.way.getD (i).toNat default).boot), .int .i64 ((p.way.getD (i).toNat default).stream), .int .i64 ((p.way.getD (i).toNat default).seq), .int .i64 ((p.way.getD (i).toNat default).ackBoot), .int .i64 ((p.way.getD (i).toNat default).ackStream), .int .i64 ((p.way.getD (i).toNat default).ackSeq), .bool ((p.way.getD (i).toNat default).has), .string ((p.way.getD (i).toNat default).body)] from hV 12 (by decide))
     obtain ⟨I2, hI2, H⟩ := Gx.ex hG
     refine L_hcall H (js := []) rfl (caps := #[]) hS fn_15_YLinkG rfl rfl rfl rfl rfl (fun D1 hS => have hq := c_link_Link_In_nil hx1 hS; hq) fun _ yw D1 hr hF2 => ?_
     obtain ⟨q0_, rfl, I3, K⟩ := hr
     obtain ⟨hK, H2⟩ := hF2 K
     exact ⟨rfl, Gx.go hG hI2 hK K.imm H2⟩
    refine .cons (fun ss hlo hhi vals1 xw hG hV => ?_) ?_
    ·obtain rfl : ss = 1 := Nat.le_antisymm hhi hlo
     rw [← hfe]
     have hS := (hfr vals1).sub (ts := [30]) (S' := [(30, vals1 13)]) rfl
     replace hS := hS.conv (t := 30) rfl (show (vals1 13) = .tuple #[(tupAt (vals1 13) 0), .int .i64 n0.2] from hV 13 (by decide))
     exact L_val hS rfl (Ob_c tLinkG rfl) ⟨rfl, hG⟩
    refine .cons (fun ss hlo hhi vals1 xw hG hV => ?_) ?_
    ·obtain rfl : ss = 1 := Nat.le_antisymm hhi hlo
     rw [← hfe]
     have hS := (hfr vals1).sub (ts := [16]) (S' := [(16, vals1 14)]) rfl
     replace hS := hS.conv (t := 16) rfl (show (vals1 14) = .tuple #[(tupAt (vals1 13) 0), .int .i64 n0.2] from hV 14 (by decide))
     exact L_val hS rfl (Ob_c tLinkG rfl) ⟨rfl, hG⟩
    refine .cons (fun ss hlo hhi vals1 xw hG hV => ?_) ?_
    ·obtain rfl : ss = 1 := Nat.le_antisymm hhi hlo
     rw [← hfe]
     have hS := (hfr vals1).sub (ts := [16]) (S' := [(16, vals1 14)]) rfl
     replace hS := hS.conv (t := 16) rfl (show (vals1 14) = .tuple #[(tupAt (vals1 13) 0), .int .i64 n0.2] from hV 14 (by decide))
     exact L_val hS rfl (Ob_c tLinkG rfl) ⟨rfl, hG⟩
    refine .cons (fun ss hlo hhi vals1 xw hG hV => ?_) ?_
    ·obtain rfl : ss = 1 := Nat.le_antisymm hhi hlo
     rw [← hfe]
     have hS := (hfr vals1).sub (ts := [31]) (S' := [(31, vals1 15)]) rfl
     replace hS := hS.conv (t := 31) rfl (show (vals1 15) = (tupAt (vals1 13) 0) from hV 15 (by decide))
     exact L_val hS rfl (Ob_c tLinkG rfl) ⟨rfl, hG⟩
    refine .cons (fun ss hlo hhi vals1 xw hG hV => ?_) ?_
    ·obtain rfl : ss = 1 := Nat.le_antisymm hhi hlo
     rw [← hfe]
     have hS := (hfr vals1).sub (ts := [32]) (S' := [(32, vals1 16)]) rfl
     replace hS := hS.conv (t := 32) rfl (show (vals1 16) = .int .i64 n0.2 from hV 16 (by decide))
     exact L_val hS rfl (Ob_c tLinkG rfl) ⟨rfl, hG⟩
    exact .nil
   ·intro vals1 a w1 Z hG hV
    replace Z := Z.sub (ts := [0, 4, 5, 6]) (S' := [(0, .pointer (some ⟨b_p, 0, none⟩)), (4, .int .i64 (p.to_.getD (i).toNat default)), (5, vals1 17), (6, vals1 18)]) rfl
    replace Z := Z.conv (t := 5) rfl (show (vals1 17) = (tupAt (vals1 13) 0) from hV 17 (by decide))
    replace Z := Z.conv (t := 6) rfl (show (vals1 18) = .int .i64 n0.2 from hV 18 (by decide))
    obtain ⟨I1, _, H⟩ := Gx.ex hG
    clear hG hV
    replace Z := Z.sub (ts := [0, 4, 5, 6]) rfl
    replace H : Hf I D w I1 w1 [SlC NS (tupAt (vals1 13) 0) n0.1, BxC b_p 60 [.pointer none, v2, .int .i64 (p.boot.getD 0 0), .int .i64 (p.boot.getD 1 0), v3, v4, .int .i64 (p.sent.getD 0 0), .int .i64 (p.sent.getD 1 0), .int .i64 (p.told.getD 0 0), .int .i64 (p.told.getD 1 0), .bool p.ok], PtC OElink_Link v2 (p.l.getD 1 none), OwC NESeg 31 v3 p.way, OwC Ni64 3 v4 p.to_] := H
    refine p_then (wp_seq (f_region Z ?_)); clear Z; intro Z
    refine s_runk tLinkG Z 4 rfl rfl ?_; clear Z a; intro a Z
    refine s_ob Z (v := .bool p.ok) rfl rfl (by decide) rfl (Ob_load tLinkG rfl rfl rfl ((H.bx 1 rfl).cell 10 rfl)) ?_; clear Z a; intro a Z
    refine s_runk tLinkG Z 1 rfl rfl ?_; clear Z a; intro a Z
    refine g_ob Z (p := p.ok) (v := .int .i64 n0.2) (S' := [(6, .int .i64 n0.2)]) rfl rfl rfl (wantB_t _) rfl (by decide) (fun hp hS => hS.sub (ts := [6]) rfl) (fun hp => Ob_c tLinkG rfl) ?_; clear Z a; intro a Z
    refine g_ob Z (p := p.ok) (v := .bool (n0.2 == 0)) (S' := [(39, .int .i64 n0.2)]) rfl rfl rfl (wantB_t _) rfl (by decide) (fun hp hS => (hS.conv (t := 39) rfl (cond_t hp)).sub (ts := [39]) rfl) (fun hp => Ob_c tLinkG rfl) ?_; clear Z a; intro a Z
    refine s_ob Z (v := .bool (p.ok && (n0.2 == 0))) rfl rfl (by decide) rfl (Ob_pick rfl rfl rfl rfl (pick_and _ _)) ?_; clear Z a; intro a Z
    refine s_runk tLinkG Z 1 rfl rfl ?_; clear Z a; intro a Z
    refine g_ob Z (p := (p.ok && (n0.2 == 0))) (v := (tupAt (vals1 13) 0)) (S' := [(5, (tupAt (vals1 13) 0))]) rfl rfl rfl (wantB_t _) rfl (by decide) (fun hp hS => hS.sub (ts := [5]) rfl) (fun hp => Ob_c tLinkG rfl) ?_; clear Z a; intro a Z
    refine g_ob Z (p := (p.ok && (n0.2 == 0))) (v := .int .i64 (n0.1.length : Int)) (S' := [(43, (tupAt (vals1 13) 0))]) rfl rfl rfl (wantB_t _) rfl (by decide) (fun hp hS => (hS.conv (t := 43) rfl (cond_t hp)).sub (ts := [43]) rfl) (fun hp => Ob_slen tLinkG rfl rfl rfl (H.slshape 0 rfl)) ?_; clear Z a; intro a Z
    refine g_ob Z (p := (p.ok && (n0.2 == 0))) (v := .bool (decide ((n0.1.length : Int) ≤ 1))) (S' := [(44, .int .i64 (n0.1.length : Int))]) rfl rfl rfl (wantB_t _) rfl (by decide) (fun hp hS => (hS.conv (t := 44) rfl (cond_t hp)).sub (ts := [44]) rfl) (fun hp => Ob_c tLinkG rfl) ?_; clear Z a; intro a Z
    refine s_ob Z (v := .bool ((p.ok && (n0.2 == 0)) && (decide ((n0.1.length : Int) ≤ 1)))) rfl rfl (by decide) rfl (Ob_pick rfl rfl rfl rfl (pick_and _ _)) ?_; clear Z a; intro a Z
    refine s_runk tLinkG Z 2 rfl rfl ?_; clear Z a; intro a Z
    refine h_store tLinkG Z H 1 rfl rfl rfl rfl rfl rfl rfl rfl rfl (one_cons rfl one_nil) (Nat.le_of_ble_eq_true rfl) rfl ?_; clear H; intro w2 H
    dsimp only [List.eraseIdx] at H
    refine s_end Z [0, 4, 5] rfl ?_; clear Z; intro Z
    refine p_then (wp_seq (f_region Z ?_)); clear Z; intro Z
    refine s_runk tLinkG Z 1 rfl rfl ?_; clear Z a; intro a Z
    refine s_end Z [0, 4, 5, 7] rfl ?_; clear Z; intro Z
    refine p_then (wp_block ?_)
    replace H : Hf I D w I1 w2 [PtC OElink_Link (.pointer none) none, BxC b_p 60 [.pointer none, v2, .int .i64 (p.boot.getD 0 0), .int .i64 (p.boot.getD 1 0), v3, v4, .int .i64 (p.sent.getD 0 0), .int .i64 (p.sent.getD 1 0), .int .i64 (p.told.getD 0 0), .int .i64 (p.told.getD 1 0), .bool ((p.ok && (n0.2 == 0)) && (decide ((n0.1.length : Int) ≤ 1)))], SlC NS (tupAt (vals1 13) 0) n0.1, PtC OElink_Link v2 (p.l.getD 1 none), OwC NESeg 31 v3 p.way, OwC Ni64 3 v4 p.to_] := H.mkN OElink_Link
    replace H : Hf I D w I1 w2 [OElaw22_pair b_p ({ p with l := [none, (p.l.getD 1 none)], ok := (p.ok && (n0.2 == 0)) && (decide ((n0.1.length : Int) ≤ 1)) } : Elaw22_pair), SlC NS (tupAt (vals1 13) 0) n0.1] := H.shutX (.pointer none, v2, v3, v4) [(1, false), (0, false), (1, false), (1, false), (1, false)] rfl
    refine f_iter hF (fun sg a' w' => match sg with | (k, p_2) => Sl 98 [(0, .pointer (some ⟨b_p, 0, none⟩)), (4, .int .i64 (p.to_.getD (i).toNat default)), (5, (tupAt (vals1 13) 0)), (7, .int .i64 k)] a' ∧ ∃ I2, Hf I D w I2 w' [OElaw22_pair b_p p_2, SlC NS (tupAt (vals1 13) 0) n0.1]) ⟨Z.sub (ts := [0, 4, 5, 7]) rfl, ⟨I1, (H.sub [(0, false), (0, true)] rfl).eq rfl⟩⟩ ?_
    clear Z H hF a
    rintro rc ⟨k, p_2⟩ a w3 ⟨Z, I2, H⟩ hF
    unfold F_law22_pair_come_l1 at hF
    try dsimp only at hF
    refine wp_seq ?_
    refine wp_seq (f_region Z ?_); clear Z; intro Z
    refine s_runk tLinkG Z 2 rfl rfl ?_; clear Z a; intro a Z
    refine s_ob Z (v := .int .i64 (n0.1.length : Int)) rfl rfl (by decide) rfl (Ob_slen tLinkG rfl rfl rfl (H.slshape 1 rfl)) ?_; clear Z a; intro a Z
    refine s_runk tLinkG Z 2 rfl rfl ?_; clear Z a; intro a Z
    refine g_ob Z (p := (decide (k < (n0.1.length : Int)))) (v := .int .i64 k) (S' := [(7, .int .i64 k)]) rfl rfl rfl (wantB_t _) rfl (by decide) (fun hp hS => hS.sub (ts := [7]) rfl) (fun hp => Ob_c tLinkG rfl) ?_; clear Z a; intro a Z
    refine g_ob Z (p := (decide (k < (n0.1.length : Int)))) (v := .bool (decide (k < 2))) (S' := [(54, .int .i64 k)]) rfl rfl rfl (wantB_t _) rfl (by decide) (fun hp hS => (hS.conv (t := 54) rfl (cond_t hp)).sub (ts := [54]) rfl) (fun hp => Ob_c tLinkG rfl) ?_; clear Z a; intro a Z
    refine s_ob Z (v := .bool ((decide (k < (n0.1.length : Int))) && (decide (k < 2)))) rfl rfl (by decide) rfl (Ob_pick rfl rfl rfl rfl (pick_and _ _)) ?_; clear Z a; intro a Z
    refine s_end Z [0, 4, 5, 7, 49, 50, 51, 52, 53, 56] rfl ?_; clear Z; intro Z
    refine p_then ?_
    refine f_cond Z rfl (fun hc1 => ?_) (fun hc1 => ?_)
    ·replace hF := ite_t hc1 hF
     refine wp_skip ?_
     refine p_then (wp_seq ?_)
     refine wp_block ?_
     refine wp_seq ?_
     obtain ⟨hg3, hF⟩ := chk_in hF
     obtain ⟨n0_2, hx2, hF⟩ := bnd_in hF
     refine f_region Z ?_; clear Z; intro Z
     refine s_runk tLinkG Z 2 rfl rfl ?_; clear Z a; intro a Z
     refine s_ob Z (v := .pointer (some ⟨blkOf (tupAt (vals1 13) 0), oofOf (tupAt (vals1 13) 0) + (k).toNat * 1, none⟩)) rfl rfl (by decide) rfl (Ob_sidx tLinkG rfl rfl rfl rfl (slPl (H.sl 1 rfl) hg3) hg3) ?_; clear Z a; intro a Z
     refine s_ob Z (v := .string (n0.1.getD (k).toNat default)) rfl rfl (by decide) rfl (Ob_load tLinkG rfl rfl rfl ((slFl (H.sl 1 rfl) hg3) 0 _ rfl)) ?_; clear Z a; intro a Z
     refine h_call Z H (js := []) rfl (caps := #[]) fn_38_YLinkG rfl rfl rfl rfl rfl (by decide) rfl rfl (fun D1 hS => have hq := c_law22_numbered hx2 hS; hq) ?_; clear Z a; intro vv a w4 D2 hr hF2 Z
     obtain ⟨rfl, I3, K⟩ := hr
     have H : Hf I D w I3 w4 [OElaw22_pair b_p p_2, SlC NS (tupAt (vals1 13) 0) n0.1] := hF2 K
     clear hF2 K
     refine s_runk tLinkG Z 1 rfl rfl ?_; clear Z a; intro a Z
     refine s_end Z [0, 4, 5, 7, 49, 50, 51, 52, 53, 56, 59, 60, 61, 62, 63, 8] rfl ?_; clear Z; intro Z
     refine p_then (wp_seq ?_)
     refine bsplit ((1 - (p.to_.getD (i).toNat default)) == 0) (fun hi2 => ?_) (fun hi2 => ?_)
     ·replace hF := ite_t hi2 hF
      obtain ⟨hg4, hF⟩ := chk_in hF
      refine f_region Z ?_; clear Z; intro Z
      refine s_runk tLinkG Z 4 rfl rfl ?_; clear Z a; intro a Z
      obtain ⟨⟨v5, v6, v7, v8⟩, H⟩ := H.openX 0 rfl
      replace H : Hf I D w I3 w4 [BxC b_p 60 [v5, v6, .int .i64 (p_2.boot.getD 0 0), .int .i64 (p_2.boot.getD 1 0), v7, v8, .int .i64 (p_2.sent.getD 0 0), .int .i64 (p_2.sent.getD 1 0), .int .i64 (p_2.told.getD 0 0), .int .i64 (p_2.told.getD 1 0), .bool p_2.ok], PtC OElink_Link v5 (p_2.l.getD 0 none), PtC OElink_Link v6 (p_2.l.getD 1 none), OwC NESeg 31 v7 p_2.way, OwC Ni64 3 v8 p_2.to_, SlC NS (tupAt (vals1 13) 0) n0.1] := H
      refine s_ob Z (v := .bool p_2.ok) rfl rfl (by decide) rfl (Ob_load tLinkG rfl rfl rfl ((H.bx 0 rfl).cell 10 rfl)) ?_; clear Z a; intro a Z
      refine s_runk tLinkG Z 1 rfl rfl ?_; clear Z a; intro a Z
      refine g_ob Z (p := p_2.ok) (v := .int .i64 n0_2) (S' := [(8, .int .i64 n0_2)]) rfl rfl rfl (wantB_t _) rfl (by decide) (fun hp hS => hS.sub (ts := [8]) rfl) (fun hp => Ob_c tLinkG rfl) ?_; clear Z a; intro a Z
      refine g_ob Z (p := p_2.ok) (v := .pointer (some ⟨b_p, 0, none⟩)) (S' := [(0, .pointer (some ⟨b_p, 0, none⟩))]) rfl rfl rfl (wantB_t _) rfl (by decide) (fun hp hS => hS.sub (ts := [0]) rfl) (fun hp => Ob_c tLinkG rfl) ?_; clear Z a; intro a Z
      refine g_ob Z (p := p_2.ok) (v := .int .i64 (p.to_.getD (i).toNat default)) (S' := [(4, .int .i64 (p.to_.getD (i).toNat default))]) rfl rfl rfl (wantB_t _) rfl (by decide) (fun hp hS => hS.sub (ts := [4]) rfl) (fun hp => Ob_c tLinkG rfl) ?_; clear Z a; intro a Z
      refine g_ob Z (p := p_2.ok) (v := .pointer (some ⟨b_p, 0, none⟩)) (S' := [(71, .pointer (some ⟨b_p, 0, none⟩))]) rfl rfl rfl (wantB_t _) rfl (by decide) (fun hp hS => (hS.conv (t := 71) rfl (cond_t hp)).sub (ts := [71]) rfl) (fun hp => Ob_c tLinkG rfl) ?_; clear Z a; intro a Z
      refine g_ob Z (p := p_2.ok) (v := .pointer (some ⟨b_p, 8, none⟩)) (S' := [(73, .pointer (some ⟨b_p, 0, none⟩))]) rfl rfl rfl (wantB_t _) rfl (by decide) (fun hp hS => (hS.conv (t := 73) rfl (cond_t hp)).sub (ts := [73]) rfl) (fun hp => Ob_c tLinkG rfl) ?_; clear Z a; intro a Z
      refine g_ob Z (p := p_2.ok) (v := .pointer (some ⟨b_p, 8, none⟩)) (S' := [(74, .pointer (some ⟨b_p, 8, none⟩)), (72, .int .i64 (p.to_.getD (i).toNat default))]) rfl rfl rfl (wantB_t _) rfl (by decide) (fun hp hS => ((hS.conv (t := 74) rfl (cond_t hp)).conv (t := 72) rfl (cond_t hp)).sub (ts := [74, 72]) rfl) (fun hp => Ob_apix (m := 1) 0 rfl rfl rfl Try.underlying57 (by kernel_rfl) (eq_of_beq hi1) (by decide)) ?_; clear Z a; intro a Z
      refine g_ob Z (p := p_2.ok) (v := .int .i64 (p_2.told.getD 0 0)) (S' := [(75, .pointer (some ⟨b_p, 8, none⟩))]) rfl rfl rfl (wantB_t _) rfl (by decide) (fun hp hS => (hS.conv (t := 75) rfl (cond_t hp)).sub (ts := [75]) rfl) (fun hp => Ob_load tLinkG rfl rfl rfl ((H.bx 0 rfl).cell 8 rfl)) ?_; clear Z a; intro a Z
      refine g_ob Z (p := p_2.ok) (v := .bool (decide (n0_2 > (p_2.told.getD 0 0)))) (S' := [(70, .int .i64 n0_2), (76, .int .i64 (p_2.told.getD 0 0))]) rfl rfl rfl (wantB_t _) rfl (by decide) (fun hp hS => ((hS.conv (t := 70) rfl (cond_t hp)).conv (t := 76) rfl (cond_t hp)).sub (ts := [70, 76]) rfl) (fun hp => Ob_c tLinkG rfl) ?_; clear Z a; intro a Z
      refine s_ob Z (v := .bool (p_2.ok && (decide (n0_2 > (p_2.told.getD 0 0))))) rfl rfl (by decide) rfl (Ob_pick rfl rfl rfl rfl (pick_and _ _)) ?_; clear Z a; intro a Z
      refine s_runk tLinkG Z 1 rfl rfl ?_; clear Z a; intro a Z
      refine g_ob Z (p := (p_2.ok && (decide (n0_2 > (p_2.told.getD 0 0))))) (v := .int .i64 n0_2) (S' := [(8, .int .i64 n0_2)]) rfl rfl rfl (wantB_t _) rfl (by decide) (fun hp hS => hS.sub (ts := [8]) rfl) (fun hp => Ob_c tLinkG rfl) ?_; clear Z a; intro a Z
      refine g_ob Z (p := (p_2.ok && (decide (n0_2 > (p_2.told.getD 0 0))))) (v := .pointer (some ⟨b_p, 0, none⟩)) (S' := [(0, .pointer (some ⟨b_p, 0, none⟩))]) rfl rfl rfl (wantB_t _) rfl (by decide) (fun hp hS => hS.sub (ts := [0]) rfl) (fun hp => Ob_c tLinkG rfl) ?_; clear Z a; intro a Z
      refine g_ob Z (p := (p_2.ok && (decide (n0_2 > (p_2.told.getD 0 0))))) (v := .int .i64 (p.to_.getD (i).toNat default)) (S' := [(4, .int .i64 (p.to_.getD (i).toNat default))]) rfl rfl rfl (wantB_t _) rfl (by decide) (fun hp hS => hS.sub (ts := [4]) rfl) (fun hp => Ob_c tLinkG rfl) ?_; clear Z a; intro a Z
      refine g_ob Z (p := (p_2.ok && (decide (n0_2 > (p_2.told.getD 0 0))))) (v := .int .i64 (1 - (p.to_.getD (i).toNat default))) (S' := [(82, .int .i64 (p.to_.getD (i).toNat default))]) rfl rfl rfl (wantB_t _) rfl (by decide) (fun hp hS => (hS.conv (t := 82) rfl (cond_t hp)).sub (ts := [82]) rfl) (fun hp => Ob_sub rfl rfl rfl (wrI (hg4 hp))) ?_; clear Z a; intro a Z
      refine g_ob Z (p := (p_2.ok && (decide (n0_2 > (p_2.told.getD 0 0))))) (v := .pointer (some ⟨b_p, 0, none⟩)) (S' := [(81, .pointer (some ⟨b_p, 0, none⟩))]) rfl rfl rfl (wantB_t _) rfl (by decide) (fun hp hS => (hS.conv (t := 81) rfl (cond_t hp)).sub (ts := [81]) rfl) (fun hp => Ob_c tLinkG rfl) ?_; clear Z a; intro a Z
      refine g_ob Z (p := (p_2.ok && (decide (n0_2 > (p_2.told.getD 0 0))))) (v := .pointer (some ⟨b_p, 6, none⟩)) (S' := [(84, .pointer (some ⟨b_p, 0, none⟩))]) rfl rfl rfl (wantB_t _) rfl (by decide) (fun hp hS => (hS.conv (t := 84) rfl (cond_t hp)).sub (ts := [84]) rfl) (fun hp => Ob_c tLinkG rfl) ?_; clear Z a; intro a Z
      refine g_ob Z (p := (p_2.ok && (decide (n0_2 > (p_2.told.getD 0 0))))) (v := .pointer (some ⟨b_p, 6, none⟩)) (S' := [(85, .pointer (some ⟨b_p, 6, none⟩)), (83, .int .i64 (1 - (p.to_.getD (i).toNat default)))]) rfl rfl rfl (wantB_t _) rfl (by decide) (fun hp hS => ((hS.conv (t := 85) rfl (cond_t hp)).conv (t := 83) rfl (cond_t hp)).sub (ts := [85, 83]) rfl) (fun hp => Ob_apix (m := 1) 0 rfl rfl rfl Try.underlying57 (by kernel_rfl) (eq_of_beq hi2) (by decide)) ?_; clear Z a; intro a Z
      refine g_ob Z (p := (p_2.ok && (decide (n0_2 > (p_2.told.getD 0 0))))) (v := .int .i64 (p_2.sent.getD 0 0)) (S' := [(86, .pointer (some ⟨b_p, 6, none⟩))]) rfl rfl rfl (wantB_t _) rfl (by decide) (fun hp hS => (hS.conv (t := 86) rfl (cond_t hp)).sub (ts := [86]) rfl) (fun hp => Ob_load tLinkG rfl rfl rfl ((H.bx 0 rfl).cell 6 rfl)) ?_; clear Z a; intro a Z
      refine g_ob Z (p := (p_2.ok && (decide (n0_2 > (p_2.told.getD 0 0))))) (v := .bool (decide (n0_2 ≤ (p_2.sent.getD 0 0)))) (S' := [(80, .int .i64 n0_2), (87, .int .i64 (p_2.sent.getD 0 0))]) rfl rfl rfl (wantB_t _) rfl (by decide) (fun hp hS => ((hS.conv (t := 80) rfl (cond_t hp)).conv (t := 87) rfl (cond_t hp)).sub (ts := [80, 87]) rfl) (fun hp => Ob_c tLinkG rfl) ?_; clear Z a; intro a Z
      refine s_ob Z (v := .bool ((p_2.ok && (decide (n0_2 > (p_2.told.getD 0 0)))) && (decide (n0_2 ≤ (p_2.sent.getD 0 0))))) rfl rfl (by decide) rfl (Ob_pick rfl rfl rfl rfl (pick_and _ _)) ?_; clear Z a; intro a Z
      refine s_runk tLinkG Z 2 rfl rfl ?_; clear Z a; intro a Z
      refine h_store tLinkG Z H 0 rfl rfl rfl rfl rfl rfl rfl rfl rfl (one_cons rfl one_nil) (Nat.le_of_ble_eq_true rfl) rfl ?_; clear H; intro w5 H
      dsimp only [List.eraseIdx] at H
      refine s_end Z [0, 4, 5, 7, 49, 50, 51, 52, 53, 56, 59, 60, 61, 62, 63, 8, 64, 65, 66, 67, 68, 69, 78, 79, 89, 90, 91] rfl ?_; clear Z; intro Z
      refine p_then ?_
      refine f_region Z ?_; clear Z; intro Z
      refine s_runk tLinkG Z 5 rfl rfl ?_; clear Z a; intro a Z
      refine s_ob Z (v := .pointer (some ⟨b_p, 8, none⟩)) rfl rfl (by decide) rfl (Ob_apix (m := 1) 0 rfl rfl rfl Try.underlying57 (by kernel_rfl) (eq_of_beq hi1) (by decide)) ?_; clear Z a; intro a Z
      refine h_store tLinkG Z H 0 rfl rfl rfl rfl rfl rfl rfl rfl rfl (one_cons rfl one_nil) (Nat.le_of_ble_eq_true rfl) rfl ?_; clear H; intro w6 H
      dsimp only [List.eraseIdx] at H
      refine s_end Z [0, 4, 5, 7, 49, 50, 51, 52, 53, 56, 59, 60, 61, 62, 63, 8, 64, 65, 66, 67, 68, 69, 78, 79, 89, 90, 91, 92, 93, 94, 95, 96, 97] rfl ?_; clear Z; intro Z
      refine p_blk ?_
      refine p_then ?_
      obtain ⟨hg5, hF⟩ := chk_in hF
      refine f_region Z ?_; clear Z; intro Z
      refine s_runk tLinkG Z 1 rfl rfl ?_; clear Z a; intro a Z
      refine s_ob Z (v := .int .i64 (k + 1)) rfl rfl (by decide) rfl (Ob_add rfl rfl rfl (wrI hg5)) ?_; clear Z a; intro a Z
      refine s_runk tLinkG Z 1 rfl rfl ?_; clear Z a; intro a Z
      refine s_end Z [0, 4, 5, 7, 49, 50, 51, 52, 53, 56, 59, 60, 61, 62, 63, 8, 64, 65, 66, 67, 68, 69, 78, 79, 89, 90, 91, 92, 93, 94, 95, 96, 97, 57, 58] rfl ?_; clear Z; intro Z
      refine p_then ?_
      replace H : Hf I D w I3 w6 [OElaw22_pair b_p ({ p_2 with told := [n0_2, (p_2.told.getD 1 0)], ok := (p_2.ok && (decide (n0_2 > (p_2.told.getD 0 0)))) && (decide (n0_2 ≤ (p_2.sent.getD 0 0))) } : Elaw22_pair), SlC NS (tupAt (vals1 13) 0) n0.1] := H.shutX (v5, v6, v7, v8) [(0, false), (0, false), (0, false), (0, false), (0, false)] rfl
      exact ⟨(k + 1, ({ p_2 with told := [n0_2, (p_2.told.getD 1 0)], ok := (p_2.ok && (decide (n0_2 > (p_2.told.getD 0 0)))) && (decide (n0_2 ≤ (p_2.sent.getD 0 0))) } : Elaw22_pair)), ⟨Z.sub (ts := [0, 4, 5, 7]) rfl, ⟨I3, (H.sub [(0, false), (0, true)] rfl).eq rfl⟩⟩, hF⟩
     replace hF := ite_f hi2 hF
     refine bsplit ((1 - (p.to_.getD (i).toNat default)) == 1) (fun hi3 => ?_) (fun hi3 => ?_)
     ·replace hF := ite_t hi3 hF
      obtain ⟨hg6, hF⟩ := chk_in hF
      refine f_region Z ?_; clear Z; intro Z
      refine s_runk tLinkG Z 4 rfl rfl ?_; clear Z a; intro a Z
      obtain ⟨⟨v9, v10, v11, v12⟩, H⟩ := H.openX 0 rfl
      replace H : Hf I D w I3 w4 [BxC b_p 60 [v9, v10, .int .i64 (p_2.boot.getD 0 0), .int .i64 (p_2.boot.getD 1 0), v11, v12, .int .i64 (p_2.sent.getD 0 0), .int .i64 (p_2.sent.getD 1 0), .int .i64 (p_2.told.getD 0 0), .int .i64 (p_2.told.getD 1 0), .bool p_2.ok], PtC OElink_Link v9 (p_2.l.getD 0 none), PtC OElink_Link v10 (p_2.l.getD 1 none), OwC NESeg 31 v11 p_2.way, OwC Ni64 3 v12 p_2.to_, SlC NS (tupAt (vals1 13) 0) n0.1] := H
      refine s_ob Z (v := .bool p_2.ok) rfl rfl (by decide) rfl (Ob_load tLinkG rfl rfl rfl ((H.bx 0 rfl).cell 10 rfl)) ?_; clear Z a; intro a Z
      refine s_runk tLinkG Z 1 rfl rfl ?_; clear Z a; intro a Z
      refine g_ob Z (p := p_2.ok) (v := .int .i64 n0_2) (S' := [(8, .int .i64 n0_2)]) rfl rfl rfl (wantB_t _) rfl (by decide) (fun hp hS => hS.sub (ts := [8]) rfl) (fun hp => Ob_c tLinkG rfl) ?_; clear Z a; intro a Z
      refine g_ob Z (p := p_2.ok) (v := .pointer (some ⟨b_p, 0, none⟩)) (S' := [(0, .pointer (some ⟨b_p, 0, none⟩))]) rfl rfl rfl (wantB_t _) rfl (by decide) (fun hp hS => hS.sub (ts := [0]) rfl) (fun hp => Ob_c tLinkG rfl) ?_; clear Z a; intro a Z
      refine g_ob Z (p := p_2.ok) (v := .int .i64 (p.to_.getD (i).toNat default)) (S' := [(4, .int .i64 (p.to_.getD (i).toNat default))]) rfl rfl rfl (wantB_t _) rfl (by decide) (fun hp hS => hS.sub (ts := [4]) rfl) (fun hp => Ob_c tLinkG rfl) ?_; clear Z a; intro a Z
      refine g_ob Z (p := p_2.ok) (v := .pointer (some ⟨b_p, 0, none⟩)) (S' := [(71, .pointer (some ⟨b_p, 0, none⟩))]) rfl rfl rfl (wantB_t _) rfl (by decide) (fun hp hS => (hS.conv (t := 71) rfl (cond_t hp)).sub (ts := [71]) rfl) (fun hp => Ob_c tLinkG rfl) ?_; clear Z a; intro a Z
      refine g_ob Z (p := p_2.ok) (v := .pointer (some ⟨b_p, 8, none⟩)) (S' := [(73, .pointer (some ⟨b_p, 0, none⟩))]) rfl rfl rfl (wantB_t _) rfl (by decide) (fun hp hS => (hS.conv (t := 73) rfl (cond_t hp)).sub (ts := [73]) rfl) (fun hp => Ob_c tLinkG rfl) ?_; clear Z a; intro a Z
      refine g_ob Z (p := p_2.ok) (v := .pointer (some ⟨b_p, 8, none⟩)) (S' := [(74, .pointer (some ⟨b_p, 8, none⟩)), (72, .int .i64 (p.to_.getD (i).toNat default))]) rfl rfl rfl (wantB_t _) rfl (by decide) (fun hp hS => ((hS.conv (t := 74) rfl (cond_t hp)).conv (t := 72) rfl (cond_t hp)).sub (ts := [74, 72]) rfl) (fun hp => Ob_apix (m := 1) 0 rfl rfl rfl Try.underlying57 (by kernel_rfl) (eq_of_beq hi1) (by decide)) ?_; clear Z a; intro a Z
      refine g_ob Z (p := p_2.ok) (v := .int .i64 (p_2.told.getD 0 0)) (S' := [(75, .pointer (some ⟨b_p, 8, none⟩))]) rfl rfl rfl (wantB_t _) rfl (by decide) (fun hp hS => (hS.conv (t := 75) rfl (cond_t hp)).sub (ts := [75]) rfl) (fun hp => Ob_load tLinkG rfl rfl rfl ((H.bx 0 rfl).cell 8 rfl)) ?_; clear Z a; intro a Z
      refine g_ob Z (p := p_2.ok) (v := .bool (decide (n0_2 > (p_2.told.getD 0 0)))) (S' := [(70, .int .i64 n0_2), (76, .int .i64 (p_2.told.getD 0 0))]) rfl rfl rfl (wantB_t _) rfl (by decide) (fun hp hS => ((hS.conv (t := 70) rfl (cond_t hp)).conv (t := 76) rfl (cond_t hp)).sub (ts := [70, 76]) rfl) (fun hp => Ob_c tLinkG rfl) ?_; clear Z a; intro a Z
      refine s_ob Z (v := .bool (p_2.ok && (decide (n0_2 > (p_2.told.getD 0 0))))) rfl rfl (by decide) rfl (Ob_pick rfl rfl rfl rfl (pick_and _ _)) ?_; clear Z a; intro a Z
      refine s_runk tLinkG Z 1 rfl rfl ?_; clear Z a; intro a Z
      refine g_ob Z (p := (p_2.ok && (decide (n0_2 > (p_2.told.getD 0 0))))) (v := .int .i64 n0_2) (S' := [(8, .int .i64 n0_2)]) rfl rfl rfl (wantB_t _) rfl (by decide) (fun hp hS => hS.sub (ts := [8]) rfl) (fun hp => Ob_c tLinkG rfl) ?_; clear Z a; intro a Z
      refine g_ob Z (p := (p_2.ok && (decide (n0_2 > (p_2.told.getD 0 0))))) (v := .pointer (some ⟨b_p, 0, none⟩)) (S' := [(0, .pointer (some ⟨b_p, 0, none⟩))]) rfl rfl rfl (wantB_t _) rfl (by decide) (fun hp hS => hS.sub (ts := [0]) rfl) (fun hp => Ob_c tLinkG rfl) ?_; clear Z a; intro a Z
      refine g_ob Z (p := (p_2.ok && (decide (n0_2 > (p_2.told.getD 0 0))))) (v := .int .i64 (p.to_.getD (i).toNat default)) (S' := [(4, .int .i64 (p.to_.getD (i).toNat default))]) rfl rfl rfl (wantB_t _) rfl (by decide) (fun hp hS => hS.sub (ts := [4]) rfl) (fun hp => Ob_c tLinkG rfl) ?_; clear Z a; intro a Z
      refine g_ob Z (p := (p_2.ok && (decide (n0_2 > (p_2.told.getD 0 0))))) (v := .int .i64 (1 - (p.to_.getD (i).toNat default))) (S' := [(82, .int .i64 (p.to_.getD (i).toNat default))]) rfl rfl rfl (wantB_t _) rfl (by decide) (fun hp hS => (hS.conv (t := 82) rfl (cond_t hp)).sub (ts := [82]) rfl) (fun hp => Ob_sub rfl rfl rfl (wrI (hg6 hp))) ?_; clear Z a; intro a Z
      refine g_ob Z (p := (p_2.ok && (decide (n0_2 > (p_2.told.getD 0 0))))) (v := .pointer (some ⟨b_p, 0, none⟩)) (S' := [(81, .pointer (some ⟨b_p, 0, none⟩))]) rfl rfl rfl (wantB_t _) rfl (by decide) (fun hp hS => (hS.conv (t := 81) rfl (cond_t hp)).sub (ts := [81]) rfl) (fun hp => Ob_c tLinkG rfl) ?_; clear Z a; intro a Z
      refine g_ob Z (p := (p_2.ok && (decide (n0_2 > (p_2.told.getD 0 0))))) (v := .pointer (some ⟨b_p, 6, none⟩)) (S' := [(84, .pointer (some ⟨b_p, 0, none⟩))]) rfl rfl rfl (wantB_t _) rfl (by decide) (fun hp hS => (hS.conv (t := 84) rfl (cond_t hp)).sub (ts := [84]) rfl) (fun hp => Ob_c tLinkG rfl) ?_; clear Z a; intro a Z
      refine g_ob Z (p := (p_2.ok && (decide (n0_2 > (p_2.told.getD 0 0))))) (v := .pointer (some ⟨b_p, 7, none⟩)) (S' := [(85, .pointer (some ⟨b_p, 6, none⟩)), (83, .int .i64 (1 - (p.to_.getD (i).toNat default)))]) rfl rfl rfl (wantB_t _) rfl (by decide) (fun hp hS => ((hS.conv (t := 85) rfl (cond_t hp)).conv (t := 83) rfl (cond_t hp)).sub (ts := [85, 83]) rfl) (fun hp => Ob_apix (m := 1) 1 rfl rfl rfl Try.underlying57 (by kernel_rfl) (eq_of_beq hi3) (by decide)) ?_; clear Z a; intro a Z
      refine g_ob Z (p := (p_2.ok && (decide (n0_2 > (p_2.told.getD 0 0))))) (v := .int .i64 (p_2.sent.getD 1 0)) (S' := [(86, .pointer (some ⟨b_p, 7, none⟩))]) rfl rfl rfl (wantB_t _) rfl (by decide) (fun hp hS => (hS.conv (t := 86) rfl (cond_t hp)).sub (ts := [86]) rfl) (fun hp => Ob_load tLinkG rfl rfl rfl ((H.bx 0 rfl).cell 7 rfl)) ?_; clear Z a; intro a Z
      refine g_ob Z (p := (p_2.ok && (decide (n0_2 > (p_2.told.getD 0 0))))) (v := .bool (decide (n0_2 ≤ (p_2.sent.getD 1 0)))) (S' := [(80, .int .i64 n0_2), (87, .int .i64 (p_2.sent.getD 1 0))]) rfl rfl rfl (wantB_t _) rfl (by decide) (fun hp hS => ((hS.conv (t := 80) rfl (cond_t hp)).conv (t := 87) rfl (cond_t hp)).sub (ts := [80, 87]) rfl) (fun hp => Ob_c tLinkG rfl) ?_; clear Z a; intro a Z
      refine s_ob Z (v := .bool ((p_2.ok && (decide (n0_2 > (p_2.told.getD 0 0)))) && (decide (n0_2 ≤ (p_2.sent.getD 1 0))))) rfl rfl (by decide) rfl (Ob_pick rfl rfl rfl rfl (pick_and _ _)) ?_; clear Z a; intro a Z
      refine s_runk tLinkG Z 2 rfl rfl ?_; clear Z a; intro a Z
      refine h_store tLinkG Z H 0 rfl rfl rfl rfl rfl rfl rfl rfl rfl (one_cons rfl one_nil) (Nat.le_of_ble_eq_true rfl) rfl ?_; clear H; intro w7 H
      dsimp only [List.eraseIdx] at H
      refine s_end Z [0, 4, 5, 7, 49, 50, 51, 52, 53, 56, 59, 60, 61, 62, 63, 8, 64, 65, 66, 67, 68, 69, 78, 79, 89, 90, 91] rfl ?_; clear Z; intro Z
      refine p_then ?_
      refine f_region Z ?_; clear Z; intro Z
      refine s_runk tLinkG Z 5 rfl rfl ?_; clear Z a; intro a Z
      refine s_ob Z (v := .pointer (some ⟨b_p, 8, none⟩)) rfl rfl (by decide) rfl (Ob_apix (m := 1) 0 rfl rfl rfl Try.underlying57 (by kernel_rfl) (eq_of_beq hi1) (by decide)) ?_; clear Z a; intro a Z
      refine h_store tLinkG Z H 0 rfl rfl rfl rfl rfl rfl rfl rfl rfl (one_cons rfl one_nil) (Nat.le_of_ble_eq_true rfl) rfl ?_; clear H; intro w8 H
      dsimp only [List.eraseIdx] at H
      refine s_end Z [0, 4, 5, 7, 49, 50, 51, 52, 53, 56, 59, 60, 61, 62, 63, 8, 64, 65, 66, 67, 68, 69, 78, 79, 89, 90, 91, 92, 93, 94, 95, 96, 97] rfl ?_; clear Z; intro Z
      refine p_blk ?_
      refine p_then ?_
      obtain ⟨hg7, hF⟩ := chk_in hF
      refine f_region Z ?_; clear Z; intro Z
      refine s_runk tLinkG Z 1 rfl rfl ?_; clear Z a; intro a Z
      refine s_ob Z (v := .int .i64 (k + 1)) rfl rfl (by decide) rfl (Ob_add rfl rfl rfl (wrI hg7)) ?_; clear Z a; intro a Z
      refine s_runk tLinkG Z 1 rfl rfl ?_; clear Z a; intro a Z
      refine s_end Z [0, 4, 5, 7, 49, 50, 51, 52, 53, 56, 59, 60, 61, 62, 63, 8, 64, 65, 66, 67, 68, 69, 78, 79, 89, 90, 91, 92, 93, 94, 95, 96, 97, 57, 58] rfl ?_; clear Z; intro Z
      refine p_then ?_
      replace H : Hf I D w I3 w8 [OElaw22_pair b_p ({ p_2 with told := [n0_2, (p_2.told.getD 1 0)], ok := (p_2.ok && (decide (n0_2 > (p_2.told.getD 0 0)))) && (decide (n0_2 ≤ (p_2.sent.getD 1 0))) } : Elaw22_pair), SlC NS (tupAt (vals1 13) 0) n0.1] := H.shutX (v9, v10, v11, v12) [(0, false), (0, false), (0, false), (0, false), (0, false)] rfl
      exact ⟨(k + 1, ({ p_2 with told := [n0_2, (p_2.told.getD 1 0)], ok := (p_2.ok && (decide (n0_2 > (p_2.told.getD 0 0)))) && (decide (n0_2 ≤ (p_2.sent.getD 1 0))) } : Elaw22_pair)), ⟨Z.sub (ts := [0, 4, 5, 7]) rfl, ⟨I3, (H.sub [(0, false), (0, true)] rfl).eq rfl⟩⟩, hF⟩
     replace hF := ite_f hi3 hF
     cases hF
    ·replace hF := ite_f hc1 hF
     refine wp_exit ?_
     refine p_then_x ?_
     refine p_then_x ?_
     refine f_exit_here ?_
     obtain rfl := some_in hF
     exact f_fall Z (run_results0 rfl) ⟨rfl, I2, (H.sub [(0, false)] rfl).eq rfl⟩
  ·obtain ⟨b1, hv, H⟩ := H.optS 1 rfl ho1
   subst hv
   replace H : Hf I D w I w [OElink_Link b1 x, BxC b_p 60 [.pointer (some ⟨b1, 0, none⟩), v2, .int .i64 (p.boot.getD 0 0), .int .i64 (p.boot.getD 1 0), v3, v4, .int .i64 (p.sent.getD 0 0), .int .i64 (p.sent.getD 1 0), .int .i64 (p.told.getD 0 0), .int .i64 (p.told.getD 1 0), .bool p.ok], PtC OElink_Link v2 (p.l.getD 1 none), OwC NESeg 31 v3 p.way, OwC Ni64 3 v4 p.to_] := H
   obtain ⟨hg8, hF⟩ := chk_in hF
   obtain ⟨i_2, hx3, hF⟩ := bnd_in hF
   refine f_regionM Z (by kernel_rfl) (by kernel_rfl) (by decide) (by decide) [13] [(0, 0, 0), (0, 0, 0), (1, 0, 0), (5, 0, 0), (15, 0, 0), (31, 0, 0), (0, 0, 0), (64, 0, 0), (192, 0, 0), (448, 0, 0), (0, 0, 0), (1984, 0, 0), (4032, 0, 0), (8191, 0, 0), (16383, 1, 1), (32767, 1, 1), (32767, 1, 1), (65535, 1, 1), (262143, 1, 1)] (by kernel_rfl) (fun jj => match jj with | 14 => 13 | 15 => 13 | 17 => 13 | _ => jj) (by kernel_rfl) (fun jj rv vv => cond (Nat.blt jj 9) (cond (Nat.blt jj 4) (cond (Nat.blt jj 2) (cond (Nat.blt jj 1) (vv = .pointer (some ⟨b_p, 0, none⟩)) (vv = .int .i64 (p.to_.getD (i).toNat default))) (cond (Nat.blt jj 3) (vv = .pointer (some ⟨b_p, 0, none⟩)) (vv = .pointer (some ⟨b_p, 0, none⟩)))) (cond (Nat.blt jj 6) (cond (Nat.blt jj 5) (vv = .pointer (some ⟨b_p, 0, none⟩)) (vv = .pointer (some ⟨b1, 0, none⟩))) (cond (Nat.blt jj 7) (vv = .pointer (some ⟨b_p, 0, none⟩)) (cond (Nat.blt jj 8) (vv = .pointer (some ⟨b_p, 0, none⟩)) (vv = .pointer (some ⟨b_p, 4, none⟩)))))) (cond (Nat.blt jj 14) (cond (Nat.blt jj 11) (cond (Nat.blt jj 10) (vv = v3) (vv = .int .i64 i)) (cond (Nat.blt jj 12) (vv = .pointer (some ⟨blkOf v3, oofOf v3 + (i).toNat * 8, none⟩)) (cond (Nat.blt jj 13) (vv = .agg #[.int .i64 ((p.way.getD (i).toNat default).boot), .int .i64 ((p.way.getD (i).toNat default).stream), .int .i64 ((p.way.getD (i).toNat default).seq), .int .i64 ((p.way.getD (i).toNat default).ackBoot), .int .i64 ((p.way.getD (i).toNat default).ackStream), .int .i64 ((p.way.getD (i).toNat default).ackSeq), .bool ((p.way.getD (i).toNat default).has), .string ((p.way.getD (i).toNat default).body)]) (vv = .tuple #[(tupAt vv 0), .int .i64 i_2.2.1])))) (cond (Nat.blt jj 16) (cond (Nat.blt jj 15) (vv = .tuple #[(tupAt rv 0), .int .i64 i_2.2.1]) (vv = (tupAt rv 0))) (cond (Nat.blt jj 17) (vv = .int .i64 i_2.2.1) (cond (Nat.blt jj 18) (vv = (tupAt rv 0)) (vv = .int .i64 i_2.2.1)))))) (fun ss vals2 xw => match ss with | 0 => Gx I D w I w xw [OElink_Link b1 x, BxC b_p 60 [.pointer (some ⟨b1, 0, none⟩), v2, .int .i64 (p.boot.getD 0 0), .int .i64 (p.boot.getD 1 0), v3, v4, .int .i64 (p.sent.getD 0 0), .int .i64 (p.sent.getD 1 0), .int .i64 (p.told.getD 0 0), .int .i64 (p.told.getD 1 0), .bool p.ok], PtC OElink_Link v2 (p.l.getD 1 none), OwC NESeg 31 v3 p.way, OwC Ni64 3 v4 p.to_] | _ => Gx I D w I w xw [OElink_Link b1 i_2.2.2, SlC NS (tupAt (vals2 13) 0) i_2.1, BxC b_p 60 [.pointer (some ⟨b1, 0, none⟩), v2, .int .i64 (p.boot.getD 0 0), .int .i64 (p.boot.getD 1 0), v3, v4, .int .i64 (p.sent.getD 0 0), .int .i64 (p.sent.getD 1 0), .int .i64 (p.told.getD 0 0), .int .i64 (p.told.getD 1 0), .bool p.ok], PtC OElink_Link v2 (p.l.getD 1 none), OwC NESeg 31 v3 p.way, OwC Ni64 3 v4 p.to_]) (fun _ => Gx.start H) ?_ ?_
   ·intro fr hfr hfe
    refine .cons (fun ss hlo hhi vals2 xw hG hV => ?_) ?_
    ·obtain rfl : ss = 0 := Nat.le_antisymm hhi hlo
     rw [← hfe]
     have hS := (hfr vals2).sub (ts := [0]) (S' := [(0, .pointer (some ⟨b_p, 0, none⟩))]) rfl
     exact L_val hS rfl (Ob_c tLinkG rfl) ⟨rfl, hG⟩
    refine .cons (fun ss hlo hhi vals2 xw hG hV => ?_) ?_
    ·obtain rfl : ss = 0 := Nat.le_antisymm hhi hlo
     rw [← hfe]
     have hS := (hfr vals2).sub (ts := [4]) (S' := [(4, .int .i64 (p.to_.getD (i).toNat default))]) rfl
     exact L_val hS rfl (Ob_c tLinkG rfl) ⟨rfl, hG⟩
    refine .cons (fun ss hlo hhi vals2 xw hG hV => ?_) ?_
    ·obtain rfl : ss = 0 := Nat.le_antisymm hhi hlo
     rw [← hfe]
     have hS := (hfr vals2).sub (ts := [17]) (S' := [(17, vals2 0)]) rfl
     replace hS := hS.conv (t := 17) rfl (show (vals2 0) = .pointer (some ⟨b_p, 0, none⟩) from hV 0 (by decide))
     exact L_val hS rfl (Ob_c tLinkG rfl) ⟨rfl, hG⟩
    refine .cons (fun ss hlo hhi vals2 xw hG hV => ?_) ?_
    ·obtain rfl : ss = 0 := Nat.le_antisymm hhi hlo
     rw [← hfe]
     have hS := (hfr vals2).sub (ts := [19]) (S' := [(19, vals2 2)]) rfl
     replace hS := hS.conv (t := 19) rfl (show (vals2 2) = .pointer (some ⟨b_p, 0, none⟩) from hV 2 (by decide))
     exact L_val hS rfl (Ob_c tLinkG rfl) ⟨rfl, hG⟩
    refine .cons (fun ss hlo hhi vals2 xw hG hV => ?_) ?_
    ·obtain rfl : ss = 0 := Nat.le_antisymm hhi hlo
     rw [← hfe]
     have hS := (hfr vals2).sub (ts := [20, 18]) (S' := [(20, vals2 3), (18, vals2 1)]) rfl
     replace hS := hS.conv (t := 20) rfl (show (vals2 3) = .pointer (some ⟨b_p, 0, none⟩) from hV 3 (by decide))
     replace hS := hS.conv (t := 18) rfl (show (vals2 1) = .int .i64 (p.to_.getD (i).toNat default) from hV 1 (by decide))
     exact L_val hS rfl (Ob_apix (m := 1) 0 rfl rfl rfl Try.underlying56 (by kernel_rfl) (eq_of_beq hi1) (by decide)) ⟨rfl, hG⟩
    refine .cons (fun ss hlo hhi vals2 xw hG hV => ?_) ?_
    ·obtain rfl : ss = 0 := Nat.le_antisymm hhi hlo
     rw [← hfe]
     have hS := (hfr vals2).sub (ts := [21]) (S' := [(21, vals2 4)]) rfl
     replace hS := hS.conv (t := 21) rfl (show (vals2 4) = .pointer (some ⟨b_p, 0, none⟩) from hV 4 (by decide))
     obtain ⟨I2, hI2, H⟩ := Gx.ex hG
     exact L_val hS rfl (Ob_load tLinkG rfl rfl rfl ((H.bx 1 rfl).cell 0 rfl)) ⟨rfl, hG⟩
    refine .cons (fun ss hlo hhi vals2 xw hG hV => ?_) ?_
    ·obtain rfl : ss = 0 := Nat.le_antisymm hhi hlo
     rw [← hfe]
     have hS := (hfr vals2).sub (ts := [0]) (S' := [(0, .pointer (some ⟨b_p, 0, none⟩))]) rfl
     exact L_val hS rfl (Ob_c tLinkG rfl) ⟨rfl, hG⟩
    refine .cons (fun ss hlo hhi vals2 xw hG hV => ?_) ?_
    ·obtain rfl : ss = 0 := Nat.le_antisymm hhi hlo
     rw [← hfe]
     have hS := (hfr vals2).sub (ts := [23]) (S' := [(23, vals2 6)]) rfl
     replace hS := hS.conv (t := 23) rfl (show (vals2 6) = .pointer (some ⟨b_p, 0, none⟩) from hV 6 (by decide))
     exact L_val hS rfl (Ob_c tLinkG rfl) ⟨rfl, hG⟩
    refine .cons (fun ss hlo hhi vals2 xw hG hV => ?_) ?_
    ·obtain rfl : ss = 0 := Nat.le_antisymm hhi hlo
     rw [← hfe]
     have hS := (hfr vals2).sub (ts := [24]) (S' := [(24, vals2 7)]) rfl
     replace hS := hS.conv (t := 24) rfl (show (vals2 7) = .pointer (some ⟨b_p, 0, none⟩) from hV 7 (by decide))
     exact L_val hS rfl (Ob_c tLinkG rfl) ⟨rfl, hG⟩
    refine .cons (fun ss hlo hhi vals2 xw hG hV => ?_) ?_
    ·obtain rfl : ss = 0 := Nat.le_antisymm hhi hlo
     rw [← hfe]
     have hS := (hfr vals2).sub (ts := [25]) (S' := [(25, vals2 8)]) rfl
     replace hS := hS.conv (t := 25) rfl (show (vals2 8) = .pointer (some ⟨b_p, 4, none⟩) from hV 8 (by decide))
     obtain ⟨I2, hI2, H⟩ := Gx.ex hG
     exact L_val hS rfl (Ob_load tLinkG rfl rfl rfl ((H.bx 1 rfl).cell 4 rfl)) ⟨rfl, hG⟩
    refine .cons (fun ss hlo hhi vals2 xw hG hV => ?_) ?_
    ·obtain rfl : ss = 0 := Nat.le_antisymm hhi hlo
     rw [← hfe]
     have hS := (hfr vals2).sub (ts := [1]) (S' := [(1, .int .i64 i)]) rfl
     exact L_val hS rfl (Ob_c tLinkG rfl) ⟨rfl, hG⟩
    refine .cons (fun ss hlo hhi vals2 xw hG hV => ?_) ?_
    ·obtain rfl : ss = 0 := Nat.le_antisymm hhi hlo
     rw [← hfe]
     have hS := (hfr vals2).sub (ts := [26, 27]) (S' := [(26, vals2 9), (27, vals2 10)]) rfl
     replace hS := hS.conv (t := 26) rfl (show (vals2 9) = v3 from hV 9 (by decide))
     replace hS := hS.conv (t := 27) rfl (show (vals2 10) = .int .i64 i from hV 10 (by decide))
     obtain ⟨I2, hI2, H⟩ := Gx.ex hG
     exact L_val hS rfl (Ob_sidx tLinkG rfl rfl rfl rfl (slPl (H.owA 3 rfl) hg8) hg8) ⟨rfl, hG⟩
    refine .cons (fun ss hlo hhi vals2 xw hG hV => ?_) ?_
    ·obtain rfl : ss = 0 := Nat.le_antisymm hhi hlo
     rw [← hfe]
     have hS := (hfr vals2).sub (ts := [28]) (S' := [(28, vals2 11)]) rfl
     replace hS := hS.conv (t := 28) rfl (show (vals2 11) = .pointer (some ⟨blkOf v3, oofOf v3 + (i).toNat * 8, none⟩) from hV 11 (by decide))
     obtain ⟨I2, hI2, H⟩ := Gx.ex hG
     exact L_val hS rfl (Ob_loads tLinkG rfl rfl rfl ((slFl (H.owA 3 rfl) hg8).part 0 rfl)) ⟨rfl, hG⟩
    refine .cons (fun ss hlo hhi vals2 xw hG hV => ?_) ?_
    ·obtain rfl : ss = 0 := Nat.le_antisymm hhi hlo
     rw [← hfe]
     have hS := (hfr vals2).sub (ts := [22, 29]) (S' := [(22, vals2 5), (29, vals2 12)]) rfl
     replace hS := hS.conv (t := 22) rfl (show (vals2 5) = .pointer (some ⟨b1, 0, none⟩) from hV 5 (by decide))
     replace hS := hS.conv (t := 29) rfl (show (vals2 12) = .agg #[.int .i64 ((p.way.getD (i).toNat default).boot), .int .i64 ((p.way.getD (i).toNat default).stream), .int .i64 ((p.way.getD (i).toNat default).seq), .int .i64 ((p.way.getD (i).toNat default).ackBoot), .int .i64 ((p.way.getD (i).toNat default).ackStream), .int .i64 ((p.way.getD (i).toNat default).ackSeq), .bool ((p.way.getD (i).toNat default).has), .string ((p.way.getD (i).toNat default).body)] from hV 12 (by decide))
     obtain ⟨I2, hI2, H⟩ := Gx.ex hG
     refine L_hcall H (js := [(0, false)]) rfl (caps := #[]) hS fn_15_YLinkG rfl rfl rfl rfl rfl (fun D1 hS => have hq := c_link_Link_In hx3 hS; hq) fun _ yw D1 hr hF2 => ?_
     obtain ⟨q0_, rfl, I3, K⟩ := hr
     obtain ⟨hK, H2⟩ := hF2 K
     exact ⟨rfl, Gx.go hG hI2 hK K.imm H2⟩
    refine .cons (fun ss hlo hhi vals2 xw hG hV => ?_) ?_
    ·obtain rfl : ss = 1 := Nat.le_antisymm hhi hlo
     rw [← hfe]
     have hS := (hfr vals2).sub (ts := [30]) (S' := [(30, vals2 13)]) rfl
     replace hS := hS.conv (t := 30) rfl (show (vals2 13) = .tuple #[(tupAt (vals2 13) 0), .int .i64 i_2.2.1] from hV 13 (by decide))
     exact L_val hS rfl (Ob_c tLinkG rfl) ⟨rfl, hG⟩
    refine .cons (fun ss hlo hhi vals2 xw hG hV => ?_) ?_
    ·obtain rfl : ss = 1 := Nat.le_antisymm hhi hlo
     rw [← hfe]
     have hS := (hfr vals2).sub (ts := [16]) (S' := [(16, vals2 14)]) rfl
     replace hS := hS.conv (t := 16) rfl (show (vals2 14) = .tuple #[(tupAt (vals2 13) 0), .int .i64 i_2.2.1] from hV 14 (by decide))
     exact L_val hS rfl (Ob_c tLinkG rfl) ⟨rfl, hG⟩
    refine .cons (fun ss hlo hhi vals2 xw hG hV => ?_) ?_
    ·obtain rfl : ss = 1 := Nat.le_antisymm hhi hlo
     rw [← hfe]
     have hS := (hfr vals2).sub (ts := [16]) (S' := [(16, vals2 14)]) rfl
     replace hS := hS.conv (t := 16) rfl (show (vals2 14) = .tuple #[(tupAt (vals2 13) 0), .int .i64 i_2.2.1] from hV 14 (by decide))
     exact L_val hS rfl (Ob_c tLinkG rfl) ⟨rfl, hG⟩
    refine .cons (fun ss hlo hhi vals2 xw hG hV => ?_) ?_
    ·obtain rfl : ss = 1 := Nat.le_antisymm hhi hlo
     rw [← hfe]
     have hS := (hfr vals2).sub (ts := [31]) (S' := [(31, vals2 15)]) rfl
     replace hS := hS.conv (t := 31) rfl (show (vals2 15) = (tupAt (vals2 13) 0) from hV 15 (by decide))
     exact L_val hS rfl (Ob_c tLinkG rfl) ⟨rfl, hG⟩
    refine .cons (fun ss hlo hhi vals2 xw hG hV => ?_) ?_
    ·obtain rfl : ss = 1 := Nat.le_antisymm hhi hlo
     rw [← hfe]
     have hS := (hfr vals2).sub (ts := [32]) (S' := [(32, vals2 16)]) rfl
     replace hS := hS.conv (t := 32) rfl (show (vals2 16) = .int .i64 i_2.2.1 from hV 16 (by decide))
     exact L_val hS rfl (Ob_c tLinkG rfl) ⟨rfl, hG⟩
    exact .nil
   ·intro vals2 a w9 Z hG hV
    replace Z := Z.sub (ts := [0, 4, 5, 6]) (S' := [(0, .pointer (some ⟨b_p, 0, none⟩)), (4, .int .i64 (p.to_.getD (i).toNat default)), (5, vals2 17), (6, vals2 18)]) rfl
    replace Z := Z.conv (t := 5) rfl (show (vals2 17) = (tupAt (vals2 13) 0) from hV 17 (by decide))
    replace Z := Z.conv (t := 6) rfl (show (vals2 18) = .int .i64 i_2.2.1 from hV 18 (by decide))
    obtain ⟨I4, _, H⟩ := Gx.ex hG
    clear hG hV
    replace Z := Z.sub (ts := [0, 4, 5, 6]) rfl
    replace H : Hf I D w I4 w9 [OElink_Link b1 i_2.2.2, SlC NS (tupAt (vals2 13) 0) i_2.1, BxC b_p 60 [.pointer (some ⟨b1, 0, none⟩), v2, .int .i64 (p.boot.getD 0 0), .int .i64 (p.boot.getD 1 0), v3, v4, .int .i64 (p.sent.getD 0 0), .int .i64 (p.sent.getD 1 0), .int .i64 (p.told.getD 0 0), .int .i64 (p.told.getD 1 0), .bool p.ok], PtC OElink_Link v2 (p.l.getD 1 none), OwC NESeg 31 v3 p.way, OwC Ni64 3 v4 p.to_] := H
    refine p_then (wp_seq (f_region Z ?_)); clear Z; intro Z
    refine s_runk tLinkG Z 4 rfl rfl ?_; clear Z a; intro a Z
    refine s_ob Z (v := .bool p.ok) rfl rfl (by decide) rfl (Ob_load tLinkG rfl rfl rfl ((H.bx 2 rfl).cell 10 rfl)) ?_; clear Z a; intro a Z
    refine s_runk tLinkG Z 1 rfl rfl ?_; clear Z a; intro a Z
    refine g_ob Z (p := p.ok) (v := .int .i64 i_2.2.1) (S' := [(6, .int .i64 i_2.2.1)]) rfl rfl rfl (wantB_t _) rfl (by decide) (fun hp hS => hS.sub (ts := [6]) rfl) (fun hp => Ob_c tLinkG rfl) ?_; clear Z a; intro a Z
    refine g_ob Z (p := p.ok) (v := .bool (i_2.2.1 == 0)) (S' := [(39, .int .i64 i_2.2.1)]) rfl rfl rfl (wantB_t _) rfl (by decide) (fun hp hS => (hS.conv (t := 39) rfl (cond_t hp)).sub (ts := [39]) rfl) (fun hp => Ob_c tLinkG rfl) ?_; clear Z a; intro a Z
    refine s_ob Z (v := .bool (p.ok && (i_2.2.1 == 0))) rfl rfl (by decide) rfl (Ob_pick rfl rfl rfl rfl (pick_and _ _)) ?_; clear Z a; intro a Z
    refine s_runk tLinkG Z 1 rfl rfl ?_; clear Z a; intro a Z
    refine g_ob Z (p := (p.ok && (i_2.2.1 == 0))) (v := (tupAt (vals2 13) 0)) (S' := [(5, (tupAt (vals2 13) 0))]) rfl rfl rfl (wantB_t _) rfl (by decide) (fun hp hS => hS.sub (ts := [5]) rfl) (fun hp => Ob_c tLinkG rfl) ?_; clear Z a; intro a Z
    refine g_ob Z (p := (p.ok && (i_2.2.1 == 0))) (v := .int .i64 (i_2.1.length : Int)) (S' := [(43, (tupAt (vals2 13) 0))]) rfl rfl rfl (wantB_t _) rfl (by decide) (fun hp hS => (hS.conv (t := 43) rfl (cond_t hp)).sub (ts := [43]) rfl) (fun hp => Ob_slen tLinkG rfl rfl rfl (H.slshape 1 rfl)) ?_; clear Z a; intro a Z
    refine g_ob Z (p := (p.ok && (i_2.2.1 == 0))) (v := .bool (decide ((i_2.1.length : Int) ≤ 1))) (S' := [(44, .int .i64 (i_2.1.length : Int))]) rfl rfl rfl (wantB_t _) rfl (by decide) (fun hp hS => (hS.conv (t := 44) rfl (cond_t hp)).sub (ts := [44]) rfl) (fun hp => Ob_c tLinkG rfl) ?_; clear Z a; intro a Z
    refine s_ob Z (v := .bool ((p.ok && (i_2.2.1 == 0)) && (decide ((i_2.1.length : Int) ≤ 1)))) rfl rfl (by decide) rfl (Ob_pick rfl rfl rfl rfl (pick_and _ _)) ?_; clear Z a; intro a Z
    refine s_runk tLinkG Z 2 rfl rfl ?_; clear Z a; intro a Z
    refine h_store tLinkG Z H 2 rfl rfl rfl rfl rfl rfl rfl rfl rfl (one_cons rfl one_nil) (Nat.le_of_ble_eq_true rfl) rfl ?_; clear H; intro w10 H
    dsimp only [List.eraseIdx] at H
    refine s_end Z [0, 4, 5] rfl ?_; clear Z; intro Z
    refine p_then (wp_seq (f_region Z ?_)); clear Z; intro Z
    refine s_runk tLinkG Z 1 rfl rfl ?_; clear Z a; intro a Z
    refine s_end Z [0, 4, 5, 7] rfl ?_; clear Z; intro Z
    refine p_then (wp_block ?_)
    replace H : Hf I D w I4 w10 [PtC OElink_Link (.pointer (some ⟨b1, 0, none⟩)) (some i_2.2.2), BxC b_p 60 [.pointer (some ⟨b1, 0, none⟩), v2, .int .i64 (p.boot.getD 0 0), .int .i64 (p.boot.getD 1 0), v3, v4, .int .i64 (p.sent.getD 0 0), .int .i64 (p.sent.getD 1 0), .int .i64 (p.told.getD 0 0), .int .i64 (p.told.getD 1 0), .bool ((p.ok && (i_2.2.1 == 0)) && (decide ((i_2.1.length : Int) ≤ 1)))], SlC NS (tupAt (vals2 13) 0) i_2.1, PtC OElink_Link v2 (p.l.getD 1 none), OwC NESeg 31 v3 p.way, OwC Ni64 3 v4 p.to_] := H.mkS (K := OElink_Link) 1 rfl
    replace H : Hf I D w I4 w10 [OElaw22_pair b_p ({ p with l := [some i_2.2.2, (p.l.getD 1 none)], ok := (p.ok && (i_2.2.1 == 0)) && (decide ((i_2.1.length : Int) ≤ 1)) } : Elaw22_pair), SlC NS (tupAt (vals2 13) 0) i_2.1] := H.shutX (.pointer (some ⟨b1, 0, none⟩), v2, v3, v4) [(1, false), (0, false), (1, false), (1, false), (1, false)] rfl
    refine f_iter hF (fun sg a' w' => match sg with | (k_2, p_3) => Sl 98 [(0, .pointer (some ⟨b_p, 0, none⟩)), (4, .int .i64 (p.to_.getD (i).toNat default)), (5, (tupAt (vals2 13) 0)), (7, .int .i64 k_2)] a' ∧ ∃ I2, Hf I D w I2 w' [OElaw22_pair b_p p_3, SlC NS (tupAt (vals2 13) 0) i_2.1]) ⟨Z.sub (ts := [0, 4, 5, 7]) rfl, ⟨I4, (H.sub [(0, false), (0, true)] rfl).eq rfl⟩⟩ ?_
    clear Z H hF a
    rintro rc_2 ⟨k_2, p_3⟩ a w11 ⟨Z, I5, H⟩ hF
    unfold F_law22_pair_come_l2 at hF
    try dsimp only at hF
    refine wp_seq ?_
    refine wp_seq (f_region Z ?_); clear Z; intro Z
    refine s_runk tLinkG Z 2 rfl rfl ?_; clear Z a; intro a Z
    refine s_ob Z (v := .int .i64 (i_2.1.length : Int)) rfl rfl (by decide) rfl (Ob_slen tLinkG rfl rfl rfl (H.slshape 1 rfl)) ?_; clear Z a; intro a Z
    refine s_runk tLinkG Z 2 rfl rfl ?_; clear Z a; intro a Z
    refine g_ob Z (p := (decide (k_2 < (i_2.1.length : Int)))) (v := .int .i64 k_2) (S' := [(7, .int .i64 k_2)]) rfl rfl rfl (wantB_t _) rfl (by decide) (fun hp hS => hS.sub (ts := [7]) rfl) (fun hp => Ob_c tLinkG rfl) ?_; clear Z a; intro a Z
    refine g_ob Z (p := (decide (k_2 < (i_2.1.length : Int)))) (v := .bool (decide (k_2 < 2))) (S' := [(54, .int .i64 k_2)]) rfl rfl rfl (wantB_t _) rfl (by decide) (fun hp hS => (hS.conv (t := 54) rfl (cond_t hp)).sub (ts := [54]) rfl) (fun hp => Ob_c tLinkG rfl) ?_; clear Z a; intro a Z
    refine s_ob Z (v := .bool ((decide (k_2 < (i_2.1.length : Int))) && (decide (k_2 < 2)))) rfl rfl (by decide) rfl (Ob_pick rfl rfl rfl rfl (pick_and _ _)) ?_; clear Z a; intro a Z
    refine s_end Z [0, 4, 5, 7, 49, 50, 51, 52, 53, 56] rfl ?_; clear Z; intro Z
    refine p_then ?_
    refine f_cond Z rfl (fun hc2 => ?_) (fun hc2 => ?_)
    ·replace hF := ite_t hc2 hF
     refine wp_skip ?_
     refine p_then (wp_seq ?_)
     refine wp_block ?_
     refine wp_seq ?_
     obtain ⟨hg9, hF⟩ := chk_in hF
     obtain ⟨n0_3, hx4, hF⟩ := bnd_in hF
     refine f_region Z ?_; clear Z; intro Z
     refine s_runk tLinkG Z 2 rfl rfl ?_; clear Z a; intro a Z
     refine s_ob Z (v := .pointer (some ⟨blkOf (tupAt (vals2 13) 0), oofOf (tupAt (vals2 13) 0) + (k_2).toNat * 1, none⟩)) rfl rfl (by decide) rfl (Ob_sidx tLinkG rfl rfl rfl rfl (slPl (H.sl 1 rfl) hg9) hg9) ?_; clear Z a; intro a Z
     refine s_ob Z (v := .string (i_2.1.getD (k_2).toNat default)) rfl rfl (by decide) rfl (Ob_load tLinkG rfl rfl rfl ((slFl (H.sl 1 rfl) hg9) 0 _ rfl)) ?_; clear Z a; intro a Z
     refine h_call Z H (js := []) rfl (caps := #[]) fn_38_YLinkG rfl rfl rfl rfl rfl (by decide) rfl rfl (fun D1 hS => have hq := c_law22_numbered hx4 hS; hq) ?_; clear Z a; intro vv a w12 D2 hr hF2 Z
     obtain ⟨rfl, I6, K⟩ := hr
     have H : Hf I D w I6 w12 [OElaw22_pair b_p p_3, SlC NS (tupAt (vals2 13) 0) i_2.1] := hF2 K
     clear hF2 K
     refine s_runk tLinkG Z 1 rfl rfl ?_; clear Z a; intro a Z
     refine s_end Z [0, 4, 5, 7, 49, 50, 51, 52, 53, 56, 59, 60, 61, 62, 63, 8] rfl ?_; clear Z; intro Z
     refine p_then (wp_seq ?_)
     refine bsplit ((1 - (p.to_.getD (i).toNat default)) == 0) (fun hi4 => ?_) (fun hi4 => ?_)
     ·replace hF := ite_t hi4 hF
      obtain ⟨hg10, hF⟩ := chk_in hF
      refine f_region Z ?_; clear Z; intro Z
      refine s_runk tLinkG Z 4 rfl rfl ?_; clear Z a; intro a Z
      obtain ⟨⟨v13, v14, v15, v16⟩, H⟩ := H.openX 0 rfl
      replace H : Hf I D w I6 w12 [BxC b_p 60 [v13, v14, .int .i64 (p_3.boot.getD 0 0), .int .i64 (p_3.boot.getD 1 0), v15, v16, .int .i64 (p_3.sent.getD 0 0), .int .i64 (p_3.sent.getD 1 0), .int .i64 (p_3.told.getD 0 0), .int .i64 (p_3.told.getD 1 0), .bool p_3.ok], PtC OElink_Link v13 (p_3.l.getD 0 none), PtC OElink_Link v14 (p_3.l.getD 1 none), OwC NESeg 31 v15 p_3.way, OwC Ni64 3 v16 p_3.to_, SlC NS (tupAt (vals2 13) 0) i_2.1] := H
      refine s_ob Z (v := .bool p_3.ok) rfl rfl (by decide) rfl (Ob_load tLinkG rfl rfl rfl ((H.bx 0 rfl).cell 10 rfl)) ?_; clear Z a; intro a Z
      refine s_runk tLinkG Z 1 rfl rfl ?_; clear Z a; intro a Z
      refine g_ob Z (p := p_3.ok) (v := .int .i64 n0_3) (S' := [(8, .int .i64 n0_3)]) rfl rfl rfl (wantB_t _) rfl (by decide) (fun hp hS => hS.sub (ts := [8]) rfl) (fun hp => Ob_c tLinkG rfl) ?_; clear Z a; intro a Z
      refine g_ob Z (p := p_3.ok) (v := .pointer (some ⟨b_p, 0, none⟩)) (S' := [(0, .pointer (some ⟨b_p, 0, none⟩))]) rfl rfl rfl (wantB_t _) rfl (by decide) (fun hp hS => hS.sub (ts := [0]) rfl) (fun hp => Ob_c tLinkG rfl) ?_; clear Z a; intro a Z
      refine g_ob Z (p := p_3.ok) (v := .int .i64 (p.to_.getD (i).toNat default)) (S' := [(4, .int .i64 (p.to_.getD (i).toNat default))]) rfl rfl rfl (wantB_t _) rfl (by decide) (fun hp hS => hS.sub (ts := [4]) rfl) (fun hp => Ob_c tLinkG rfl) ?_; clear Z a; intro a Z
      refine g_ob Z (p := p_3.ok) (v := .pointer (some ⟨b_p, 0, none⟩)) (S' := [(71, .pointer (some ⟨b_p, 0, none⟩))]) rfl rfl rfl (wantB_t _) rfl (by decide) (fun hp hS => (hS.conv (t := 71) rfl (cond_t hp)).sub (ts := [71]) rfl) (fun hp => Ob_c tLinkG rfl) ?_; clear Z a; intro a Z
      refine g_ob Z (p := p_3.ok) (v := .pointer (some ⟨b_p, 8, none⟩)) (S' := [(73, .pointer (some ⟨b_p, 0, none⟩))]) rfl rfl rfl (wantB_t _) rfl (by decide) (fun hp hS => (hS.conv (t := 73) rfl (cond_t hp)).sub (ts := [73]) rfl) (fun hp => Ob_c tLinkG rfl) ?_; clear Z a; intro a Z
      refine g_ob Z (p := p_3.ok) (v := .pointer (some ⟨b_p, 8, none⟩)) (S' := [(74, .pointer (some ⟨b_p, 8, none⟩)), (72, .int .i64 (p.to_.getD (i).toNat default))]) rfl rfl rfl (wantB_t _) rfl (by decide) (fun hp hS => ((hS.conv (t := 74) rfl (cond_t hp)).conv (t := 72) rfl (cond_t hp)).sub (ts := [74, 72]) rfl) (fun hp => Ob_apix (m := 1) 0 rfl rfl rfl Try.underlying57 (by kernel_rfl) (eq_of_beq hi1) (by decide)) ?_; clear Z a; intro a Z
      refine g_ob Z (p := p_3.ok) (v := .int .i64 (p_3.told.getD 0 0)) (S' := [(75, .pointer (some ⟨b_p, 8, none⟩))]) rfl rfl rfl (wantB_t _) rfl (by decide) (fun hp hS => (hS.conv (t := 75) rfl (cond_t hp)).sub (ts := [75]) rfl) (fun hp => Ob_load tLinkG rfl rfl rfl ((H.bx 0 rfl).cell 8 rfl)) ?_; clear Z a; intro a Z
      refine g_ob Z (p := p_3.ok) (v := .bool (decide (n0_3 > (p_3.told.getD 0 0)))) (S' := [(70, .int .i64 n0_3), (76, .int .i64 (p_3.told.getD 0 0))]) rfl rfl rfl (wantB_t _) rfl (by decide) (fun hp hS => ((hS.conv (t := 70) rfl (cond_t hp)).conv (t := 76) rfl (cond_t hp)).sub (ts := [70, 76]) rfl) (fun hp => Ob_c tLinkG rfl) ?_; clear Z a; intro a Z
      refine s_ob Z (v := .bool (p_3.ok && (decide (n0_3 > (p_3.told.getD 0 0))))) rfl rfl (by decide) rfl (Ob_pick rfl rfl rfl rfl (pick_and _ _)) ?_; clear Z a; intro a Z
      refine s_runk tLinkG Z 1 rfl rfl ?_; clear Z a; intro a Z
      refine g_ob Z (p := (p_3.ok && (decide (n0_3 > (p_3.told.getD 0 0))))) (v := .int .i64 n0_3) (S' := [(8, .int .i64 n0_3)]) rfl rfl rfl (wantB_t _) rfl (by decide) (fun hp hS => hS.sub (ts := [8]) rfl) (fun hp => Ob_c tLinkG rfl) ?_; clear Z a; intro a Z
      refine g_ob Z (p := (p_3.ok && (decide (n0_3 > (p_3.told.getD 0 0))))) (v := .pointer (some ⟨b_p, 0, none⟩)) (S' := [(0, .pointer (some ⟨b_p, 0, none⟩))]) rfl rfl rfl (wantB_t _) rfl (by decide) (fun hp hS => hS.sub (ts := [0]) rfl) (fun hp => Ob_c tLinkG rfl) ?_; clear Z a; intro a Z
      refine g_ob Z (p := (p_3.ok && (decide (n0_3 > (p_3.told.getD 0 0))))) (v := .int .i64 (p.to_.getD (i).toNat default)) (S' := [(4, .int .i64 (p.to_.getD (i).toNat default))]) rfl rfl rfl (wantB_t _) rfl (by decide) (fun hp hS => hS.sub (ts := [4]) rfl) (fun hp => Ob_c tLinkG rfl) ?_; clear Z a; intro a Z
      refine g_ob Z (p := (p_3.ok && (decide (n0_3 > (p_3.told.getD 0 0))))) (v := .int .i64 (1 - (p.to_.getD (i).toNat default))) (S' := [(82, .int .i64 (p.to_.getD (i).toNat default))]) rfl rfl rfl (wantB_t _) rfl (by decide) (fun hp hS => (hS.conv (t := 82) rfl (cond_t hp)).sub (ts := [82]) rfl) (fun hp => Ob_sub rfl rfl rfl (wrI (hg10 hp))) ?_; clear Z a; intro a Z
      refine g_ob Z (p := (p_3.ok && (decide (n0_3 > (p_3.told.getD 0 0))))) (v := .pointer (some ⟨b_p, 0, none⟩)) (S' := [(81, .pointer (some ⟨b_p, 0, none⟩))]) rfl rfl rfl (wantB_t _) rfl (by decide) (fun hp hS => (hS.conv (t := 81) rfl (cond_t hp)).sub (ts := [81]) rfl) (fun hp => Ob_c tLinkG rfl) ?_; clear Z a; intro a Z
      refine g_ob Z (p := (p_3.ok && (decide (n0_3 > (p_3.told.getD 0 0))))) (v := .pointer (some ⟨b_p, 6, none⟩)) (S' := [(84, .pointer (some ⟨b_p, 0, none⟩))]) rfl rfl rfl (wantB_t _) rfl (by decide) (fun hp hS => (hS.conv (t := 84) rfl (cond_t hp)).sub (ts := [84]) rfl) (fun hp => Ob_c tLinkG rfl) ?_; clear Z a; intro a Z
      refine g_ob Z (p := (p_3.ok && (decide (n0_3 > (p_3.told.getD 0 0))))) (v := .pointer (some ⟨b_p, 6, none⟩)) (S' := [(85, .pointer (some ⟨b_p, 6, none⟩)), (83, .int .i64 (1 - (p.to_.getD (i).toNat default)))]) rfl rfl rfl (wantB_t _) rfl (by decide) (fun hp hS => ((hS.conv (t := 85) rfl (cond_t hp)).conv (t := 83) rfl (cond_t hp)).sub (ts := [85, 83]) rfl) (fun hp => Ob_apix (m := 1) 0 rfl rfl rfl Try.underlying57 (by kernel_rfl) (eq_of_beq hi4) (by decide)) ?_; clear Z a; intro a Z
      refine g_ob Z (p := (p_3.ok && (decide (n0_3 > (p_3.told.getD 0 0))))) (v := .int .i64 (p_3.sent.getD 0 0)) (S' := [(86, .pointer (some ⟨b_p, 6, none⟩))]) rfl rfl rfl (wantB_t _) rfl (by decide) (fun hp hS => (hS.conv (t := 86) rfl (cond_t hp)).sub (ts := [86]) rfl) (fun hp => Ob_load tLinkG rfl rfl rfl ((H.bx 0 rfl).cell 6 rfl)) ?_; clear Z a; intro a Z
      refine g_ob Z (p := (p_3.ok && (decide (n0_3 > (p_3.told.getD 0 0))))) (v := .bool (decide (n0_3 ≤ (p_3.sent.getD 0 0)))) (S' := [(80, .int .i64 n0_3), (87, .int .i64 (p_3.sent.getD 0 0))]) rfl rfl rfl (wantB_t _) rfl (by decide) (fun hp hS => ((hS.conv (t := 80) rfl (cond_t hp)).conv (t := 87) rfl (cond_t hp)).sub (ts := [80, 87]) rfl) (fun hp => Ob_c tLinkG rfl) ?_; clear Z a; intro a Z
      refine s_ob Z (v := .bool ((p_3.ok && (decide (n0_3 > (p_3.told.getD 0 0)))) && (decide (n0_3 ≤ (p_3.sent.getD 0 0))))) rfl rfl (by decide) rfl (Ob_pick rfl rfl rfl rfl (pick_and _ _)) ?_; clear Z a; intro a Z
      refine s_runk tLinkG Z 2 rfl rfl ?_; clear Z a; intro a Z
      refine h_store tLinkG Z H 0 rfl rfl rfl rfl rfl rfl rfl rfl rfl (one_cons rfl one_nil) (Nat.le_of_ble_eq_true rfl) rfl ?_; clear H; intro w13 H
      dsimp only [List.eraseIdx] at H
      refine s_end Z [0, 4, 5, 7, 49, 50, 51, 52, 53, 56, 59, 60, 61, 62, 63, 8, 64, 65, 66, 67, 68, 69, 78, 79, 89, 90, 91] rfl ?_; clear Z; intro Z
      refine p_then ?_
      refine f_region Z ?_; clear Z; intro Z
      refine s_runk tLinkG Z 5 rfl rfl ?_; clear Z a; intro a Z
      refine s_ob Z (v := .pointer (some ⟨b_p, 8, none⟩)) rfl rfl (by decide) rfl (Ob_apix (m := 1) 0 rfl rfl rfl Try.underlying57 (by kernel_rfl) (eq_of_beq hi1) (by decide)) ?_; clear Z a; intro a Z
      refine h_store tLinkG Z H 0 rfl rfl rfl rfl rfl rfl rfl rfl rfl (one_cons rfl one_nil) (Nat.le_of_ble_eq_true rfl) rfl ?_; clear H; intro w14 H
      dsimp only [List.eraseIdx] at H
      refine s_end Z [0, 4, 5, 7, 49, 50, 51, 52, 53, 56, 59, 60, 61, 62, 63, 8, 64, 65, 66, 67, 68, 69, 78, 79, 89, 90, 91, 92, 93, 94, 95, 96, 97] rfl ?_; clear Z; intro Z
      refine p_blk ?_
      refine p_then ?_
      obtain ⟨hg11, hF⟩ := chk_in hF
      refine f_region Z ?_; clear Z; intro Z
      refine s_runk tLinkG Z 1 rfl rfl ?_; clear Z a; intro a Z
      refine s_ob Z (v := .int .i64 (k_2 + 1)) rfl rfl (by decide) rfl (Ob_add rfl rfl rfl (wrI hg11)) ?_; clear Z a; intro a Z
      refine s_runk tLinkG Z 1 rfl rfl ?_; clear Z a; intro a Z
      refine s_end Z [0, 4, 5, 7, 49, 50, 51, 52, 53, 56, 59, 60, 61, 62, 63, 8, 64, 65, 66, 67, 68, 69, 78, 79, 89, 90, 91, 92, 93, 94, 95, 96, 97, 57, 58] rfl ?_; clear Z; intro Z
      refine p_then ?_
      replace H : Hf I D w I6 w14 [OElaw22_pair b_p ({ p_3 with told := [n0_3, (p_3.told.getD 1 0)], ok := (p_3.ok && (decide (n0_3 > (p_3.told.getD 0 0)))) && (decide (n0_3 ≤ (p_3.sent.getD 0 0))) } : Elaw22_pair), SlC NS (tupAt (vals2 13) 0) i_2.1] := H.shutX (v13, v14, v15, v16) [(0, false), (0, false), (0, false), (0, false), (0, false)] rfl
      exact ⟨(k_2 + 1, ({ p_3 with told := [n0_3, (p_3.told.getD 1 0)], ok := (p_3.ok && (decide (n0_3 > (p_3.told.getD 0 0)))) && (decide (n0_3 ≤ (p_3.sent.getD 0 0))) } : Elaw22_pair)), ⟨Z.sub (ts := [0, 4, 5, 7]) rfl, ⟨I6, (H.sub [(0, false), (0, true)] rfl).eq rfl⟩⟩, hF⟩
     replace hF := ite_f hi4 hF
     refine bsplit ((1 - (p.to_.getD (i).toNat default)) == 1) (fun hi5 => ?_) (fun hi5 => ?_)
     ·replace hF := ite_t hi5 hF
      obtain ⟨hg12, hF⟩ := chk_in hF
      refine f_region Z ?_; clear Z; intro Z
      refine s_runk tLinkG Z 4 rfl rfl ?_; clear Z a; intro a Z
      obtain ⟨⟨v17, v18, v19, v20⟩, H⟩ := H.openX 0 rfl
      replace H : Hf I D w I6 w12 [BxC b_p 60 [v17, v18, .int .i64 (p_3.boot.getD 0 0), .int .i64 (p_3.boot.getD 1 0), v19, v20, .int .i64 (p_3.sent.getD 0 0), .int .i64 (p_3.sent.getD 1 0), .int .i64 (p_3.told.getD 0 0), .int .i64 (p_3.told.getD 1 0), .bool p_3.ok], PtC OElink_Link v17 (p_3.l.getD 0 none), PtC OElink_Link v18 (p_3.l.getD 1 none), OwC NESeg 31 v19 p_3.way, OwC Ni64 3 v20 p_3.to_, SlC NS (tupAt (vals2 13) 0) i_2.1] := H
      refine s_ob Z (v := .bool p_3.ok) rfl rfl (by decide) rfl (Ob_load tLinkG rfl rfl rfl ((H.bx 0 rfl).cell 10 rfl)) ?_; clear Z a; intro a Z
      refine s_runk tLinkG Z 1 rfl rfl ?_; clear Z a; intro a Z
      refine g_ob Z (p := p_3.ok) (v := .int .i64 n0_3) (S' := [(8, .int .i64 n0_3)]) rfl rfl rfl (wantB_t _) rfl (by decide) (fun hp hS => hS.sub (ts := [8]) rfl) (fun hp => Ob_c tLinkG rfl) ?_; clear Z a; intro a Z
      refine g_ob Z (p := p_3.ok) (v := .pointer (some ⟨b_p, 0, none⟩)) (S' := [(0, .pointer (some ⟨b_p, 0, none⟩))]) rfl rfl rfl (wantB_t _) rfl (by decide) (fun hp hS => hS.sub (ts := [0]) rfl) (fun hp => Ob_c tLinkG rfl) ?_; clear Z a; intro a Z
      refine g_ob Z (p := p_3.ok) (v := .int .i64 (p.to_.getD (i).toNat default)) (S' := [(4, .int .i64 (p.to_.getD (i).toNat default))]) rfl rfl rfl (wantB_t _) rfl (by decide) (fun hp hS => hS.sub (ts := [4]) rfl) (fun hp => Ob_c tLinkG rfl) ?_; clear Z a; intro a Z
      refine g_ob Z (p := p_3.ok) (v := .pointer (some ⟨b_p, 0, none⟩)) (S' := [(71, .pointer (some ⟨b_p, 0, none⟩))]) rfl rfl rfl (wantB_t _) rfl (by decide) (fun hp hS => (hS.conv (t := 71) rfl (cond_t hp)).sub (ts := [71]) rfl) (fun hp => Ob_c tLinkG rfl) ?_; clear Z a; intro a Z
      refine g_ob Z (p := p_3.ok) (v := .pointer (some ⟨b_p, 8, none⟩)) (S' := [(73, .pointer (some ⟨b_p, 0, none⟩))]) rfl rfl rfl (wantB_t _) rfl (by decide) (fun hp hS => (hS.conv (t := 73) rfl (cond_t hp)).sub (ts := [73]) rfl) (fun hp => Ob_c tLinkG rfl) ?_; clear Z a; intro a Z
      refine g_ob Z (p := p_3.ok) (v := .pointer (some ⟨b_p, 8, none⟩)) (S' := [(74, .pointer (some ⟨b_p, 8, none⟩)), (72, .int .i64 (p.to_.getD (i).toNat default))]) rfl rfl rfl (wantB_t _) rfl (by decide) (fun hp hS => ((hS.conv (t := 74) rfl (cond_t hp)).conv (t := 72) rfl (cond_t hp)).sub (ts := [74, 72]) rfl) (fun hp => Ob_apix (m := 1) 0 rfl rfl rfl Try.underlying57 (by kernel_rfl) (eq_of_beq hi1) (by decide)) ?_; clear Z a; intro a Z
      refine g_ob Z (p := p_3.ok) (v := .int .i64 (p_3.told.getD 0 0)) (S' := [(75, .pointer (some ⟨b_p, 8, none⟩))]) rfl rfl rfl (wantB_t _) rfl (by decide) (fun hp hS => (hS.conv (t := 75) rfl (cond_t hp)).sub (ts := [75]) rfl) (fun hp => Ob_load tLinkG rfl rfl rfl ((H.bx 0 rfl).cell 8 rfl)) ?_; clear Z a; intro a Z
      refine g_ob Z (p := p_3.ok) (v := .bool (decide (n0_3 > (p_3.told.getD 0 0)))) (S' := [(70, .int .i64 n0_3), (76, .int .i64 (p_3.told.getD 0 0))]) rfl rfl rfl (wantB_t _) rfl (by decide) (fun hp hS => ((hS.conv (t := 70) rfl (cond_t hp)).conv (t := 76) rfl (cond_t hp)).sub (ts := [70, 76]) rfl) (fun hp => Ob_c tLinkG rfl) ?_; clear Z a; intro a Z
      refine s_ob Z (v := .bool (p_3.ok && (decide (n0_3 > (p_3.told.getD 0 0))))) rfl rfl (by decide) rfl (Ob_pick rfl rfl rfl rfl (pick_and _ _)) ?_; clear Z a; intro a Z
      refine s_runk tLinkG Z 1 rfl rfl ?_; clear Z a; intro a Z
      refine g_ob Z (p := (p_3.ok && (decide (n0_3 > (p_3.told.getD 0 0))))) (v := .int .i64 n0_3) (S' := [(8, .int .i64 n0_3)]) rfl rfl rfl (wantB_t _) rfl (by decide) (fun hp hS => hS.sub (ts := [8]) rfl) (fun hp => Ob_c tLinkG rfl) ?_; clear Z a; intro a Z
      refine g_ob Z (p := (p_3.ok && (decide (n0_3 > (p_3.told.getD 0 0))))) (v := .pointer (some ⟨b_p, 0, none⟩)) (S' := [(0, .pointer (some ⟨b_p, 0, none⟩))]) rfl rfl rfl (wantB_t _) rfl (by decide) (fun hp hS => hS.sub (ts := [0]) rfl) (fun hp => Ob_c tLinkG rfl) ?_; clear Z a; intro a Z
      refine g_ob Z (p := (p_3.ok && (decide (n0_3 > (p_3.told.getD 0 0))))) (v := .int .i64 (p.to_.getD (i).toNat default)) (S' := [(4, .int .i64 (p.to_.getD (i).toNat default))]) rfl rfl rfl (wantB_t _) rfl (by decide) (fun hp hS => hS.sub (ts := [4]) rfl) (fun hp => Ob_c tLinkG rfl) ?_; clear Z a; intro a Z
      refine g_ob Z (p := (p_3.ok && (decide (n0_3 > (p_3.told.getD 0 0))))) (v := .int .i64 (1 - (p.to_.getD (i).toNat default))) (S' := [(82, .int .i64 (p.to_.getD (i).toNat default))]) rfl rfl rfl (wantB_t _) rfl (by decide) (fun hp hS => (hS.conv (t := 82) rfl (cond_t hp)).sub (ts := [82]) rfl) (fun hp => Ob_sub rfl rfl rfl (wrI (hg12 hp))) ?_; clear Z a; intro a Z
      refine g_ob Z (p := (p_3.ok && (decide (n0_3 > (p_3.told.getD 0 0))))) (v := .pointer (some ⟨b_p, 0, none⟩)) (S' := [(81, .pointer (some ⟨b_p, 0, none⟩))]) rfl rfl rfl (wantB_t _) rfl (by decide) (fun hp hS => (hS.conv (t := 81) rfl (cond_t hp)).sub (ts := [81]) rfl) (fun hp => Ob_c tLinkG rfl) ?_; clear Z a; intro a Z
      refine g_ob Z (p := (p_3.ok && (decide (n0_3 > (p_3.told.getD 0 0))))) (v := .pointer (some ⟨b_p, 6, none⟩)) (S' := [(84, .pointer (some ⟨b_p, 0, none⟩))]) rfl rfl rfl (wantB_t _) rfl (by decide) (fun hp hS => (hS.conv (t := 84) rfl (cond_t hp)).sub (ts := [84]) rfl) (fun hp => Ob_c tLinkG rfl) ?_; clear Z a; intro a Z
      refine g_ob Z (p := (p_3.ok && (decide (n0_3 > (p_3.told.getD 0 0))))) (v := .pointer (some ⟨b_p, 7, none⟩)) (S' := [(85, .pointer (some ⟨b_p, 6, none⟩)), (83, .int .i64 (1 - (p.to_.getD (i).toNat default)))]) rfl rfl rfl (wantB_t _) rfl (by decide) (fun hp hS => ((hS.conv (t := 85) rfl (cond_t hp)).conv (t := 83) rfl (cond_t hp)).sub (ts := [85, 83]) rfl) (fun hp => Ob_apix (m := 1) 1 rfl rfl rfl Try.underlying57 (by kernel_rfl) (eq_of_beq hi5) (by decide)) ?_; clear Z a; intro a Z
      refine g_ob Z (p := (p_3.ok && (decide (n0_3 > (p_3.told.getD 0 0))))) (v := .int .i64 (p_3.sent.getD 1 0)) (S' := [(86, .pointer (some ⟨b_p, 7, none⟩))]) rfl rfl rfl (wantB_t _) rfl (by decide) (fun hp hS => (hS.conv (t := 86) rfl (cond_t hp)).sub (ts := [86]) rfl) (fun hp => Ob_load tLinkG rfl rfl rfl ((H.bx 0 rfl).cell 7 rfl)) ?_; clear Z a; intro a Z
      refine g_ob Z (p := (p_3.ok && (decide (n0_3 > (p_3.told.getD 0 0))))) (v := .bool (decide (n0_3 ≤ (p_3.sent.getD 1 0)))) (S' := [(80, .int .i64 n0_3), (87, .int .i64 (p_3.sent.getD 1 0))]) rfl rfl rfl (wantB_t _) rfl (by decide) (fun hp hS => ((hS.conv (t := 80) rfl (cond_t hp)).conv (t := 87) rfl (cond_t hp)).sub (ts := [80, 87]) rfl) (fun hp => Ob_c tLinkG rfl) ?_; clear Z a; intro a Z
      refine s_ob Z (v := .bool ((p_3.ok && (decide (n0_3 > (p_3.told.getD 0 0)))) && (decide (n0_3 ≤ (p_3.sent.getD 1 0))))) rfl rfl (by decide) rfl (Ob_pick rfl rfl rfl rfl (pick_and _ _)) ?_; clear Z a; intro a Z
      refine s_runk tLinkG Z 2 rfl rfl ?_; clear Z a; intro a Z
      refine h_store tLinkG Z H 0 rfl rfl rfl rfl rfl rfl rfl rfl rfl (one_cons rfl one_nil) (Nat.le_of_ble_eq_true rfl) rfl ?_; clear H; intro w15 H
      dsimp only [List.eraseIdx] at H
      refine s_end Z [0, 4, 5, 7, 49, 50, 51, 52, 53, 56, 59, 60, 61, 62, 63, 8, 64, 65, 66, 67, 68, 69, 78, 79, 89, 90, 91] rfl ?_; clear Z; intro Z
      refine p_then ?_
      refine f_region Z ?_; clear Z; intro Z
      refine s_runk tLinkG Z 5 rfl rfl ?_; clear Z a; intro a Z
      refine s_ob Z (v := .pointer (some ⟨b_p, 8, none⟩)) rfl rfl (by decide) rfl (Ob_apix (m := 1) 0 rfl rfl rfl Try.underlying57 (by kernel_rfl) (eq_of_beq hi1) (by decide)) ?_; clear Z a; intro a Z
      refine h_store tLinkG Z H 0 rfl rfl rfl rfl rfl rfl rfl rfl rfl (one_cons rfl one_nil) (Nat.le_of_ble_eq_true rfl) rfl ?_; clear H; intro w16 H
      dsimp only [List.eraseIdx] at H
      refine s_end Z [0, 4, 5, 7, 49, 50, 51, 52, 53, 56, 59, 60, 61, 62, 63, 8, 64, 65, 66, 67, 68, 69, 78, 79, 89, 90, 91, 92, 93, 94, 95, 96, 97] rfl ?_; clear Z; intro Z
      refine p_blk ?_
      refine p_then ?_
      obtain ⟨hg13, hF⟩ := chk_in hF
      refine f_region Z ?_; clear Z; intro Z
      refine s_runk tLinkG Z 1 rfl rfl ?_; clear Z a; intro a Z
      refine s_ob Z (v := .int .i64 (k_2 + 1)) rfl rfl (by decide) rfl (Ob_add rfl rfl rfl (wrI hg13)) ?_; clear Z a; intro a Z
      refine s_runk tLinkG Z 1 rfl rfl ?_; clear Z a; intro a Z
      refine s_end Z [0, 4, 5, 7, 49, 50, 51, 52, 53, 56, 59, 60, 61, 62, 63, 8, 64, 65, 66, 67, 68, 69, 78, 79, 89, 90, 91, 92, 93, 94, 95, 96, 97, 57, 58] rfl ?_; clear Z; intro Z
      refine p_then ?_
      replace H : Hf I D w I6 w16 [OElaw22_pair b_p ({ p_3 with told := [n0_3, (p_3.told.getD 1 0)], ok := (p_3.ok && (decide (n0_3 > (p_3.told.getD 0 0)))) && (decide (n0_3 ≤ (p_3.sent.getD 1 0))) } : Elaw22_pair), SlC NS (tupAt (vals2 13) 0) i_2.1] := H.shutX (v17, v18, v19, v20) [(0, false), (0, false), (0, false), (0, false), (0, false)] rfl
      exact ⟨(k_2 + 1, ({ p_3 with told := [n0_3, (p_3.told.getD 1 0)], ok := (p_3.ok && (decide (n0_3 > (p_3.told.getD 0 0)))) && (decide (n0_3 ≤ (p_3.sent.getD 1 0))) } : Elaw22_pair)), ⟨Z.sub (ts := [0, 4, 5, 7]) rfl, ⟨I6, (H.sub [(0, false), (0, true)] rfl).eq rfl⟩⟩, hF⟩
     replace hF := ite_f hi5 hF
     cases hF
    ·replace hF := ite_f hc2 hF
     refine wp_exit ?_
     refine p_then_x ?_
     refine p_then_x ?_
     refine f_exit_here ?_
     obtain rfl := some_in hF
     exact f_fall Z (run_results0 rfl) ⟨rfl, I5, (H.sub [(0, false)] rfl).eq rfl⟩
 replace hF := ite_f hi1 hF
 refine bsplit ((p.to_.getD (i).toNat default) == 1) (fun hi6 => ?_) (fun hi6 => ?_)
 ·replace hF := ite_t hi6 hF
  rcases optE_in hF with ⟨ho2, hF⟩ | ⟨x_2, ho2, hF⟩
  ·obtain ⟨hv, H⟩ := H.optN 2 rfl ho2
   subst hv
   replace H : Hf I D w I w [BxC b_p 60 [v1, .pointer none, .int .i64 (p.boot.getD 0 0), .int .i64 (p.boot.getD 1 0), v3, v4, .int .i64 (p.sent.getD 0 0), .int .i64 (p.sent.getD 1 0), .int .i64 (p.told.getD 0 0), .int .i64 (p.told.getD 1 0), .bool p.ok], PtC OElink_Link v1 (p.l.getD 0 none), OwC NESeg 31 v3 p.way, OwC Ni64 3 v4 p.to_] := H
   obtain ⟨hg14, hF⟩ := chk_in hF
   obtain ⟨n0_4, hx5, hF⟩ := bnd_in hF
   refine f_regionM Z (by kernel_rfl) (by kernel_rfl) (by decide) (by decide) [13] [(0, 0, 0), (0, 0, 0), (1, 0, 0), (5, 0, 0), (15, 0, 0), (31, 0, 0), (0, 0, 0), (64, 0, 0), (192, 0, 0), (448, 0, 0), (0, 0, 0), (1984, 0, 0), (4032, 0, 0), (8191, 0, 0), (16383, 1, 1), (32767, 1, 1), (32767, 1, 1), (65535, 1, 1), (262143, 1, 1)] (by kernel_rfl) (fun jj => match jj with | 14 => 13 | 15 => 13 | 17 => 13 | _ => jj) (by kernel_rfl) (fun jj rv vv => cond (Nat.blt jj 9) (cond (Nat.blt jj 4) (cond (Nat.blt jj 2) (cond (Nat.blt jj 1) (vv = .pointer (some ⟨b_p, 0, none⟩)) (vv = .int .i64 (p.to_.getD (i).toNat default))) (cond (Nat.blt jj 3) (vv = .pointer (some ⟨b_p, 0, none⟩)) (vv = .pointer (some ⟨b_p, 0, none⟩)))) (cond (Nat.blt jj 6) (cond (Nat.blt jj 5) (vv = .pointer (some ⟨b_p, 1, none⟩)) (vv = .pointer none)) (cond (Nat.blt jj 7) (vv = .pointer (some ⟨b_p, 0, none⟩)) (cond (Nat.blt jj 8) (vv = .pointer (some ⟨b_p, 0, none⟩)) (vv = .pointer (some ⟨b_p, 4, none⟩)))))) (cond (Nat.blt jj 14) (cond (Nat.blt jj 11) (cond (Nat.blt jj 10) (vv = v3) (vv = .int .i64 i)) (cond (Nat.blt jj 12) (vv = .pointer (some ⟨blkOf v3, oofOf v3 + (i).toNat * 8, none⟩)) (cond (Nat.blt jj 13) (vv = .agg #[.int .i64 ((p.way.getD (i).toNat default).boot), .int .i64 ((p.way.getD (i).toNat default).stream), .int .i64 ((p.way.getD (i).toNat default).seq), .int .i64 ((p.way.getD (i).toNat default).ackBoot), .int .i64 ((p.way.getD (i).toNat default).ackStream), .int .i64 ((p.way.getD (i).toNat default).ackSeq), .bool ((p.way.getD (i).toNat default).has), .string ((p.way.getD (i).toNat default).body)]) (vv = .tuple #[(tupAt vv 0), .int .i64 n0_4.2])))) (cond (Nat.blt jj 16) (cond (Nat.blt jj 15) (vv = .tuple #[(tupAt rv 0), .int .i64 n0_4.2]) (vv = (tupAt rv 0))) (cond (Nat.blt jj 17) (vv = .int .i64 n0_4.2) (cond (Nat.blt jj 18) (vv = (tupAt rv 0)) (vv = .int .i64 n0_4.2)))))) (fun ss vals3 xw => match ss with | 0 => Gx I D w I w xw [BxC b_p 60 [v1, .pointer none, .int .i64 (p.boot.getD 0 0), .int .i64 (p.boot.getD 1 0), v3, v4, .int .i64 (p.sent.getD 0 0), .int .i64 (p.sent.getD 1 0), .int .i64 (p.told.getD 0 0), .int .i64 (p.told.getD 1 0), .bool p.ok], PtC OElink_Link v1 (p.l.getD 0 none), OwC NESeg 31 v3 p.way, OwC Ni64 3 v4 p.to_] | _ => Gx I D w I w xw [SlC NS (tupAt (vals3 13) 0) n0_4.1, BxC b_p 60 [v1, .pointer none, .int .i64 (p.boot.getD 0 0), .int .i64 (p.boot.getD 1 0), v3, v4, .int .i64 (p.sent.getD 0 0), .int .i64 (p.sent.getD 1 0), .int .i64 (p.told.getD 0 0), .int .i64 (p.told.getD 1 0), .bool p.ok], PtC OElink_Link v1 (p.l.getD 0 none), OwC NESeg 31 v3 p.way, OwC Ni64 3 v4 p.to_]) (fun _ => Gx.start H) ?_ ?_
   ·intro fr hfr hfe
    refine .cons (fun ss hlo hhi vals3 xw hG hV => ?_) ?_
    ·obtain rfl : ss = 0 := Nat.le_antisymm hhi hlo
     rw [← hfe]
     have hS := (hfr vals3).sub (ts := [0]) (S' := [(0, .pointer (some ⟨b_p, 0, none⟩))]) rfl
     exact L_val hS rfl (Ob_c tLinkG rfl) ⟨rfl, hG⟩
    refine .cons (fun ss hlo hhi vals3 xw hG hV => ?_) ?_
    ·obtain rfl : ss = 0 := Nat.le_antisymm hhi hlo
     rw [← hfe]
     have hS := (hfr vals3).sub (ts := [4]) (S' := [(4, .int .i64 (p.to_.getD (i).toNat default))]) rfl
     exact L_val hS rfl (Ob_c tLinkG rfl) ⟨rfl, hG⟩
    refine .cons (fun ss hlo hhi vals3 xw hG hV => ?_) ?_
    ·obtain rfl : ss = 0 := Nat.le_antisymm hhi hlo
     rw [← hfe]
     have hS := (hfr vals3).sub (ts := [17]) (S' := [(17, vals3 0)]) rfl
     replace hS := hS.conv (t := 17) rfl (show (vals3 0) = .pointer (some ⟨b_p, 0, none⟩) from hV 0 (by decide))
     exact L_val hS rfl (Ob_c tLinkG rfl) ⟨rfl, hG⟩
    refine .cons (fun ss hlo hhi vals3 xw hG hV => ?_) ?_
    ·obtain rfl : ss = 0 := Nat.le_antisymm hhi hlo
     rw [← hfe]
     have hS := (hfr vals3).sub (ts := [19]) (S' := [(19, vals3 2)]) rfl
     replace hS := hS.conv (t := 19) rfl (show (vals3 2) = .pointer (some ⟨b_p, 0, none⟩) from hV 2 (by decide))
     exact L_val hS rfl (Ob_c tLinkG rfl) ⟨rfl, hG⟩
    refine .cons (fun ss hlo hhi vals3 xw hG hV => ?_) ?_
    ·obtain rfl : ss = 0 := Nat.le_antisymm hhi hlo
     rw [← hfe]
     have hS := (hfr vals3).sub (ts := [20, 18]) (S' := [(20, vals3 3), (18, vals3 1)]) rfl
     replace hS := hS.conv (t := 20) rfl (show (vals3 3) = .pointer (some ⟨b_p, 0, none⟩) from hV 3 (by decide))
     replace hS := hS.conv (t := 18) rfl (show (vals3 1) = .int .i64 (p.to_.getD (i).toNat default) from hV 1 (by decide))
     exact L_val hS rfl (Ob_apix (m := 1) 1 rfl rfl rfl Try.underlying56 (by kernel_rfl) (eq_of_beq hi6) (by decide)) ⟨rfl, hG⟩
    refine .cons (fun ss hlo hhi vals3 xw hG hV => ?_) ?_
    ·obtain rfl : ss = 0 := Nat.le_antisymm hhi hlo
     rw [← hfe]
     have hS := (hfr vals3).sub (ts := [21]) (S' := [(21, vals3 4)]) rfl
     replace hS := hS.conv (t := 21) rfl (show (vals3 4) = .pointer (some ⟨b_p, 1, none⟩) from hV 4 (by decide))
     obtain ⟨I2, hI2, H⟩ := Gx.ex hG
     exact L_val hS rfl (Ob_load tLinkG rfl rfl rfl ((H.bx 0 rfl).cell 1 rfl)) ⟨rfl, hG⟩
    refine .cons (fun ss hlo hhi vals3 xw hG hV => ?_) ?_
    ·obtain rfl : ss = 0 := Nat.le_antisymm hhi hlo
     rw [← hfe]
     have hS := (hfr vals3).sub (ts := [0]) (S' := [(0, .pointer (some ⟨b_p, 0, none⟩))]) rfl
     exact L_val hS rfl (Ob_c tLinkG rfl) ⟨rfl, hG⟩
    refine .cons (fun ss hlo hhi vals3 xw hG hV => ?_) ?_
    ·obtain rfl : ss = 0 := Nat.le_antisymm hhi hlo
     rw [← hfe]
     have hS := (hfr vals3).sub (ts := [23]) (S' := [(23, vals3 6)]) rfl
     replace hS := hS.conv (t := 23) rfl (show (vals3 6) = .pointer (some ⟨b_p, 0, none⟩) from hV 6 (by decide))
     exact L_val hS rfl (Ob_c tLinkG rfl) ⟨rfl, hG⟩
    refine .cons (fun ss hlo hhi vals3 xw hG hV => ?_) ?_
    ·obtain rfl : ss = 0 := Nat.le_antisymm hhi hlo
     rw [← hfe]
     have hS := (hfr vals3).sub (ts := [24]) (S' := [(24, vals3 7)]) rfl
     replace hS := hS.conv (t := 24) rfl (show (vals3 7) = .pointer (some ⟨b_p, 0, none⟩) from hV 7 (by decide))
     exact L_val hS rfl (Ob_c tLinkG rfl) ⟨rfl, hG⟩
    refine .cons (fun ss hlo hhi vals3 xw hG hV => ?_) ?_
    ·obtain rfl : ss = 0 := Nat.le_antisymm hhi hlo
     rw [← hfe]
     have hS := (hfr vals3).sub (ts := [25]) (S' := [(25, vals3 8)]) rfl
     replace hS := hS.conv (t := 25) rfl (show (vals3 8) = .pointer (some ⟨b_p, 4, none⟩) from hV 8 (by decide))
     obtain ⟨I2, hI2, H⟩ := Gx.ex hG
     exact L_val hS rfl (Ob_load tLinkG rfl rfl rfl ((H.bx 0 rfl).cell 4 rfl)) ⟨rfl, hG⟩
    refine .cons (fun ss hlo hhi vals3 xw hG hV => ?_) ?_
    ·obtain rfl : ss = 0 := Nat.le_antisymm hhi hlo
     rw [← hfe]
     have hS := (hfr vals3).sub (ts := [1]) (S' := [(1, .int .i64 i)]) rfl
     exact L_val hS rfl (Ob_c tLinkG rfl) ⟨rfl, hG⟩
    refine .cons (fun ss hlo hhi vals3 xw hG hV => ?_) ?_
    ·obtain rfl : ss = 0 := Nat.le_antisymm hhi hlo
     rw [← hfe]
     have hS := (hfr vals3).sub (ts := [26, 27]) (S' := [(26, vals3 9), (27, vals3 10)]) rfl
     replace hS := hS.conv (t := 26) rfl (show (vals3 9) = v3 from hV 9 (by decide))
     replace hS := hS.conv (t := 27) rfl (show (vals3 10) = .int .i64 i from hV 10 (by decide))
     obtain ⟨I2, hI2, H⟩ := Gx.ex hG
     exact L_val hS rfl (Ob_sidx tLinkG rfl rfl rfl rfl (slPl (H.owA 2 rfl) hg14) hg14) ⟨rfl, hG⟩
    refine .cons (fun ss hlo hhi vals3 xw hG hV => ?_) ?_
    ·obtain rfl : ss = 0 := Nat.le_antisymm hhi hlo
     rw [← hfe]
     have hS := (hfr vals3).sub (ts := [28]) (S' := [(28, vals3 11)]) rfl
     replace hS := hS.conv (t := 28) rfl (show (vals3 11) = .pointer (some ⟨blkOf v3, oofOf v3 + (i).toNat * 8, none⟩) from hV 11 (by decide))
     obtain ⟨I2, hI2, H⟩ := Gx.ex hG
     exact L_val hS rfl (Ob_loads tLinkG rfl rfl rfl ((slFl (H.owA 2 rfl) hg14).part 0 rfl)) ⟨rfl, hG⟩
    refine .cons (fun ss hlo hhi vals3 xw hG hV => ?_) ?_
    ·obtain rfl : ss = 0 := Nat.le_antisymm hhi hlo
     rw [← hfe]
     have hS := (hfr vals3).sub (ts := [22, 29]) (S' := [(22, vals3 5), (29, vals3 12)]) rfl
     replace hS := hS.conv (t := 22) rfl (show (vals3 5) = .pointer none from hV 5 (by decide))
     replace hS := hS.conv (t := 29) rfl (show (vals3 12) = .agg #[.int .i64 ((p.way.getD (i).toNat default).boot), .int .i64 ((p.way.getD (i).toNat default).stream), .int .i64 ((p.way.getD (i).toNat default).seq), .int .i64 ((p.way.getD (i).toNat default).ackBoot), .int .i64 ((p.way.getD (i).toNat default).ackStream), .int .i64 ((p.way.getD (i).toNat default).ackSeq), .bool ((p.way.getD (i).toNat default).has), .string ((p.way.getD (i).toNat default).body)] from hV 12 (by decide))
     obtain ⟨I2, hI2, H⟩ := Gx.ex hG
     refine L_hcall H (js := []) rfl (caps := #[]) hS fn_15_YLinkG rfl rfl rfl rfl rfl (fun D1 hS => have hq := c_link_Link_In_nil hx5 hS; hq) fun _ yw D1 hr hF2 => ?_
     obtain ⟨q0_, rfl, I3, K⟩ := hr
     obtain ⟨hK, H2⟩ := hF2 K
     exact ⟨rfl, Gx.go hG hI2 hK K.imm H2⟩
    refine .cons (fun ss hlo hhi vals3 xw hG hV => ?_) ?_
    ·obtain rfl : ss = 1 := Nat.le_antisymm hhi hlo
     rw [← hfe]
     have hS := (hfr vals3).sub (ts := [30]) (S' := [(30, vals3 13)]) rfl
     replace hS := hS.conv (t := 30) rfl (show (vals3 13) = .tuple #[(tupAt (vals3 13) 0), .int .i64 n0_4.2] from hV 13 (by decide))
     exact L_val hS rfl (Ob_c tLinkG rfl) ⟨rfl, hG⟩
    refine .cons (fun ss hlo hhi vals3 xw hG hV => ?_) ?_
    ·obtain rfl : ss = 1 := Nat.le_antisymm hhi hlo
     rw [← hfe]
     have hS := (hfr vals3).sub (ts := [16]) (S' := [(16, vals3 14)]) rfl
     replace hS := hS.conv (t := 16) rfl (show (vals3 14) = .tuple #[(tupAt (vals3 13) 0), .int .i64 n0_4.2] from hV 14 (by decide))
     exact L_val hS rfl (Ob_c tLinkG rfl) ⟨rfl, hG⟩
    refine .cons (fun ss hlo hhi vals3 xw hG hV => ?_) ?_
    ·obtain rfl : ss = 1 := Nat.le_antisymm hhi hlo
     rw [← hfe]
     have hS := (hfr vals3).sub (ts := [16]) (S' := [(16, vals3 14)]) rfl
     replace hS := hS.conv (t := 16) rfl (show (vals3 14) = .tuple #[(tupAt (vals3 13) 0), .int .i64 n0_4.2] from hV 14 (by decide))
     exact L_val hS rfl (Ob_c tLinkG rfl) ⟨rfl, hG⟩
    refine .cons (fun ss hlo hhi vals3 xw hG hV => ?_) ?_
    ·obtain rfl : ss = 1 := Nat.le_antisymm hhi hlo
     rw [← hfe]
     have hS := (hfr vals3).sub (ts := [31]) (S' := [(31, vals3 15)]) rfl
     replace hS := hS.conv (t := 31) rfl (show (vals3 15) = (tupAt (vals3 13) 0) from hV 15 (by decide))
     exact L_val hS rfl (Ob_c tLinkG rfl) ⟨rfl, hG⟩
    refine .cons (fun ss hlo hhi vals3 xw hG hV => ?_) ?_
    ·obtain rfl : ss = 1 := Nat.le_antisymm hhi hlo
     rw [← hfe]
     have hS := (hfr vals3).sub (ts := [32]) (S' := [(32, vals3 16)]) rfl
     replace hS := hS.conv (t := 32) rfl (show (vals3 16) = .int .i64 n0_4.2 from hV 16 (by decide))
     exact L_val hS rfl (Ob_c tLinkG rfl) ⟨rfl, hG⟩
    exact .nil
   ·intro vals3 a w17 Z hG hV
    replace Z := Z.sub (ts := [0, 4, 5, 6]) (S' := [(0, .pointer (some ⟨b_p, 0, none⟩)), (4, .int .i64 (p.to_.getD (i).toNat default)), (5, vals3 17), (6, vals3 18)]) rfl
    replace Z := Z.conv (t := 5) rfl (show (vals3 17) = (tupAt (vals3 13) 0) from hV 17 (by decide))
    replace Z := Z.conv (t := 6) rfl (show (vals3 18) = .int .i64 n0_4.2 from hV 18 (by decide))
    obtain ⟨I7, _, H⟩ := Gx.ex hG
    clear hG hV
    replace Z := Z.sub (ts := [0, 4, 5, 6]) rfl
    replace H : Hf I D w I7 w17 [SlC NS (tupAt (vals3 13) 0) n0_4.1, BxC b_p 60 [v1, .pointer none, .int .i64 (p.boot.getD 0 0), .int .i64 (p.boot.getD 1 0), v3, v4, .int .i64 (p.sent.getD 0 0), .int .i64 (p.sent.getD 1 0), .int .i64 (p.told.getD 0 0), .int .i64 (p.told.getD 1 0), .bool p.ok], PtC OElink_Link v1 (p.l.getD 0 none), OwC NESeg 31 v3 p.way, OwC Ni64 3 v4 p.to_] := H
    refine p_then (wp_seq (f_region Z ?_)); clear Z; intro Z
    refine s_runk tLinkG Z 4 rfl rfl ?_; clear Z a; intro a Z
    refine s_ob Z (v := .bool p.ok) rfl rfl (by decide) rfl (Ob_load tLinkG rfl rfl rfl ((H.bx 1 rfl).cell 10 rfl)) ?_; clear Z a; intro a Z
    refine s_runk tLinkG Z 1 rfl rfl ?_; clear Z a; intro a Z
    refine g_ob Z (p := p.ok) (v := .int .i64 n0_4.2) (S' := [(6, .int .i64 n0_4.2)]) rfl rfl rfl (wantB_t _) rfl (by decide) (fun hp hS => hS.sub (ts := [6]) rfl) (fun hp => Ob_c tLinkG rfl) ?_; clear Z a; intro a Z
    refine g_ob Z (p := p.ok) (v := .bool (n0_4.2 == 0)) (S' := [(39, .int .i64 n0_4.2)]) rfl rfl rfl (wantB_t _) rfl (by decide) (fun hp hS => (hS.conv (t := 39) rfl (cond_t hp)).sub (ts := [39]) rfl) (fun hp => Ob_c tLinkG rfl) ?_; clear Z a; intro a Z
    refine s_ob Z (v := .bool (p.ok && (n0_4.2 == 0))) rfl rfl (by decide) rfl (Ob_pick rfl rfl rfl rfl (pick_and _ _)) ?_; clear Z a; intro a Z
    refine s_runk tLinkG Z 1 rfl rfl ?_; clear Z a; intro a Z
    refine g_ob Z (p := (p.ok && (n0_4.2 == 0))) (v := (tupAt (vals3 13) 0)) (S' := [(5, (tupAt (vals3 13) 0))]) rfl rfl rfl (wantB_t _) rfl (by decide) (fun hp hS => hS.sub (ts := [5]) rfl) (fun hp => Ob_c tLinkG rfl) ?_; clear Z a; intro a Z
    refine g_ob Z (p := (p.ok && (n0_4.2 == 0))) (v := .int .i64 (n0_4.1.length : Int)) (S' := [(43, (tupAt (vals3 13) 0))]) rfl rfl rfl (wantB_t _) rfl (by decide) (fun hp hS => (hS.conv (t := 43) rfl (cond_t hp)).sub (ts := [43]) rfl) (fun hp => Ob_slen tLinkG rfl rfl rfl (H.slshape 0 rfl)) ?_; clear Z a; intro a Z
    refine g_ob Z (p := (p.ok && (n0_4.2 == 0))) (v := .bool (decide ((n0_4.1.length : Int) ≤ 1))) (S' := [(44, .int .i64 (n0_4.1.length : Int))]) rfl rfl rfl (wantB_t _) rfl (by decide) (fun hp hS => (hS.conv (t := 44) rfl (cond_t hp)).sub (ts := [44]) rfl) (fun hp => Ob_c tLinkG rfl) ?_; clear Z a; intro a Z
    refine s_ob Z (v := .bool ((p.ok && (n0_4.2 == 0)) && (decide ((n0_4.1.length : Int) ≤ 1)))) rfl rfl (by decide) rfl (Ob_pick rfl rfl rfl rfl (pick_and _ _)) ?_; clear Z a; intro a Z
    refine s_runk tLinkG Z 2 rfl rfl ?_; clear Z a; intro a Z
    refine h_store tLinkG Z H 1 rfl rfl rfl rfl rfl rfl rfl rfl rfl (one_cons rfl one_nil) (Nat.le_of_ble_eq_true rfl) rfl ?_; clear H; intro w18 H
    dsimp only [List.eraseIdx] at H
    refine s_end Z [0, 4, 5] rfl ?_; clear Z; intro Z
    refine p_then (wp_seq (f_region Z ?_)); clear Z; intro Z
    refine s_runk tLinkG Z 1 rfl rfl ?_; clear Z a; intro a Z
    refine s_end Z [0, 4, 5, 7] rfl ?_; clear Z; intro Z
    refine p_then (wp_block ?_)
    replace H : Hf I D w I7 w18 [PtC OElink_Link (.pointer none) none, BxC b_p 60 [v1, .pointer none, .int .i64 (p.boot.getD 0 0), .int .i64 (p.boot.getD 1 0), v3, v4, .int .i64 (p.sent.getD 0 0), .int .i64 (p.sent.getD 1 0), .int .i64 (p.told.getD 0 0), .int .i64 (p.told.getD 1 0), .bool ((p.ok && (n0_4.2 == 0)) && (decide ((n0_4.1.length : Int) ≤ 1)))], SlC NS (tupAt (vals3 13) 0) n0_4.1, PtC OElink_Link v1 (p.l.getD 0 none), OwC NESeg 31 v3 p.way, OwC Ni64 3 v4 p.to_] := H.mkN OElink_Link
    replace H : Hf I D w I7 w18 [OElaw22_pair b_p ({ p with l := [(p.l.getD 0 none), none], ok := (p.ok && (n0_4.2 == 0)) && (decide ((n0_4.1.length : Int) ≤ 1)) } : Elaw22_pair), SlC NS (tupAt (vals3 13) 0) n0_4.1] := H.shutX (v1, .pointer none, v3, v4) [(1, false), (2, false), (0, false), (1, false), (1, false)] rfl
    refine f_iter hF (fun sg a' w' => match sg with | (k_3, p_4) => Sl 98 [(0, .pointer (some ⟨b_p, 0, none⟩)), (4, .int .i64 (p.to_.getD (i).toNat default)), (5, (tupAt (vals3 13) 0)), (7, .int .i64 k_3)] a' ∧ ∃ I2, Hf I D w I2 w' [OElaw22_pair b_p p_4, SlC NS (tupAt (vals3 13) 0) n0_4.1]) ⟨Z.sub (ts := [0, 4, 5, 7]) rfl, ⟨I7, (H.sub [(0, false), (0, true)] rfl).eq rfl⟩⟩ ?_
    clear Z H hF a
    rintro rc_3 ⟨k_3, p_4⟩ a w19 ⟨Z, I8, H⟩ hF
    unfold F_law22_pair_come_l3 at hF
    try dsimp only at hF
    refine wp_seq ?_
    refine wp_seq (f_region Z ?_); clear Z; intro Z
    refine s_runk tLinkG Z 2 rfl rfl ?_; clear Z a; intro a Z
    refine s_ob Z (v := .int .i64 (n0_4.1.length : Int)) rfl rfl (by decide) rfl (Ob_slen tLinkG rfl rfl rfl (H.slshape 1 rfl)) ?_; clear Z a; intro a Z
    refine s_runk tLinkG Z 2 rfl rfl ?_; clear Z a; intro a Z
    refine g_ob Z (p := (decide (k_3 < (n0_4.1.length : Int)))) (v := .int .i64 k_3) (S' := [(7, .int .i64 k_3)]) rfl rfl rfl (wantB_t _) rfl (by decide) (fun hp hS => hS.sub (ts := [7]) rfl) (fun hp => Ob_c tLinkG rfl) ?_; clear Z a; intro a Z
    refine g_ob Z (p := (decide (k_3 < (n0_4.1.length : Int)))) (v := .bool (decide (k_3 < 2))) (S' := [(54, .int .i64 k_3)]) rfl rfl rfl (wantB_t _) rfl (by decide) (fun hp hS => (hS.conv (t := 54) rfl (cond_t hp)).sub (ts := [54]) rfl) (fun hp => Ob_c tLinkG rfl) ?_; clear Z a; intro a Z
    refine s_ob Z (v := .bool ((decide (k_3 < (n0_4.1.length : Int))) && (decide (k_3 < 2)))) rfl rfl (by decide) rfl (Ob_pick rfl rfl rfl rfl (pick_and _ _)) ?_; clear Z a; intro a Z
    refine s_end Z [0, 4, 5, 7, 49, 50, 51, 52, 53, 56] rfl ?_; clear Z; intro Z
    refine p_then ?_
    refine f_cond Z rfl (fun hc3 => ?_) (fun hc3 => ?_)
    ·replace hF := ite_t hc3 hF
     refine wp_skip ?_
     refine p_then (wp_seq ?_)
     refine wp_block ?_
     refine wp_seq ?_
     obtain ⟨hg15, hF⟩ := chk_in hF
     obtain ⟨n0_5, hx6, hF⟩ := bnd_in hF
     refine f_region Z ?_; clear Z; intro Z
     refine s_runk tLinkG Z 2 rfl rfl ?_; clear Z a; intro a Z
     refine s_ob Z (v := .pointer (some ⟨blkOf (tupAt (vals3 13) 0), oofOf (tupAt (vals3 13) 0) + (k_3).toNat * 1, none⟩)) rfl rfl (by decide) rfl (Ob_sidx tLinkG rfl rfl rfl rfl (slPl (H.sl 1 rfl) hg15) hg15) ?_; clear Z a; intro a Z
     refine s_ob Z (v := .string (n0_4.1.getD (k_3).toNat default)) rfl rfl (by decide) rfl (Ob_load tLinkG rfl rfl rfl ((slFl (H.sl 1 rfl) hg15) 0 _ rfl)) ?_; clear Z a; intro a Z
     refine h_call Z H (js := []) rfl (caps := #[]) fn_38_YLinkG rfl rfl rfl rfl rfl (by decide) rfl rfl (fun D1 hS => have hq := c_law22_numbered hx6 hS; hq) ?_; clear Z a; intro vv a w20 D2 hr hF2 Z
     obtain ⟨rfl, I9, K⟩ := hr
     have H : Hf I D w I9 w20 [OElaw22_pair b_p p_4, SlC NS (tupAt (vals3 13) 0) n0_4.1] := hF2 K
     clear hF2 K
     refine s_runk tLinkG Z 1 rfl rfl ?_; clear Z a; intro a Z
     refine s_end Z [0, 4, 5, 7, 49, 50, 51, 52, 53, 56, 59, 60, 61, 62, 63, 8] rfl ?_; clear Z; intro Z
     refine p_then (wp_seq ?_)
     refine bsplit ((1 - (p.to_.getD (i).toNat default)) == 0) (fun hi7 => ?_) (fun hi7 => ?_)
     ·replace hF := ite_t hi7 hF
      obtain ⟨hg16, hF⟩ := chk_in hF
      refine f_region Z ?_; clear Z; intro Z
      refine s_runk tLinkG Z 4 rfl rfl ?_; clear Z a; intro a Z
      obtain ⟨⟨v21, v22, v23, v24⟩, H⟩ := H.openX 0 rfl
      replace H : Hf I D w I9 w20 [BxC b_p 60 [v21, v22, .int .i64 (p_4.boot.getD 0 0), .int .i64 (p_4.boot.getD 1 0), v23, v24, .int .i64 (p_4.sent.getD 0 0), .int .i64 (p_4.sent.getD 1 0), .int .i64 (p_4.told.getD 0 0), .int .i64 (p_4.told.getD 1 0), .bool p_4.ok], PtC OElink_Link v21 (p_4.l.getD 0 none), PtC OElink_Link v22 (p_4.l.getD 1 none), OwC NESeg 31 v23 p_4.way, OwC Ni64 3 v24 p_4.to_, SlC NS (tupAt (vals3 13) 0) n0_4.1] := H
      refine s_ob Z (v := .bool p_4.ok) rfl rfl (by decide) rfl (Ob_load tLinkG rfl rfl rfl ((H.bx 0 rfl).cell 10 rfl)) ?_; clear Z a; intro a Z
      refine s_runk tLinkG Z 1 rfl rfl ?_; clear Z a; intro a Z
      refine g_ob Z (p := p_4.ok) (v := .int .i64 n0_5) (S' := [(8, .int .i64 n0_5)]) rfl rfl rfl (wantB_t _) rfl (by decide) (fun hp hS => hS.sub (ts := [8]) rfl) (fun hp => Ob_c tLinkG rfl) ?_; clear Z a; intro a Z
      refine g_ob Z (p := p_4.ok) (v := .pointer (some ⟨b_p, 0, none⟩)) (S' := [(0, .pointer (some ⟨b_p, 0, none⟩))]) rfl rfl rfl (wantB_t _) rfl (by decide) (fun hp hS => hS.sub (ts := [0]) rfl) (fun hp => Ob_c tLinkG rfl) ?_; clear Z a; intro a Z
      refine g_ob Z (p := p_4.ok) (v := .int .i64 (p.to_.getD (i).toNat default)) (S' := [(4, .int .i64 (p.to_.getD (i).toNat default))]) rfl rfl rfl (wantB_t _) rfl (by decide) (fun hp hS => hS.sub (ts := [4]) rfl) (fun hp => Ob_c tLinkG rfl) ?_; clear Z a; intro a Z
      refine g_ob Z (p := p_4.ok) (v := .pointer (some ⟨b_p, 0, none⟩)) (S' := [(71, .pointer (some ⟨b_p, 0, none⟩))]) rfl rfl rfl (wantB_t _) rfl (by decide) (fun hp hS => (hS.conv (t := 71) rfl (cond_t hp)).sub (ts := [71]) rfl) (fun hp => Ob_c tLinkG rfl) ?_; clear Z a; intro a Z
      refine g_ob Z (p := p_4.ok) (v := .pointer (some ⟨b_p, 8, none⟩)) (S' := [(73, .pointer (some ⟨b_p, 0, none⟩))]) rfl rfl rfl (wantB_t _) rfl (by decide) (fun hp hS => (hS.conv (t := 73) rfl (cond_t hp)).sub (ts := [73]) rfl) (fun hp => Ob_c tLinkG rfl) ?_; clear Z a; intro a Z
      refine g_ob Z (p := p_4.ok) (v := .pointer (some ⟨b_p, 9, none⟩)) (S' := [(74, .pointer (some ⟨b_p, 8, none⟩)), (72, .int .i64 (p.to_.getD (i).toNat default))]) rfl rfl rfl (wantB_t _) rfl (by decide) (fun hp hS => ((hS.conv (t := 74) rfl (cond_t hp)).conv (t := 72) rfl (cond_t hp)).sub (ts := [74, 72]) rfl) (fun hp => Ob_apix (m := 1) 1 rfl rfl rfl Try.underlying57 (by kernel_rfl) (eq_of_beq hi6) (by decide)) ?_; clear Z a; intro a Z
      refine g_ob Z (p := p_4.ok) (v := .int .i64 (p_4.told.getD 1 0)) (S' := [(75, .pointer (some ⟨b_p, 9, none⟩))]) rfl rfl rfl (wantB_t _) rfl (by decide) (fun hp hS => (hS.conv (t := 75) rfl (cond_t hp)).sub (ts := [75]) rfl) (fun hp => Ob_load tLinkG rfl rfl rfl ((H.bx 0 rfl).cell 9 rfl)) ?_; clear Z a; intro a Z
      refine g_ob Z (p := p_4.ok) (v := .bool (decide (n0_5 > (p_4.told.getD 1 0)))) (S' := [(70, .int .i64 n0_5), (76, .int .i64 (p_4.told.getD 1 0))]) rfl rfl rfl (wantB_t _) rfl (by decide) (fun hp hS => ((hS.conv (t := 70) rfl (cond_t hp)).conv (t := 76) rfl (cond_t hp)).sub (ts := [70, 76]) rfl) (fun hp => Ob_c tLinkG rfl) ?_; clear Z a; intro a Z
      refine s_ob Z (v := .bool (p_4.ok && (decide (n0_5 > (p_4.told.getD 1 0))))) rfl rfl (by decide) rfl (Ob_pick rfl rfl rfl rfl (pick_and _ _)) ?_; clear Z a; intro a Z
      refine s_runk tLinkG Z 1 rfl rfl ?_; clear Z a; intro a Z
      refine g_ob Z (p := (p_4.ok && (decide (n0_5 > (p_4.told.getD 1 0))))) (v := .int .i64 n0_5) (S' := [(8, .int .i64 n0_5)]) rfl rfl rfl (wantB_t _) rfl (by decide) (fun hp hS => hS.sub (ts := [8]) rfl) (fun hp => Ob_c tLinkG rfl) ?_; clear Z a; intro a Z
      refine g_ob Z (p := (p_4.ok && (decide (n0_5 > (p_4.told.getD 1 0))))) (v := .pointer (some ⟨b_p, 0, none⟩)) (S' := [(0, .pointer (some ⟨b_p, 0, none⟩))]) rfl rfl rfl (wantB_t _) rfl (by decide) (fun hp hS => hS.sub (ts := [0]) rfl) (fun hp => Ob_c tLinkG rfl) ?_; clear Z a; intro a Z
      refine g_ob Z (p := (p_4.ok && (decide (n0_5 > (p_4.told.getD 1 0))))) (v := .int .i64 (p.to_.getD (i).toNat default)) (S' := [(4, .int .i64 (p.to_.getD (i).toNat default))]) rfl rfl rfl (wantB_t _) rfl (by decide) (fun hp hS => hS.sub (ts := [4]) rfl) (fun hp => Ob_c tLinkG rfl) ?_; clear Z a; intro a Z
      refine g_ob Z (p := (p_4.ok && (decide (n0_5 > (p_4.told.getD 1 0))))) (v := .int .i64 (1 - (p.to_.getD (i).toNat default))) (S' := [(82, .int .i64 (p.to_.getD (i).toNat default))]) rfl rfl rfl (wantB_t _) rfl (by decide) (fun hp hS => (hS.conv (t := 82) rfl (cond_t hp)).sub (ts := [82]) rfl) (fun hp => Ob_sub rfl rfl rfl (wrI (hg16 hp))) ?_; clear Z a; intro a Z
      refine g_ob Z (p := (p_4.ok && (decide (n0_5 > (p_4.told.getD 1 0))))) (v := .pointer (some ⟨b_p, 0, none⟩)) (S' := [(81, .pointer (some ⟨b_p, 0, none⟩))]) rfl rfl rfl (wantB_t _) rfl (by decide) (fun hp hS => (hS.conv (t := 81) rfl (cond_t hp)).sub (ts := [81]) rfl) (fun hp => Ob_c tLinkG rfl) ?_; clear Z a; intro a Z
      refine g_ob Z (p := (p_4.ok && (decide (n0_5 > (p_4.told.getD 1 0))))) (v := .pointer (some ⟨b_p, 6, none⟩)) (S' := [(84, .pointer (some ⟨b_p, 0, none⟩))]) rfl rfl rfl (wantB_t _) rfl (by decide) (fun hp hS => (hS.conv (t := 84) rfl (cond_t hp)).sub (ts := [84]) rfl) (fun hp => Ob_c tLinkG rfl) ?_; clear Z a; intro a Z
      refine g_ob Z (p := (p_4.ok && (decide (n0_5 > (p_4.told.getD 1 0))))) (v := .pointer (some ⟨b_p, 6, none⟩)) (S' := [(85, .pointer (some ⟨b_p, 6, none⟩)), (83, .int .i64 (1 - (p.to_.getD (i).toNat default)))]) rfl rfl rfl (wantB_t _) rfl (by decide) (fun hp hS => ((hS.conv (t := 85) rfl (cond_t hp)).conv (t := 83) rfl (cond_t hp)).sub (ts := [85, 83]) rfl) (fun hp => Ob_apix (m := 1) 0 rfl rfl rfl Try.underlying57 (by kernel_rfl) (eq_of_beq hi7) (by decide)) ?_; clear Z a; intro a Z
      refine g_ob Z (p := (p_4.ok && (decide (n0_5 > (p_4.told.getD 1 0))))) (v := .int .i64 (p_4.sent.getD 0 0)) (S' := [(86, .pointer (some ⟨b_p, 6, none⟩))]) rfl rfl rfl (wantB_t _) rfl (by decide) (fun hp hS => (hS.conv (t := 86) rfl (cond_t hp)).sub (ts := [86]) rfl) (fun hp => Ob_load tLinkG rfl rfl rfl ((H.bx 0 rfl).cell 6 rfl)) ?_; clear Z a; intro a Z
      refine g_ob Z (p := (p_4.ok && (decide (n0_5 > (p_4.told.getD 1 0))))) (v := .bool (decide (n0_5 ≤ (p_4.sent.getD 0 0)))) (S' := [(80, .int .i64 n0_5), (87, .int .i64 (p_4.sent.getD 0 0))]) rfl rfl rfl (wantB_t _) rfl (by decide) (fun hp hS => ((hS.conv (t := 80) rfl (cond_t hp)).conv (t := 87) rfl (cond_t hp)).sub (ts := [80, 87]) rfl) (fun hp => Ob_c tLinkG rfl) ?_; clear Z a; intro a Z
      refine s_ob Z (v := .bool ((p_4.ok && (decide (n0_5 > (p_4.told.getD 1 0)))) && (decide (n0_5 ≤ (p_4.sent.getD 0 0))))) rfl rfl (by decide) rfl (Ob_pick rfl rfl rfl rfl (pick_and _ _)) ?_; clear Z a; intro a Z
      refine s_runk tLinkG Z 2 rfl rfl ?_; clear Z a; intro a Z
      refine h_store tLinkG Z H 0 rfl rfl rfl rfl rfl rfl rfl rfl rfl (one_cons rfl one_nil) (Nat.le_of_ble_eq_true rfl) rfl ?_; clear H; intro w21 H
      dsimp only [List.eraseIdx] at H
      refine s_end Z [0, 4, 5, 7, 49, 50, 51, 52, 53, 56, 59, 60, 61, 62, 63, 8, 64, 65, 66, 67, 68, 69, 78, 79, 89, 90, 91] rfl ?_; clear Z; intro Z
      refine p_then ?_
      refine f_region Z ?_; clear Z; intro Z
      refine s_runk tLinkG Z 5 rfl rfl ?_; clear Z a; intro a Z
      refine s_ob Z (v := .pointer (some ⟨b_p, 9, none⟩)) rfl rfl (by decide) rfl (Ob_apix (m := 1) 1 rfl rfl rfl Try.underlying57 (by kernel_rfl) (eq_of_beq hi6) (by decide)) ?_; clear Z a; intro a Z
      refine h_store tLinkG Z H 0 rfl rfl rfl rfl rfl rfl rfl rfl rfl (one_cons rfl one_nil) (Nat.le_of_ble_eq_true rfl) rfl ?_; clear H; intro w22 H
      dsimp only [List.eraseIdx] at H
      refine s_end Z [0, 4, 5, 7, 49, 50, 51, 52, 53, 56, 59, 60, 61, 62, 63, 8, 64, 65, 66, 67, 68, 69, 78, 79, 89, 90, 91, 92, 93, 94, 95, 96, 97] rfl ?_; clear Z; intro Z
      refine p_blk ?_
      refine p_then ?_
      obtain ⟨hg17, hF⟩ := chk_in hF
      refine f_region Z ?_; clear Z; intro Z
      refine s_runk tLinkG Z 1 rfl rfl ?_; clear Z a; intro a Z
      refine s_ob Z (v := .int .i64 (k_3 + 1)) rfl rfl (by decide) rfl (Ob_add rfl rfl rfl (wrI hg17)) ?_; clear Z a; intro a Z
      refine s_runk tLinkG Z 1 rfl rfl ?_; clear Z a; intro a Z
      refine s_end Z [0, 4, 5, 7, 49, 50, 51, 52, 53, 56, 59, 60, 61, 62, 63, 8, 64, 65, 66, 67, 68, 69, 78, 79, 89, 90, 91, 92, 93, 94, 95, 96, 97, 57, 58] rfl ?_; clear Z; intro Z
      refine p_then ?_
      replace H : Hf I D w I9 w22 [OElaw22_pair b_p ({ p_4 with told := [(p_4.told.getD 0 0), n0_5], ok := (p_4.ok && (decide (n0_5 > (p_4.told.getD 1 0)))) && (decide (n0_5 ≤ (p_4.sent.getD 0 0))) } : Elaw22_pair), SlC NS (tupAt (vals3 13) 0) n0_4.1] := H.shutX (v21, v22, v23, v24) [(0, false), (0, false), (0, false), (0, false), (0, false)] rfl
      exact ⟨(k_3 + 1, ({ p_4 with told := [(p_4.told.getD 0 0), n0_5], ok := (p_4.ok && (decide (n0_5 > (p_4.told.getD 1 0)))) && (decide (n0_5 ≤ (p_4.sent.getD 0 0))) } : Elaw22_pair)), ⟨Z.sub (ts := [0, 4, 5, 7]) rfl, ⟨I9, (H.sub [(0, false), (0, true)] rfl).eq rfl⟩⟩, hF⟩
     replace hF := ite_f hi7 hF
     refine bsplit ((1 - (p.to_.getD (i).toNat default)) == 1) (fun hi8 => ?_) (fun hi8 => ?_)
     ·replace hF := ite_t hi8 hF
      obtain ⟨hg18, hF⟩ := chk_in hF
      refine f_region Z ?_; clear Z; intro Z
      refine s_runk tLinkG Z 4 rfl rfl ?_; clear Z a; intro a Z
      obtain ⟨⟨v25, v26, v27, v28⟩, H⟩ := H.openX 0 rfl
      replace H : Hf I D w I9 w20 [BxC b_p 60 [v25, v26, .int .i64 (p_4.boot.getD 0 0), .int .i64 (p_4.boot.getD 1 0), v27, v28, .int .i64 (p_4.sent.getD 0 0), .int .i64 (p_4.sent.getD 1 0), .int .i64 (p_4.told.getD 0 0), .int .i64 (p_4.told.getD 1 0), .bool p_4.ok], PtC OElink_Link v25 (p_4.l.getD 0 none), PtC OElink_Link v26 (p_4.l.getD 1 none), OwC NESeg 31 v27 p_4.way, OwC Ni64 3 v28 p_4.to_, SlC NS (tupAt (vals3 13) 0) n0_4.1] := H
      refine s_ob Z (v := .bool p_4.ok) rfl rfl (by decide) rfl (Ob_load tLinkG rfl rfl rfl ((H.bx 0 rfl).cell 10 rfl)) ?_; clear Z a; intro a Z
      refine s_runk tLinkG Z 1 rfl rfl ?_; clear Z a; intro a Z
      refine g_ob Z (p := p_4.ok) (v := .int .i64 n0_5) (S' := [(8, .int .i64 n0_5)]) rfl rfl rfl (wantB_t _) rfl (by decide) (fun hp hS => hS.sub (ts := [8]) rfl) (fun hp => Ob_c tLinkG rfl) ?_; clear Z a; intro a Z
      refine g_ob Z (p := p_4.ok) (v := .pointer (some ⟨b_p, 0, none⟩)) (S' := [(0, .pointer (some ⟨b_p, 0, none⟩))]) rfl rfl rfl (wantB_t _) rfl (by decide) (fun hp hS => hS.sub (ts := [0]) rfl) (fun hp => Ob_c tLinkG rfl) ?_; clear Z a; intro a Z
      refine g_ob Z (p := p_4.ok) (v := .int .i64 (p.to_.getD (i).toNat default)) (S' := [(4, .int .i64 (p.to_.getD (i).toNat default))]) rfl rfl rfl (wantB_t _) rfl (by decide) (fun hp hS => hS.sub (ts := [4]) rfl) (fun hp => Ob_c tLinkG rfl) ?_; clear Z a; intro a Z
      refine g_ob Z (p := p_4.ok) (v := .pointer (some ⟨b_p, 0, none⟩)) (S' := [(71, .pointer (some ⟨b_p, 0, none⟩))]) rfl rfl rfl (wantB_t _) rfl (by decide) (fun hp hS => (hS.conv (t := 71) rfl (cond_t hp)).sub (ts := [71]) rfl) (fun hp => Ob_c tLinkG rfl) ?_; clear Z a; intro a Z
      refine g_ob Z (p := p_4.ok) (v := .pointer (some ⟨b_p, 8, none⟩)) (S' := [(73, .pointer (some ⟨b_p, 0, none⟩))]) rfl rfl rfl (wantB_t _) rfl (by decide) (fun hp hS => (hS.conv (t := 73) rfl (cond_t hp)).sub (ts := [73]) rfl) (fun hp => Ob_c tLinkG rfl) ?_; clear Z a; intro a Z
      refine g_ob Z (p := p_4.ok) (v := .pointer (some ⟨b_p, 9, none⟩)) (S' := [(74, .pointer (some ⟨b_p, 8, none⟩)), (72, .int .i64 (p.to_.getD (i).toNat default))]) rfl rfl rfl (wantB_t _) rfl (by decide) (fun hp hS => ((hS.conv (t := 74) rfl (cond_t hp)).conv (t := 72) rfl (cond_t hp)).sub (ts := [74, 72]) rfl) (fun hp => Ob_apix (m := 1) 1 rfl rfl rfl Try.underlying57 (by kernel_rfl) (eq_of_beq hi6) (by decide)) ?_; clear Z a; intro a Z
      refine g_ob Z (p := p_4.ok) (v := .int .i64 (p_4.told.getD 1 0)) (S' := [(75, .pointer (some ⟨b_p, 9, none⟩))]) rfl rfl rfl (wantB_t _) rfl (by decide) (fun hp hS => (hS.conv (t := 75) rfl (cond_t hp)).sub (ts := [75]) rfl) (fun hp => Ob_load tLinkG rfl rfl rfl ((H.bx 0 rfl).cell 9 rfl)) ?_; clear Z a; intro a Z
      refine g_ob Z (p := p_4.ok) (v := .bool (decide (n0_5 > (p_4.told.getD 1 0)))) (S' := [(70, .int .i64 n0_5), (76, .int .i64 (p_4.told.getD 1 0))]) rfl rfl rfl (wantB_t _) rfl (by decide) (fun hp hS => ((hS.conv (t := 70) rfl (cond_t hp)).conv (t := 76) rfl (cond_t hp)).sub (ts := [70, 76]) rfl) (fun hp => Ob_c tLinkG rfl) ?_; clear Z a; intro a Z
      refine s_ob Z (v := .bool (p_4.ok && (decide (n0_5 > (p_4.told.getD 1 0))))) rfl rfl (by decide) rfl (Ob_pick rfl rfl rfl rfl (pick_and _ _)) ?_; clear Z a; intro a Z
      refine s_runk tLinkG Z 1 rfl rfl ?_; clear Z a; intro a Z
      refine g_ob Z (p := (p_4.ok && (decide (n0_5 > (p_4.told.getD 1 0))))) (v := .int .i64 n0_5) (S' := [(8, .int .i64 n0_5)]) rfl rfl rfl (wantB_t _) rfl (by decide) (fun hp hS => hS.sub (ts := [8]) rfl) (fun hp => Ob_c tLinkG rfl) ?_; clear Z a; intro a Z
      refine g_ob Z (p := (p_4.ok && (decide (n0_5 > (p_4.told.getD 1 0))))) (v := .pointer (some ⟨b_p, 0, none⟩)) (S' := [(0, .pointer (some ⟨b_p, 0, none⟩))]) rfl rfl rfl (wantB_t _) rfl (by decide) (fun hp hS => hS.sub (ts := [0]) rfl) (fun hp => Ob_c tLinkG rfl) ?_; clear Z a; intro a Z
      refine g_ob Z (p := (p_4.ok && (decide (n0_5 > (p_4.told.getD 1 0))))) (v := .int .i64 (p.to_.getD (i).toNat default)) (S' := [(4, .int .i64 (p.to_.getD (i).toNat default))]) rfl rfl rfl (wantB_t _) rfl (by decide) (fun hp hS => hS.sub (ts := [4]) rfl) (fun hp => Ob_c tLinkG rfl) ?_; clear Z a; intro a Z
      refine g_ob Z (p := (p_4.ok && (decide (n0_5 > (p_4.told.getD 1 0))))) (v := .int .i64 (1 - (p.to_.getD (i).toNat default))) (S' := [(82, .int .i64 (p.to_.getD (i).toNat default))]) rfl rfl rfl (wantB_t _) rfl (by decide) (fun hp hS => (hS.conv (t := 82) rfl (cond_t hp)).sub (ts := [82]) rfl) (fun hp => Ob_sub rfl rfl rfl (wrI (hg18 hp))) ?_; clear Z a; intro a Z
      refine g_ob Z (p := (p_4.ok && (decide (n0_5 > (p_4.told.getD 1 0))))) (v := .pointer (some ⟨b_p, 0, none⟩)) (S' := [(81, .pointer (some ⟨b_p, 0, none⟩))]) rfl rfl rfl (wantB_t _) rfl (by decide) (fun hp hS => (hS.conv (t := 81) rfl (cond_t hp)).sub (ts := [81]) rfl) (fun hp => Ob_c tLinkG rfl) ?_; clear Z a; intro a Z
      refine g_ob Z (p := (p_4.ok && (decide (n0_5 > (p_4.told.getD 1 0))))) (v := .pointer (some ⟨b_p, 6, none⟩)) (S' := [(84, .pointer (some ⟨b_p, 0, none⟩))]) rfl rfl rfl (wantB_t _) rfl (by decide) (fun hp hS => (hS.conv (t := 84) rfl (cond_t hp)).sub (ts := [84]) rfl) (fun hp => Ob_c tLinkG rfl) ?_; clear Z a; intro a Z
      refine g_ob Z (p := (p_4.ok && (decide (n0_5 > (p_4.told.getD 1 0))))) (v := .pointer (some ⟨b_p, 7, none⟩)) (S' := [(85, .pointer (some ⟨b_p, 6, none⟩)), (83, .int .i64 (1 - (p.to_.getD (i).toNat default)))]) rfl rfl rfl (wantB_t _) rfl (by decide) (fun hp hS => ((hS.conv (t := 85) rfl (cond_t hp)).conv (t := 83) rfl (cond_t hp)).sub (ts := [85, 83]) rfl) (fun hp => Ob_apix (m := 1) 1 rfl rfl rfl Try.underlying57 (by kernel_rfl) (eq_of_beq hi8) (by decide)) ?_; clear Z a; intro a Z
      refine g_ob Z (p := (p_4.ok && (decide (n0_5 > (p_4.told.getD 1 0))))) (v := .int .i64 (p_4.sent.getD 1 0)) (S' := [(86, .pointer (some ⟨b_p, 7, none⟩))]) rfl rfl rfl (wantB_t _) rfl (by decide) (fun hp hS => (hS.conv (t := 86) rfl (cond_t hp)).sub (ts := [86]) rfl) (fun hp => Ob_load tLinkG rfl rfl rfl ((H.bx 0 rfl).cell 7 rfl)) ?_; clear Z a; intro a Z
      refine g_ob Z (p := (p_4.ok && (decide (n0_5 > (p_4.told.getD 1 0))))) (v := .bool (decide (n0_5 ≤ (p_4.sent.getD 1 0)))) (S' := [(80, .int .i64 n0_5), (87, .int .i64 (p_4.sent.getD 1 0))]) rfl rfl rfl (wantB_t _) rfl (by decide) (fun hp hS => ((hS.conv (t := 80) rfl (cond_t hp)).conv (t := 87) rfl (cond_t hp)).sub (ts := [80, 87]) rfl) (fun hp => Ob_c tLinkG rfl) ?_; clear Z a; intro a Z
      refine s_ob Z (v := .bool ((p_4.ok && (decide (n0_5 > (p_4.told.getD 1 0)))) && (decide (n0_5 ≤ (p_4.sent.getD 1 0))))) rfl rfl (by decide) rfl (Ob_pick rfl rfl rfl rfl (pick_and _ _)) ?_; clear Z a; intro a Z
      refine s_runk tLinkG Z 2 rfl rfl ?_; clear Z a; intro a Z
      refine h_store tLinkG Z H 0 rfl rfl rfl rfl rfl rfl rfl rfl rfl (one_cons rfl one_nil) (Nat.le_of_ble_eq_true rfl) rfl ?_; clear H; intro w23 H
      dsimp only [List.eraseIdx] at H
      refine s_end Z [0, 4, 5, 7, 49, 50, 51, 52, 53, 56, 59, 60, 61, 62, 63, 8, 64, 65, 66, 67, 68, 69, 78, 79, 89, 90, 91] rfl ?_; clear Z; intro Z
      refine p_then ?_
      refine f_region Z ?_; clear Z; intro Z
      refine s_runk tLinkG Z 5 rfl rfl ?_; clear Z a; intro a Z
      refine s_ob Z (v := .pointer (some ⟨b_p, 9, none⟩)) rfl rfl (by decide) rfl (Ob_apix (m := 1) 1 rfl rfl rfl Try.underlying57 (by kernel_rfl) (eq_of_beq hi6) (by decide)) ?_; clear Z a; intro a Z
      refine h_store tLinkG Z H 0 rfl rfl rfl rfl rfl rfl rfl rfl rfl (one_cons rfl one_nil) (Nat.le_of_ble_eq_true rfl) rfl ?_; clear H; intro w24 H
      dsimp only [List.eraseIdx] at H
      refine s_end Z [0, 4, 5, 7, 49, 50, 51, 52, 53, 56, 59, 60, 61, 62, 63, 8, 64, 65, 66, 67, 68, 69, 78, 79, 89, 90, 91, 92, 93, 94, 95, 96, 97] rfl ?_; clear Z; intro Z
      refine p_blk ?_
      refine p_then ?_
      obtain ⟨hg19, hF⟩ := chk_in hF
      refine f_region Z ?_; clear Z; intro Z
      refine s_runk tLinkG Z 1 rfl rfl ?_; clear Z a; intro a Z
      refine s_ob Z (v := .int .i64 (k_3 + 1)) rfl rfl (by decide) rfl (Ob_add rfl rfl rfl (wrI hg19)) ?_; clear Z a; intro a Z
      refine s_runk tLinkG Z 1 rfl rfl ?_; clear Z a; intro a Z
      refine s_end Z [0, 4, 5, 7, 49, 50, 51, 52, 53, 56, 59, 60, 61, 62, 63, 8, 64, 65, 66, 67, 68, 69, 78, 79, 89, 90, 91, 92, 93, 94, 95, 96, 97, 57, 58] rfl ?_; clear Z; intro Z
      refine p_then ?_
      replace H : Hf I D w I9 w24 [OElaw22_pair b_p ({ p_4 with told := [(p_4.told.getD 0 0), n0_5], ok := (p_4.ok && (decide (n0_5 > (p_4.told.getD 1 0)))) && (decide (n0_5 ≤ (p_4.sent.getD 1 0))) } : Elaw22_pair), SlC NS (tupAt (vals3 13) 0) n0_4.1] := H.shutX (v25, v26, v27, v28) [(0, false), (0, false), (0, false), (0, false), (0, false)] rfl
      exact ⟨(k_3 + 1, ({ p_4 with told := [(p_4.told.getD 0 0), n0_5], ok := (p_4.ok && (decide (n0_5 > (p_4.told.getD 1 0)))) && (decide (n0_5 ≤ (p_4.sent.getD 1 0))) } : Elaw22_pair)), ⟨Z.sub (ts := [0, 4, 5, 7]) rfl, ⟨I9, (H.sub [(0, false), (0, true)] rfl).eq rfl⟩⟩, hF⟩
     replace hF := ite_f hi8 hF
     cases hF
    ·replace hF := ite_f hc3 hF
     refine wp_exit ?_
     refine p_then_x ?_
     refine p_then_x ?_
     refine f_exit_here ?_
     obtain rfl := some_in hF
     exact f_fall Z (run_results0 rfl) ⟨rfl, I8, (H.sub [(0, false)] rfl).eq rfl⟩
  ·obtain ⟨b2, hv, H⟩ := H.optS 2 rfl ho2
   subst hv
   replace H : Hf I D w I w [OElink_Link b2 x_2, BxC b_p 60 [v1, .pointer (some ⟨b2, 0, none⟩), .int .i64 (p.boot.getD 0 0), .int .i64 (p.boot.getD 1 0), v3, v4, .int .i64 (p.sent.getD 0 0), .int .i64 (p.sent.getD 1 0), .int .i64 (p.told.getD 0 0), .int .i64 (p.told.getD 1 0), .bool p.ok], PtC OElink_Link v1 (p.l.getD 0 none), OwC NESeg 31 v3 p.way, OwC Ni64 3 v4 p.to_] := H
   obtain ⟨hg20, hF⟩ := chk_in hF
   obtain ⟨i_3, hx7, hF⟩ := bnd_in hF
   refine f_regionM Z (by kernel_rfl) (by kernel_rfl) (by decide) (by decide) [13] [(0, 0, 0), (0, 0, 0), (1, 0, 0), (5, 0, 0), (15, 0, 0), (31, 0, 0), (0, 0, 0), (64, 0, 0), (192, 0, 0), (448, 0, 0), (0, 0, 0), (1984, 0, 0), (4032, 0, 0), (8191, 0, 0), (16383, 1, 1), (32767, 1, 1), (32767, 1, 1), (65535, 1, 1), (262143, 1, 1)] (by kernel_rfl) (fun jj => match jj with | 14 => 13 | 15 => 13 | 17 => 13 | _ => jj) (by kernel_rfl) (fun jj rv vv => cond (Nat.blt jj 9) (cond (Nat.blt jj 4) (cond (Nat.blt jj 2) (cond (Nat.blt jj 1) (vv = .pointer (some ⟨b_p, 0, none⟩)) (vv = .int .i64 (p.to_.getD (i).toNat default))) (cond (Nat.blt jj 3) (vv = .pointer (some ⟨b_p, 0, none⟩)) (vv = .pointer (some ⟨b_p, 0, none⟩)))) (cond (Nat.blt jj 6) (cond (Nat.blt jj 5) (vv = .pointer (some ⟨b_p, 1, none⟩)) (vv = .pointer (some ⟨b2, 0, none⟩))) (cond (Nat.blt jj 7) (vv = .pointer (some ⟨b_p, 0, none⟩)) (cond (Nat.blt jj 8) (vv = .pointer (some ⟨b_p, 0, none⟩)) (vv = .pointer (some ⟨b_p, 4, none⟩)))))) (cond (Nat.blt jj 14) (cond (Nat.blt jj 11) (cond (Nat.blt jj 10) (vv = v3) (vv = .int .i64 i)) (cond (Nat.blt jj 12) (vv = .pointer (some ⟨blkOf v3, oofOf v3 + (i).toNat * 8, none⟩)) (cond (Nat.blt jj 13) (vv = .agg #[.int .i64 ((p.way.getD (i).toNat default).boot), .int .i64 ((p.way.getD (i).toNat default).stream), .int .i64 ((p.way.getD (i).toNat default).seq), .int .i64 ((p.way.getD (i).toNat default).ackBoot), .int .i64 ((p.way.getD (i).toNat default).ackStream), .int .i64 ((p.way.getD (i).toNat default).ackSeq), .bool ((p.way.getD (i).toNat default).has), .string ((p.way.getD (i).toNat default).body)]) (vv = .tuple #[(tupAt vv 0), .int .i64 i_3.2.1])))) (cond (Nat.blt jj 16) (cond (Nat.blt jj 15) (vv = .tuple #[(tupAt rv 0), .int .i64 i_3.2.1]) (vv = (tupAt rv 0))) (cond (Nat.blt jj 17) (vv = .int .i64 i_3.2.1) (cond (Nat.blt jj 18) (vv = (tupAt rv 0)) (vv = .int .i64 i_3.2.1)))))) (fun ss vals4 xw => match ss with | 0 => Gx I D w I w xw [OElink_Link b2 x_2, BxC b_p 60 [v1, .pointer (some ⟨b2, 0, none⟩), .int .i64 (p.boot.getD 0 0), .int .i64 (p.boot.getD 1 0), v3, v4, .int .i64 (p.sent.getD 0 0), .int .i64 (p.sent.getD 1 0), .int .i64 (p.told.getD 0 0), .int .i64 (p.told.getD 1 0), .bool p.ok], PtC OElink_Link v1 (p.l.getD 0 none), OwC NESeg 31 v3 p.way, OwC Ni64 3 v4 p.to_] | _ => Gx I D w I w xw [OElink_Link b2 i_3.2.2, SlC NS (tupAt (vals4 13) 0) i_3.1, BxC b_p 60 [v1, .pointer (some ⟨b2, 0, none⟩), .int .i64 (p.boot.getD 0 0), .int .i64 (p.boot.getD 1 0), v3, v4, .int .i64 (p.sent.getD 0 0), .int .i64 (p.sent.getD 1 0), .int .i64 (p.told.getD 0 0), .int .i64 (p.told.getD 1 0), .bool p.ok], PtC OElink_Link v1 (p.l.getD 0 none), OwC NESeg 31 v3 p.way, OwC Ni64 3 v4 p.to_]) (fun _ => Gx.start H) ?_ ?_
   ·intro fr hfr hfe
    refine .cons (fun ss hlo hhi vals4 xw hG hV => ?_) ?_
    ·obtain rfl : ss = 0 := Nat.le_antisymm hhi hlo
     rw [← hfe]
     have hS := (hfr vals4).sub (ts := [0]) (S' := [(0, .pointer (some ⟨b_p, 0, none⟩))]) rfl
     exact L_val hS rfl (Ob_c tLinkG rfl) ⟨rfl, hG⟩
    refine .cons (fun ss hlo hhi vals4 xw hG hV => ?_) ?_
    ·obtain rfl : ss = 0 := Nat.le_antisymm hhi hlo
     rw [← hfe]
     have hS := (hfr vals4).sub (ts := [4]) (S' := [(4, .int .i64 (p.to_.getD (i).toNat default))]) rfl
     exact L_val hS rfl (Ob_c tLinkG rfl) ⟨rfl, hG⟩
    refine .cons (fun ss hlo hhi vals4 xw hG hV => ?_) ?_
    ·obtain rfl : ss = 0 := Nat.le_antisymm hhi hlo
     rw [← hfe]
     have hS := (hfr vals4).sub (ts := [17]) (S' := [(17, vals4 0)]) rfl
     replace hS := hS.conv (t := 17) rfl (show (vals4 0) = .pointer (some ⟨b_p, 0, none⟩) from hV 0 (by decide))
     exact L_val hS rfl (Ob_c tLinkG rfl) ⟨rfl, hG⟩
    refine .cons (fun ss hlo hhi vals4 xw hG hV => ?_) ?_
    ·obtain rfl : ss = 0 := Nat.le_antisymm hhi hlo
     rw [← hfe]
     have hS := (hfr vals4).sub (ts := [19]) (S' := [(19, vals4 2)]) rfl
     replace hS := hS.conv (t := 19) rfl (show (vals4 2) = .pointer (some ⟨b_p, 0, none⟩) from hV 2 (by decide))
     exact L_val hS rfl (Ob_c tLinkG rfl) ⟨rfl, hG⟩
    refine .cons (fun ss hlo hhi vals4 xw hG hV => ?_) ?_
    ·obtain rfl : ss = 0 := Nat.le_antisymm hhi hlo
     rw [← hfe]
     have hS := (hfr vals4).sub (ts := [20, 18]) (S' := [(20, vals4 3), (18, vals4 1)]) rfl
     replace hS := hS.conv (t := 20) rfl (show (vals4 3) = .pointer (some ⟨b_p, 0, none⟩) from hV 3 (by decide))
     replace hS := hS.conv (t := 18) rfl (show (vals4 1) = .int .i64 (p.to_.getD (i).toNat default) from hV 1 (by decide))
     exact L_val hS rfl (Ob_apix (m := 1) 1 rfl rfl rfl Try.underlying56 (by kernel_rfl) (eq_of_beq hi6) (by decide)) ⟨rfl, hG⟩
    refine .cons (fun ss hlo hhi vals4 xw hG hV => ?_) ?_
    ·obtain rfl : ss = 0 := Nat.le_antisymm hhi hlo
     rw [← hfe]
     have hS := (hfr vals4).sub (ts := [21]) (S' := [(21, vals4 4)]) rfl
     replace hS := hS.conv (t := 21) rfl (show (vals4 4) = .pointer (some ⟨b_p, 1, none⟩) from hV 4 (by decide))
     obtain ⟨I2, hI2, H⟩ := Gx.ex hG
     exact L_val hS rfl (Ob_load tLinkG rfl rfl rfl ((H.bx 1 rfl).cell 1 rfl)) ⟨rfl, hG⟩
    refine .cons (fun ss hlo hhi vals4 xw hG hV => ?_) ?_
    ·obtain rfl : ss = 0 := Nat.le_antisymm hhi hlo
     rw [← hfe]
     have hS := (hfr vals4).sub (ts := [0]) (S' := [(0, .pointer (some ⟨b_p, 0, none⟩))]) rfl
     exact L_val hS rfl (Ob_c tLinkG rfl) ⟨rfl, hG⟩
    refine .cons (fun ss hlo hhi vals4 xw hG hV => ?_) ?_
    ·obtain rfl : ss = 0 := Nat.le_antisymm hhi hlo
     rw [← hfe]
     have hS := (hfr vals4).sub (ts := [23]) (S' := [(23, vals4 6)]) rfl
     replace hS := hS.conv (t := 23) rfl (show (vals4 6) = .pointer (some ⟨b_p, 0, none⟩) from hV 6 (by decide))
     exact L_val hS rfl (Ob_c tLinkG rfl) ⟨rfl, hG⟩
    refine .cons (fun ss hlo hhi vals4 xw hG hV => ?_) ?_
    ·obtain rfl : ss = 0 := Nat.le_antisymm hhi hlo
     rw [← hfe]
     have hS := (hfr vals4).sub (ts := [24]) (S' := [(24, vals4 7)]) rfl
     replace hS := hS.conv (t := 24) rfl (show (vals4 7) = .pointer (some ⟨b_p, 0, none⟩) from hV 7 (by decide))
     exact L_val hS rfl (Ob_c tLinkG rfl) ⟨rfl, hG⟩
    refine .cons (fun ss hlo hhi vals4 xw hG hV => ?_) ?_
    ·obtain rfl : ss = 0 := Nat.le_antisymm hhi hlo
     rw [← hfe]
     have hS := (hfr vals4).sub (ts := [25]) (S' := [(25, vals4 8)]) rfl
     replace hS := hS.conv (t := 25) rfl (show (vals4 8) = .pointer (some ⟨b_p, 4, none⟩) from hV 8 (by decide))
     obtain ⟨I2, hI2, H⟩ := Gx.ex hG
     exact L_val hS rfl (Ob_load tLinkG rfl rfl rfl ((H.bx 1 rfl).cell 4 rfl)) ⟨rfl, hG⟩
    refine .cons (fun ss hlo hhi vals4 xw hG hV => ?_) ?_
    ·obtain rfl : ss = 0 := Nat.le_antisymm hhi hlo
     rw [← hfe]
     have hS := (hfr vals4).sub (ts := [1]) (S' := [(1, .int .i64 i)]) rfl
     exact L_val hS rfl (Ob_c tLinkG rfl) ⟨rfl, hG⟩
    refine .cons (fun ss hlo hhi vals4 xw hG hV => ?_) ?_
    ·obtain rfl : ss = 0 := Nat.le_antisymm hhi hlo
     rw [← hfe]
     have hS := (hfr vals4).sub (ts := [26, 27]) (S' := [(26, vals4 9), (27, vals4 10)]) rfl
     replace hS := hS.conv (t := 26) rfl (show (vals4 9) = v3 from hV 9 (by decide))
     replace hS := hS.conv (t := 27) rfl (show (vals4 10) = .int .i64 i from hV 10 (by decide))
     obtain ⟨I2, hI2, H⟩ := Gx.ex hG
     exact L_val hS rfl (Ob_sidx tLinkG rfl rfl rfl rfl (slPl (H.owA 3 rfl) hg20) hg20) ⟨rfl, hG⟩
    refine .cons (fun ss hlo hhi vals4 xw hG hV => ?_) ?_
    ·obtain rfl : ss = 0 := Nat.le_antisymm hhi hlo
     rw [← hfe]
     have hS := (hfr vals4).sub (ts := [28]) (S' := [(28, vals4 11)]) rfl
     replace hS := hS.conv (t := 28) rfl (show (vals4 11) = .pointer (some ⟨blkOf v3, oofOf v3 + (i).toNat * 8, none⟩) from hV 11 (by decide))
     obtain ⟨I2, hI2, H⟩ := Gx.ex hG
     exact L_val hS rfl (Ob_loads tLinkG rfl rfl rfl ((slFl (H.owA 3 rfl) hg20).part 0 rfl)) ⟨rfl, hG⟩
    refine .cons (fun ss hlo hhi vals4 xw hG hV => ?_) ?_
    ·obtain rfl : ss = 0 := Nat.le_antisymm hhi hlo
     rw [← hfe]
     have hS := (hfr vals4).sub (ts := [22, 29]) (S' := [(22, vals4 5), (29, vals4 12)]) rfl
     replace hS := hS.conv (t := 22) rfl (show (vals4 5) = .pointer (some ⟨b2, 0, none⟩) from hV 5 (by decide))
     replace hS := hS.conv (t := 29) rfl (show (vals4 12) = .agg #[.int .i64 ((p.way.getD (i).toNat default).boot), .int .i64 ((p.way.getD (i).toNat default).stream), .int .i64 ((p.way.getD (i).toNat default).seq), .int .i64 ((p.way.getD (i).toNat default).ackBoot), .int .i64 ((p.way.getD (i).toNat default).ackStream), .int .i64 ((p.way.getD (i).toNat default).ackSeq), .bool ((p.way.getD (i).toNat default).has), .string ((p.way.getD (i).toNat default).body)] from hV 12 (by decide))
     obtain ⟨I2, hI2, H⟩ := Gx.ex hG
     refine L_hcall H (js := [(0, false)]) rfl (caps := #[]) hS fn_15_YLinkG rfl rfl rfl rfl rfl (fun D1 hS => have hq := c_link_Link_In hx7 hS; hq) fun _ yw D1 hr hF2 => ?_
     obtain ⟨q0_, rfl, I3, K⟩ := hr
     obtain ⟨hK, H2⟩ := hF2 K
     exact ⟨rfl, Gx.go hG hI2 hK K.imm H2⟩
    refine .cons (fun ss hlo hhi vals4 xw hG hV => ?_) ?_
    ·obtain rfl : ss = 1 := Nat.le_antisymm hhi hlo
     rw [← hfe]
     have hS := (hfr vals4).sub (ts := [30]) (S' := [(30, vals4 13)]) rfl
     replace hS := hS.conv (t := 30) rfl (show (vals4 13) = .tuple #[(tupAt (vals4 13) 0), .int .i64 i_3.2.1] from hV 13 (by decide))
     exact L_val hS rfl (Ob_c tLinkG rfl) ⟨rfl, hG⟩
    refine .cons (fun ss hlo hhi vals4 xw hG hV => ?_) ?_
    ·obtain rfl : ss = 1 := Nat.le_antisymm hhi hlo
     rw [← hfe]
     have hS := (hfr vals4).sub (ts := [16]) (S' := [(16, vals4 14)]) rfl
     replace hS := hS.conv (t := 16) rfl (show (vals4 14) = .tuple #[(tupAt (vals4 13) 0), .int .i64 i_3.2.1] from hV 14 (by decide))
     exact L_val hS rfl (Ob_c tLinkG rfl) ⟨rfl, hG⟩
    refine .cons (fun ss hlo hhi vals4 xw hG hV => ?_) ?_
    ·obtain rfl : ss = 1 := Nat.le_antisymm hhi hlo
     rw [← hfe]
     have hS := (hfr vals4).sub (ts := [16]) (S' := [(16, vals4 14)]) rfl
     replace hS := hS.conv (t := 16) rfl (show (vals4 14) = .tuple #[(tupAt (vals4 13) 0), .int .i64 i_3.2.1] from hV 14 (by decide))
     exact L_val hS rfl (Ob_c tLinkG rfl) ⟨rfl, hG⟩
    refine .cons (fun ss hlo hhi vals4 xw hG hV => ?_) ?_
    ·obtain rfl : ss = 1 := Nat.le_antisymm hhi hlo
     rw [← hfe]
     have hS := (hfr vals4).sub (ts := [31]) (S' := [(31, vals4 15)]) rfl
     replace hS := hS.conv (t := 31) rfl (show (vals4 15) = (tupAt (vals4 13) 0) from hV 15 (by decide))
     exact L_val hS rfl (Ob_c tLinkG rfl) ⟨rfl, hG⟩
    refine .cons (fun ss hlo hhi vals4 xw hG hV => ?_) ?_
    ·obtain rfl : ss = 1 := Nat.le_antisymm hhi hlo
     rw [← hfe]
     have hS := (hfr vals4).sub (ts := [32]) (S' := [(32, vals4 16)]) rfl
     replace hS := hS.conv (t := 32) rfl (show (vals4 16) = .int .i64 i_3.2.1 from hV 16 (by decide))
     exact L_val hS rfl (Ob_c tLinkG rfl) ⟨rfl, hG⟩
    exact .nil
   ·intro vals4 a w25 Z hG hV
    replace Z := Z.sub (ts := [0, 4, 5, 6]) (S' := [(0, .pointer (some ⟨b_p, 0, none⟩)), (4, .int .i64 (p.to_.getD (i).toNat default)), (5, vals4 17), (6, vals4 18)]) rfl
    replace Z := Z.conv (t := 5) rfl (show (vals4 17) = (tupAt (vals4 13) 0) from hV 17 (by decide))
    replace Z := Z.conv (t := 6) rfl (show (vals4 18) = .int .i64 i_3.2.1 from hV 18 (by decide))
    obtain ⟨I10, _, H⟩ := Gx.ex hG
    clear hG hV
    replace Z := Z.sub (ts := [0, 4, 5, 6]) rfl
    replace H : Hf I D w I10 w25 [OElink_Link b2 i_3.2.2, SlC NS (tupAt (vals4 13) 0) i_3.1, BxC b_p 60 [v1, .pointer (some ⟨b2, 0, none⟩), .int .i64 (p.boot.getD 0 0), .int .i64 (p.boot.getD 1 0), v3, v4, .int .i64 (p.sent.getD 0 0), .int .i64 (p.sent.getD 1 0), .int .i64 (p.told.getD 0 0), .int .i64 (p.told.getD 1 0), .bool p.ok], PtC OElink_Link v1 (p.l.getD 0 none), OwC NESeg 31 v3 p.way, OwC Ni64 3 v4 p.to_] := H
    refine p_then (wp_seq (f_region Z ?_)); clear Z; intro Z
    refine s_runk tLinkG Z 4 rfl rfl ?_; clear Z a; intro a Z
    refine s_ob Z (v := .bool p.ok) rfl rfl (by decide) rfl (Ob_load tLinkG rfl rfl rfl ((H.bx 2 rfl).cell 10 rfl)) ?_; clear Z a; intro a Z
    refine s_runk tLinkG Z 1 rfl rfl ?_; clear Z a; intro a Z
    refine g_ob Z (p := p.ok) (v := .int .i64 i_3.2.1) (S' := [(6, .int .i64 i_3.2.1)]) rfl rfl rfl (wantB_t _) rfl (by decide) (fun hp hS => hS.sub (ts := [6]) rfl) (fun hp => Ob_c tLinkG rfl) ?_; clear Z a; intro a Z
    refine g_ob Z (p := p.ok) (v := .bool (i_3.2.1 == 0)) (S' := [(39, .int .i64 i_3.2.1)]) rfl rfl rfl (wantB_t _) rfl (by decide) (fun hp hS => (hS.conv (t := 39) rfl (cond_t hp)).sub (ts := [39]) rfl) (fun hp => Ob_c tLinkG rfl) ?_; clear Z a; intro a Z
    refine s_ob Z (v := .bool (p.ok && (i_3.2.1 == 0))) rfl rfl (by decide) rfl (Ob_pick rfl rfl rfl rfl (pick_and _ _)) ?_; clear Z a; intro a Z
    refine s_runk tLinkG Z 1 rfl rfl ?_; clear Z a; intro a Z
    refine g_ob Z (p := (p.ok && (i_3.2.1 == 0))) (v := (tupAt (vals4 13) 0)) (S' := [(5, (tupAt (vals4 13) 0))]) rfl rfl rfl (wantB_t _) rfl (by decide) (fun hp hS => hS.sub (ts := [5]) rfl) (fun hp => Ob_c tLinkG rfl) ?_; clear Z a; intro a Z
    refine g_ob Z (p := (p.ok && (i_3.2.1 == 0))) (v := .int .i64 (i_3.1.length : Int)) (S' := [(43, (tupAt (vals4 13) 0))]) rfl rfl rfl (wantB_t _) rfl (by decide) (fun hp hS => (hS.conv (t := 43) rfl (cond_t hp)).sub (ts := [43]) rfl) (fun hp => Ob_slen tLinkG rfl rfl rfl (H.slshape 1 rfl)) ?_; clear Z a; intro a Z
    refine g_ob Z (p := (p.ok && (i_3.2.1 == 0))) (v := .bool (decide ((i_3.1.length : Int) ≤ 1))) (S' := [(44, .int .i64 (i_3.1.length : Int))]) rfl rfl rfl (wantB_t _) rfl (by decide) (fun hp hS => (hS.conv (t := 44) rfl (cond_t hp)).sub (ts := [44]) rfl) (fun hp => Ob_c tLinkG rfl) ?_; clear Z a; intro a Z
    refine s_ob Z (v := .bool ((p.ok && (i_3.2.1 == 0)) && (decide ((i_3.1.length : Int) ≤ 1)))) rfl rfl (by decide) rfl (Ob_pick rfl rfl rfl rfl (pick_and _ _)) ?_; clear Z a; intro a Z
    refine s_runk tLinkG Z 2 rfl rfl ?_; clear Z a; intro a Z
    refine h_store tLinkG Z H 2 rfl rfl rfl rfl rfl rfl rfl rfl rfl (one_cons rfl one_nil) (Nat.le_of_ble_eq_true rfl) rfl ?_; clear H; intro w26 H
    dsimp only [List.eraseIdx] at H
    refine s_end Z [0, 4, 5] rfl ?_; clear Z; intro Z
    refine p_then (wp_seq (f_region Z ?_)); clear Z; intro Z
    refine s_runk tLinkG Z 1 rfl rfl ?_; clear Z a; intro a Z
    refine s_end Z [0, 4, 5, 7] rfl ?_; clear Z; intro Z
    refine p_then (wp_block ?_)
    replace H : Hf I D w I10 w26 [PtC OElink_Link (.pointer (some ⟨b2, 0, none⟩)) (some i_3.2.2), BxC b_p 60 [v1, .pointer (some ⟨b2, 0, none⟩), .int .i64 (p.boot.getD 0 0), .int .i64 (p.boot.getD 1 0), v3, v4, .int .i64 (p.sent.getD 0 0), .int .i64 (p.sent.getD 1 0), .int .i64 (p.told.getD 0 0), .int .i64 (p.told.getD 1 0), .bool ((p.ok && (i_3.2.1 == 0)) && (decide ((i_3.1.length : Int) ≤ 1)))], SlC NS (tupAt (vals4 13) 0) i_3.1, PtC OElink_Link v1 (p.l.getD 0 none), OwC NESeg 31 v3 p.way, OwC Ni64 3 v4 p.to_] := H.mkS (K := OElink_Link) 1 rfl
    replace H : Hf I D w I10 w26 [OElaw22_pair b_p ({ p with l := [(p.l.getD 0 none), some i_3.2.2], ok := (p.ok && (i_3.2.1 == 0)) && (decide ((i_3.1.length : Int) ≤ 1)) } : Elaw22_pair), SlC NS (tupAt (vals4 13) 0) i_3.1] := H.shutX (v1, .pointer (some ⟨b2, 0, none⟩), v3, v4) [(1, false), (2, false), (0, false), (1, false), (1, false)] rfl
    refine f_iter hF (fun sg a' w' => match sg with | (k_4, p_5) => Sl 98 [(0, .pointer (some ⟨b_p, 0, none⟩)), (4, .int .i64 (p.to_.getD (i).toNat default)), (5, (tupAt (vals4 13) 0)), (7, .int .i64 k_4)] a' ∧ ∃ I2, Hf I D w I2 w' [OElaw22_pair b_p p_5, SlC NS (tupAt (vals4 13) 0) i_3.1]) ⟨Z.sub (ts := [0, 4, 5, 7]) rfl, ⟨I10, (H.sub [(0, false), (0, true)] rfl).eq rfl⟩⟩ ?_
    clear Z H hF a
    rintro rc_4 ⟨k_4, p_5⟩ a w27 ⟨Z, I11, H⟩ hF
    unfold F_law22_pair_come_l4 at hF
    try dsimp only at hF
    refine wp_seq ?_
    refine wp_seq (f_region Z ?_); clear Z; intro Z
    refine s_runk tLinkG Z 2 rfl rfl ?_; clear Z a; intro a Z
    refine s_ob Z (v := .int .i64 (i_3.1.length : Int)) rfl rfl (by decide) rfl (Ob_slen tLinkG rfl rfl rfl (H.slshape 1 rfl)) ?_; clear Z a; intro a Z
    refine s_runk tLinkG Z 2 rfl rfl ?_; clear Z a; intro a Z
    refine g_ob Z (p := (decide (k_4 < (i_3.1.length : Int)))) (v := .int .i64 k_4) (S' := [(7, .int .i64 k_4)]) rfl rfl rfl (wantB_t _) rfl (by decide) (fun hp hS => hS.sub (ts := [7]) rfl) (fun hp => Ob_c tLinkG rfl) ?_; clear Z a; intro a Z
    refine g_ob Z (p := (decide (k_4 < (i_3.1.length : Int)))) (v := .bool (decide (k_4 < 2))) (S' := [(54, .int .i64 k_4)]) rfl rfl rfl (wantB_t _) rfl (by decide) (fun hp hS => (hS.conv (t := 54) rfl (cond_t hp)).sub (ts := [54]) rfl) (fun hp => Ob_c tLinkG rfl) ?_; clear Z a; intro a Z
    refine s_ob Z (v := .bool ((decide (k_4 < (i_3.1.length : Int))) && (decide (k_4 < 2)))) rfl rfl (by decide) rfl (Ob_pick rfl rfl rfl rfl (pick_and _ _)) ?_; clear Z a; intro a Z
    refine s_end Z [0, 4, 5, 7, 49, 50, 51, 52, 53, 56] rfl ?_; clear Z; intro Z
    refine p_then ?_
    refine f_cond Z rfl (fun hc4 => ?_) (fun hc4 => ?_)
    ·replace hF := ite_t hc4 hF
     refine wp_skip ?_
     refine p_then (wp_seq ?_)
     refine wp_block ?_
     refine wp_seq ?_
     obtain ⟨hg21, hF⟩ := chk_in hF
     obtain ⟨n0_6, hx8, hF⟩ := bnd_in hF
     refine f_region Z ?_; clear Z; intro Z
     refine s_runk tLinkG Z 2 rfl rfl ?_; clear Z a; intro a Z
     refine s_ob Z (v := .pointer (some ⟨blkOf (tupAt (vals4 13) 0), oofOf (tupAt (vals4 13) 0) + (k_4).toNat * 1, none⟩)) rfl rfl (by decide) rfl (Ob_sidx tLinkG rfl rfl rfl rfl (slPl (H.sl 1 rfl) hg21) hg21) ?_; clear Z a; intro a Z
     refine s_ob Z (v := .string (i_3.1.getD (k_4).toNat default)) rfl rfl (by decide) rfl (Ob_load tLinkG rfl rfl rfl ((slFl (H.sl 1 rfl) hg21) 0 _ rfl)) ?_; clear Z a; intro a Z
     refine h_call Z H (js := []) rfl (caps := #[]) fn_38_YLinkG rfl rfl rfl rfl rfl (by decide) rfl rfl (fun D1 hS => have hq := c_law22_numbered hx8 hS; hq) ?_; clear Z a; intro vv a w28 D2 hr hF2 Z
     obtain ⟨rfl, I12, K⟩ := hr
     have H : Hf I D w I12 w28 [OElaw22_pair b_p p_5, SlC NS (tupAt (vals4 13) 0) i_3.1] := hF2 K
     clear hF2 K
     refine s_runk tLinkG Z 1 rfl rfl ?_; clear Z a; intro a Z
     refine s_end Z [0, 4, 5, 7, 49, 50, 51, 52, 53, 56, 59, 60, 61, 62, 63, 8] rfl ?_; clear Z; intro Z
     refine p_then (wp_seq ?_)
     refine bsplit ((1 - (p.to_.getD (i).toNat default)) == 0) (fun hi9 => ?_) (fun hi9 => ?_)
     ·replace hF := ite_t hi9 hF
      obtain ⟨hg22, hF⟩ := chk_in hF
      refine f_region Z ?_; clear Z; intro Z
      refine s_runk tLinkG Z 4 rfl rfl ?_; clear Z a; intro a Z
      obtain ⟨⟨v29, v30, v31, v32⟩, H⟩ := H.openX 0 rfl
      replace H : Hf I D w I12 w28 [BxC b_p 60 [v29, v30, .int .i64 (p_5.boot.getD 0 0), .int .i64 (p_5.boot.getD 1 0), v31, v32, .int .i64 (p_5.sent.getD 0 0), .int .i64 (p_5.sent.getD 1 0), .int .i64 (p_5.told.getD 0 0), .int .i64 (p_5.told.getD 1 0), .bool p_5.ok], PtC OElink_Link v29 (p_5.l.getD 0 none), PtC OElink_Link v30 (p_5.l.getD 1 none), OwC NESeg 31 v31 p_5.way, OwC Ni64 3 v32 p_5.to_, SlC NS (tupAt (vals4 13) 0) i_3.1] := H
      refine s_ob Z (v := .bool p_5.ok) rfl rfl (by decide) rfl (Ob_load tLinkG rfl rfl rfl ((H.bx 0 rfl).cell 10 rfl)) ?_; clear Z a; intro a Z
      refine s_runk tLinkG Z 1 rfl rfl ?_; clear Z a; intro a Z
      refine g_ob Z (p := p_5.ok) (v := .int .i64 n0_6) (S' := [(8, .int .i64 n0_6)]) rfl rfl rfl (wantB_t _) rfl (by decide) (fun hp hS => hS.sub (ts := [8]) rfl) (fun hp => Ob_c tLinkG rfl) ?_; clear Z a; intro a Z
      refine g_ob Z (p := p_5.ok) (v := .pointer (some ⟨b_p, 0, none⟩)) (S' := [(0, .pointer (some ⟨b_p, 0, none⟩))]) rfl rfl rfl (wantB_t _) rfl (by decide) (fun hp hS => hS.sub (ts := [0]) rfl) (fun hp => Ob_c tLinkG rfl) ?_; clear Z a; intro a Z
      refine g_ob Z (p := p_5.ok) (v := .int .i64 (p.to_.getD (i).toNat default)) (S' := [(4, .int .i64 (p.to_.getD (i).toNat default))]) rfl rfl rfl (wantB_t _) rfl (by decide) (fun hp hS => hS.sub (ts := [4]) rfl) (fun hp => Ob_c tLinkG rfl) ?_; clear Z a; intro a Z
      refine g_ob Z (p := p_5.ok) (v := .pointer (some ⟨b_p, 0, none⟩)) (S' := [(71, .pointer (some ⟨b_p, 0, none⟩))]) rfl rfl rfl (wantB_t _) rfl (by decide) (fun hp hS => (hS.conv (t := 71) rfl (cond_t hp)).sub (ts := [71]) rfl) (fun hp => Ob_c tLinkG rfl) ?_; clear Z a; intro a Z
      refine g_ob Z (p := p_5.ok) (v := .pointer (some ⟨b_p, 8, none⟩)) (S' := [(73, .pointer (some ⟨b_p, 0, none⟩))]) rfl rfl rfl (wantB_t _) rfl (by decide) (fun hp hS => (hS.conv (t := 73) rfl (cond_t hp)).sub (ts := [73]) rfl) (fun hp => Ob_c tLinkG rfl) ?_; clear Z a; intro a Z
      refine g_ob Z (p := p_5.ok) (v := .pointer (some ⟨b_p, 9, none⟩)) (S' := [(74, .pointer (some ⟨b_p, 8, none⟩)), (72, .int .i64 (p.to_.getD (i).toNat default))]) rfl rfl rfl (wantB_t _) rfl (by decide) (fun hp hS => ((hS.conv (t := 74) rfl (cond_t hp)).conv (t := 72) rfl (cond_t hp)).sub (ts := [74, 72]) rfl) (fun hp => Ob_apix (m := 1) 1 rfl rfl rfl Try.underlying57 (by kernel_rfl) (eq_of_beq hi6) (by decide)) ?_; clear Z a; intro a Z
      refine g_ob Z (p := p_5.ok) (v := .int .i64 (p_5.told.getD 1 0)) (S' := [(75, .pointer (some ⟨b_p, 9, none⟩))]) rfl rfl rfl (wantB_t _) rfl (by decide) (fun hp hS => (hS.conv (t := 75) rfl (cond_t hp)).sub (ts := [75]) rfl) (fun hp => Ob_load tLinkG rfl rfl rfl ((H.bx 0 rfl).cell 9 rfl)) ?_; clear Z a; intro a Z
      refine g_ob Z (p := p_5.ok) (v := .bool (decide (n0_6 > (p_5.told.getD 1 0)))) (S' := [(70, .int .i64 n0_6), (76, .int .i64 (p_5.told.getD 1 0))]) rfl rfl rfl (wantB_t _) rfl (by decide) (fun hp hS => ((hS.conv (t := 70) rfl (cond_t hp)).conv (t := 76) rfl (cond_t hp)).sub (ts := [70, 76]) rfl) (fun hp => Ob_c tLinkG rfl) ?_; clear Z a; intro a Z
      refine s_ob Z (v := .bool (p_5.ok && (decide (n0_6 > (p_5.told.getD 1 0))))) rfl rfl (by decide) rfl (Ob_pick rfl rfl rfl rfl (pick_and _ _)) ?_; clear Z a; intro a Z
      refine s_runk tLinkG Z 1 rfl rfl ?_; clear Z a; intro a Z
      refine g_ob Z (p := (p_5.ok && (decide (n0_6 > (p_5.told.getD 1 0))))) (v := .int .i64 n0_6) (S' := [(8, .int .i64 n0_6)]) rfl rfl rfl (wantB_t _) rfl (by decide) (fun hp hS => hS.sub (ts := [8]) rfl) (fun hp => Ob_c tLinkG rfl) ?_; clear Z a; intro a Z
      refine g_ob Z (p := (p_5.ok && (decide (n0_6 > (p_5.told.getD 1 0))))) (v := .pointer (some ⟨b_p, 0, none⟩)) (S' := [(0, .pointer (some ⟨b_p, 0, none⟩))]) rfl rfl rfl (wantB_t _) rfl (by decide) (fun hp hS => hS.sub (ts := [0]) rfl) (fun hp => Ob_c tLinkG rfl) ?_; clear Z a; intro a Z
      refine g_ob Z (p := (p_5.ok && (decide (n0_6 > (p_5.told.getD 1 0))))) (v := .int .i64 (p.to_.getD (i).toNat default)) (S' := [(4, .int .i64 (p.to_.getD (i).toNat default))]) rfl rfl rfl (wantB_t _) rfl (by decide) (fun hp hS => hS.sub (ts := [4]) rfl) (fun hp => Ob_c tLinkG rfl) ?_; clear Z a; intro a Z
      refine g_ob Z (p := (p_5.ok && (decide (n0_6 > (p_5.told.getD 1 0))))) (v := .int .i64 (1 - (p.to_.getD (i).toNat default))) (S' := [(82, .int .i64 (p.to_.getD (i).toNat default))]) rfl rfl rfl (wantB_t _) rfl (by decide) (fun hp hS => (hS.conv (t := 82) rfl (cond_t hp)).sub (ts := [82]) rfl) (fun hp => Ob_sub rfl rfl rfl (wrI (hg22 hp))) ?_; clear Z a; intro a Z
      refine g_ob Z (p := (p_5.ok && (decide (n0_6 > (p_5.told.getD 1 0))))) (v := .pointer (some ⟨b_p, 0, none⟩)) (S' := [(81, .pointer (some ⟨b_p, 0, none⟩))]) rfl rfl rfl (wantB_t _) rfl (by decide) (fun hp hS => (hS.conv (t := 81) rfl (cond_t hp)).sub (ts := [81]) rfl) (fun hp => Ob_c tLinkG rfl) ?_; clear Z a; intro a Z
      refine g_ob Z (p := (p_5.ok && (decide (n0_6 > (p_5.told.getD 1 0))))) (v := .pointer (some ⟨b_p, 6, none⟩)) (S' := [(84, .pointer (some ⟨b_p, 0, none⟩))]) rfl rfl rfl (wantB_t _) rfl (by decide) (fun hp hS => (hS.conv (t := 84) rfl (cond_t hp)).sub (ts := [84]) rfl) (fun hp => Ob_c tLinkG rfl) ?_; clear Z a; intro a Z
      refine g_ob Z (p := (p_5.ok && (decide (n0_6 > (p_5.told.getD 1 0))))) (v := .pointer (some ⟨b_p, 6, none⟩)) (S' := [(85, .pointer (some ⟨b_p, 6, none⟩)), (83, .int .i64 (1 - (p.to_.getD (i).toNat default)))]) rfl rfl rfl (wantB_t _) rfl (by decide) (fun hp hS => ((hS.conv (t := 85) rfl (cond_t hp)).conv (t := 83) rfl (cond_t hp)).sub (ts := [85, 83]) rfl) (fun hp => Ob_apix (m := 1) 0 rfl rfl rfl Try.underlying57 (by kernel_rfl) (eq_of_beq hi9) (by decide)) ?_; clear Z a; intro a Z
      refine g_ob Z (p := (p_5.ok && (decide (n0_6 > (p_5.told.getD 1 0))))) (v := .int .i64 (p_5.sent.getD 0 0)) (S' := [(86, .pointer (some ⟨b_p, 6, none⟩))]) rfl rfl rfl (wantB_t _) rfl (by decide) (fun hp hS => (hS.conv (t := 86) rfl (cond_t hp)).sub (ts := [86]) rfl) (fun hp => Ob_load tLinkG rfl rfl rfl ((H.bx 0 rfl).cell 6 rfl)) ?_; clear Z a; intro a Z
      refine g_ob Z (p := (p_5.ok && (decide (n0_6 > (p_5.told.getD 1 0))))) (v := .bool (decide (n0_6 ≤ (p_5.sent.getD 0 0)))) (S' := [(80, .int .i64 n0_6), (87, .int .i64 (p_5.sent.getD 0 0))]) rfl rfl rfl (wantB_t _) rfl (by decide) (fun hp hS => ((hS.conv (t := 80) rfl (cond_t hp)).conv (t := 87) rfl (cond_t hp)).sub (ts := [80, 87]) rfl) (fun hp => Ob_c tLinkG rfl) ?_; clear Z a; intro a Z
      refine s_ob Z (v := .bool ((p_5.ok && (decide (n0_6 > (p_5.told.getD 1 0)))) && (decide (n0_6 ≤ (p_5.sent.getD 0 0))))) rfl rfl (by decide) rfl (Ob_pick rfl rfl rfl rfl (pick_and _ _)) ?_; clear Z a; intro a Z
      refine s_runk tLinkG Z 2 rfl rfl ?_; clear Z a; intro a Z
      refine h_store tLinkG Z H 0 rfl rfl rfl rfl rfl rfl rfl rfl rfl (one_cons rfl one_nil) (Nat.le_of_ble_eq_true rfl) rfl ?_; clear H; intro w29 H
      dsimp only [List.eraseIdx] at H
      refine s_end Z [0, 4, 5, 7, 49, 50, 51, 52, 53, 56, 59, 60, 61, 62, 63, 8, 64, 65, 66, 67, 68, 69, 78, 79, 89, 90, 91] rfl ?_; clear Z; intro Z
      refine p_then ?_
      refine f_region Z ?_; clear Z; intro Z
      refine s_runk tLinkG Z 5 rfl rfl ?_; clear Z a; intro a Z
      refine s_ob Z (v := .pointer (some ⟨b_p, 9, none⟩)) rfl rfl (by decide) rfl (Ob_apix (m := 1) 1 rfl rfl rfl Try.underlying57 (by kernel_rfl) (eq_of_beq hi6) (by decide)) ?_; clear Z a; intro a Z
      refine h_store tLinkG Z H 0 rfl rfl rfl rfl rfl rfl rfl rfl rfl (one_cons rfl one_nil) (Nat.le_of_ble_eq_true rfl) rfl ?_; clear H; intro w30 H
      dsimp only [List.eraseIdx] at H
      refine s_end Z [0, 4, 5, 7, 49, 50, 51, 52, 53, 56, 59, 60, 61, 62, 63, 8, 64, 65, 66, 67, 68, 69, 78, 79, 89, 90, 91, 92, 93, 94, 95, 96, 97] rfl ?_; clear Z; intro Z
      refine p_blk ?_
      refine p_then ?_
      obtain ⟨hg23, hF⟩ := chk_in hF
      refine f_region Z ?_; clear Z; intro Z
      refine s_runk tLinkG Z 1 rfl rfl ?_; clear Z a; intro a Z
      refine s_ob Z (v := .int .i64 (k_4 + 1)) rfl rfl (by decide) rfl (Ob_add rfl rfl rfl (wrI hg23)) ?_; clear Z a; intro a Z
      refine s_runk tLinkG Z 1 rfl rfl ?_; clear Z a; intro a Z
      refine s_end Z [0, 4, 5, 7, 49, 50, 51, 52, 53, 56, 59, 60, 61, 62, 63, 8, 64, 65, 66, 67, 68, 69, 78, 79, 89, 90, 91, 92, 93, 94, 95, 96, 97, 57, 58] rfl ?_; clear Z; intro Z
      refine p_then ?_
      replace H : Hf I D w I12 w30 [OElaw22_pair b_p ({ p_5 with told := [(p_5.told.getD 0 0), n0_6], ok := (p_5.ok && (decide (n0_6 > (p_5.told.getD 1 0)))) && (decide (n0_6 ≤ (p_5.sent.getD 0 0))) } : Elaw22_pair), SlC NS (tupAt (vals4 13) 0) i_3.1] := H.shutX (v29, v30, v31, v32) [(0, false), (0, false), (0, false), (0, false), (0, false)] rfl
      exact ⟨(k_4 + 1, ({ p_5 with told := [(p_5.told.getD 0 0), n0_6], ok := (p_5.ok && (decide (n0_6 > (p_5.told.getD 1 0)))) && (decide (n0_6 ≤ (p_5.sent.getD 0 0))) } : Elaw22_pair)), ⟨Z.sub (ts := [0, 4, 5, 7]) rfl, ⟨I12, (H.sub [(0, false), (0, true)] rfl).eq rfl⟩⟩, hF⟩
     replace hF := ite_f hi9 hF
     refine bsplit ((1 - (p.to_.getD (i).toNat default)) == 1) (fun hi10 => ?_) (fun hi10 => ?_)
     ·replace hF := ite_t hi10 hF
      obtain ⟨hg24, hF⟩ := chk_in hF
      refine f_region Z ?_; clear Z; intro Z
      refine s_runk tLinkG Z 4 rfl rfl ?_; clear Z a; intro a Z
      obtain ⟨⟨v33, v34, v35, v36⟩, H⟩ := H.openX 0 rfl
      replace H : Hf I D w I12 w28 [BxC b_p 60 [v33, v34, .int .i64 (p_5.boot.getD 0 0), .int .i64 (p_5.boot.getD 1 0), v35, v36, .int .i64 (p_5.sent.getD 0 0), .int .i64 (p_5.sent.getD 1 0), .int .i64 (p_5.told.getD 0 0), .int .i64 (p_5.told.getD 1 0), .bool p_5.ok], PtC OElink_Link v33 (p_5.l.getD 0 none), PtC OElink_Link v34 (p_5.l.getD 1 none), OwC NESeg 31 v35 p_5.way, OwC Ni64 3 v36 p_5.to_, SlC NS (tupAt (vals4 13) 0) i_3.1] := H
      refine s_ob Z (v := .bool p_5.ok) rfl rfl (by decide) rfl (Ob_load tLinkG rfl rfl rfl ((H.bx 0 rfl).cell 10 rfl)) ?_; clear Z a; intro a Z
      refine s_runk tLinkG Z 1 rfl rfl ?_; clear Z a; intro a Z
      refine g_ob Z (p := p_5.ok) (v := .int .i64 n0_6) (S' := [(8, .int .i64 n0_6)]) rfl rfl rfl (wantB_t _) rfl (by decide) (fun hp hS => hS.sub (ts := [8]) rfl) (fun hp => Ob_c tLinkG rfl) ?_; clear Z a; intro a Z
      refine g_ob Z (p := p_5.ok) (v := .pointer (some ⟨b_p, 0, none⟩)) (S' := [(0, .pointer (some ⟨b_p, 0, none⟩))]) rfl rfl rfl (wantB_t _) rfl (by decide) (fun hp hS => hS.sub (ts := [0]) rfl) (fun hp => Ob_c tLinkG rfl) ?_; clear Z a; intro a Z
      refine g_ob Z (p := p_5.ok) (v := .int .i64 (p.to_.getD (i).toNat default)) (S' := [(4, .int .i64 (p.to_.getD (i).toNat default))]) rfl rfl rfl (wantB_t _) rfl (by decide) (fun hp hS => hS.sub (ts := [4]) rfl) (fun hp => Ob_c tLinkG rfl) ?_; clear Z a; intro a Z
      refine g_ob Z (p := p_5.ok) (v := .pointer (some ⟨b_p, 0, none⟩)) (S' := [(71, .pointer (some ⟨b_p, 0, none⟩))]) rfl rfl rfl (wantB_t _) rfl (by decide) (fun hp hS => (hS.conv (t := 71) rfl (cond_t hp)).sub (ts := [71]) rfl) (fun hp => Ob_c tLinkG rfl) ?_; clear Z a; intro a Z
      refine g_ob Z (p := p_5.ok) (v := .pointer (some ⟨b_p, 8, none⟩)) (S' := [(73, .pointer (some ⟨b_p, 0, none⟩))]) rfl rfl rfl (wantB_t _) rfl (by decide) (fun hp hS => (hS.conv (t := 73) rfl (cond_t hp)).sub (ts := [73]) rfl) (fun hp => Ob_c tLinkG rfl) ?_; clear Z a; intro a Z
      refine g_ob Z (p := p_5.ok) (v := .pointer (some ⟨b_p, 9, none⟩)) (S' := [(74, .pointer (some ⟨b_p, 8, none⟩)), (72, .int .i64 (p.to_.getD (i).toNat default))]) rfl rfl rfl (wantB_t _) rfl (by decide) (fun hp hS => ((hS.conv (t := 74) rfl (cond_t hp)).conv (t := 72) rfl (cond_t hp)).sub (ts := [74, 72]) rfl) (fun hp => Ob_apix (m := 1) 1 rfl rfl rfl Try.underlying57 (by kernel_rfl) (eq_of_beq hi6) (by decide)) ?_; clear Z a; intro a Z
      refine g_ob Z (p := p_5.ok) (v := .int .i64 (p_5.told.getD 1 0)) (S' := [(75, .pointer (some ⟨b_p, 9, none⟩))]) rfl rfl rfl (wantB_t _) rfl (by decide) (fun hp hS => (hS.conv (t := 75) rfl (cond_t hp)).sub (ts := [75]) rfl) (fun hp => Ob_load tLinkG rfl rfl rfl ((H.bx 0 rfl).cell 9 rfl)) ?_; clear Z a; intro a Z
      refine g_ob Z (p := p_5.ok) (v := .bool (decide (n0_6 > (p_5.told.getD 1 0)))) (S' := [(70, .int .i64 n0_6), (76, .int .i64 (p_5.told.getD 1 0))]) rfl rfl rfl (wantB_t _) rfl (by decide) (fun hp hS => ((hS.conv (t := 70) rfl (cond_t hp)).conv (t := 76) rfl (cond_t hp)).sub (ts := [70, 76]) rfl) (fun hp => Ob_c tLinkG rfl) ?_; clear Z a; intro a Z
      refine s_ob Z (v := .bool (p_5.ok && (decide (n0_6 > (p_5.told.getD 1 0))))) rfl rfl (by decide) rfl (Ob_pick rfl rfl rfl rfl (pick_and _ _)) ?_; clear Z a; intro a Z
      refine s_runk tLinkG Z 1 rfl rfl ?_; clear Z a; intro a Z
      refine g_ob Z (p := (p_5.ok && (decide (n0_6 > (p_5.told.getD 1 0))))) (v := .int .i64 n0_6) (S' := [(8, .int .i64 n0_6)]) rfl rfl rfl (wantB_t _) rfl (by decide) (fun hp hS => hS.sub (ts := [8]) rfl) (fun hp => Ob_c tLinkG rfl) ?_; clear Z a; intro a Z
      refine g_ob Z (p := (p_5.ok && (decide (n0_6 > (p_5.told.getD 1 0))))) (v := .pointer (some ⟨b_p, 0, none⟩)) (S' := [(0, .pointer (some ⟨b_p, 0, none⟩))]) rfl rfl rfl (wantB_t _) rfl (by decide) (fun hp hS => hS.sub (ts := [0]) rfl) (fun hp => Ob_c tLinkG rfl) ?_; clear Z a; intro a Z
      refine g_ob Z (p := (p_5.ok && (decide (n0_6 > (p_5.told.getD 1 0))))) (v := .int .i64 (p.to_.getD (i).toNat default)) (S' := [(4, .int .i64 (p.to_.getD (i).toNat default))]) rfl rfl rfl (wantB_t _) rfl (by decide) (fun hp hS => hS.sub (ts := [4]) rfl) (fun hp => Ob_c tLinkG rfl) ?_; clear Z a; intro a Z
      refine g_ob Z (p := (p_5.ok && (decide (n0_6 > (p_5.told.getD 1 0))))) (v := .int .i64 (1 - (p.to_.getD (i).toNat default))) (S' := [(82, .int .i64 (p.to_.getD (i).toNat default))]) rfl rfl rfl (wantB_t _) rfl (by decide) (fun hp hS => (hS.conv (t := 82) rfl (cond_t hp)).sub (ts := [82]) rfl) (fun hp => Ob_sub rfl rfl rfl (wrI (hg24 hp))) ?_; clear Z a; intro a Z
      refine g_ob Z (p := (p_5.ok && (decide (n0_6 > (p_5.told.getD 1 0))))) (v := .pointer (some ⟨b_p, 0, none⟩)) (S' := [(81, .pointer (some ⟨b_p, 0, none⟩))]) rfl rfl rfl (wantB_t _) rfl (by decide) (fun hp hS => (hS.conv (t := 81) rfl (cond_t hp)).sub (ts := [81]) rfl) (fun hp => Ob_c tLinkG rfl) ?_; clear Z a; intro a Z
      refine g_ob Z (p := (p_5.ok && (decide (n0_6 > (p_5.told.getD 1 0))))) (v := .pointer (some ⟨b_p, 6, none⟩)) (S' := [(84, .pointer (some ⟨b_p, 0, none⟩))]) rfl rfl rfl (wantB_t _) rfl (by decide) (fun hp hS => (hS.conv (t := 84) rfl (cond_t hp)).sub (ts := [84]) rfl) (fun hp => Ob_c tLinkG rfl) ?_; clear Z a; intro a Z
      refine g_ob Z (p := (p_5.ok && (decide (n0_6 > (p_5.told.getD 1 0))))) (v := .pointer (some ⟨b_p, 7, none⟩)) (S' := [(85, .pointer (some ⟨b_p, 6, none⟩)), (83, .int .i64 (1 - (p.to_.getD (i).toNat default)))]) rfl rfl rfl (wantB_t _) rfl (by decide) (fun hp hS => ((hS.conv (t := 85) rfl (cond_t hp)).conv (t := 83) rfl (cond_t hp)).sub (ts := [85, 83]) rfl) (fun hp => Ob_apix (m := 1) 1 rfl rfl rfl Try.underlying57 (by kernel_rfl) (eq_of_beq hi10) (by decide)) ?_; clear Z a; intro a Z
      refine g_ob Z (p := (p_5.ok && (decide (n0_6 > (p_5.told.getD 1 0))))) (v := .int .i64 (p_5.sent.getD 1 0)) (S' := [(86, .pointer (some ⟨b_p, 7, none⟩))]) rfl rfl rfl (wantB_t _) rfl (by decide) (fun hp hS => (hS.conv (t := 86) rfl (cond_t hp)).sub (ts := [86]) rfl) (fun hp => Ob_load tLinkG rfl rfl rfl ((H.bx 0 rfl).cell 7 rfl)) ?_; clear Z a; intro a Z
      refine g_ob Z (p := (p_5.ok && (decide (n0_6 > (p_5.told.getD 1 0))))) (v := .bool (decide (n0_6 ≤ (p_5.sent.getD 1 0)))) (S' := [(80, .int .i64 n0_6), (87, .int .i64 (p_5.sent.getD 1 0))]) rfl rfl rfl (wantB_t _) rfl (by decide) (fun hp hS => ((hS.conv (t := 80) rfl (cond_t hp)).conv (t := 87) rfl (cond_t hp)).sub (ts := [80, 87]) rfl) (fun hp => Ob_c tLinkG rfl) ?_; clear Z a; intro a Z
      refine s_ob Z (v := .bool ((p_5.ok && (decide (n0_6 > (p_5.told.getD 1 0)))) && (decide (n0_6 ≤ (p_5.sent.getD 1 0))))) rfl rfl (by decide) rfl (Ob_pick rfl rfl rfl rfl (pick_and _ _)) ?_; clear Z a; intro a Z
      refine s_runk tLinkG Z 2 rfl rfl ?_; clear Z a; intro a Z
      refine h_store tLinkG Z H 0 rfl rfl rfl rfl rfl rfl rfl rfl rfl (one_cons rfl one_nil) (Nat.le_of_ble_eq_true rfl) rfl ?_; clear H; intro w31 H
      dsimp only [List.eraseIdx] at H
      refine s_end Z [0, 4, 5, 7, 49, 50, 51, 52, 53, 56, 59, 60, 61, 62, 63, 8, 64, 65, 66, 67, 68, 69, 78, 79, 89, 90, 91] rfl ?_; clear Z; intro Z
      refine p_then ?_
      refine f_region Z ?_; clear Z; intro Z
      refine s_runk tLinkG Z 5 rfl rfl ?_; clear Z a; intro a Z
      refine s_ob Z (v := .pointer (some ⟨b_p, 9, none⟩)) rfl rfl (by decide) rfl (Ob_apix (m := 1) 1 rfl rfl rfl Try.underlying57 (by kernel_rfl) (eq_of_beq hi6) (by decide)) ?_; clear Z a; intro a Z
      refine h_store tLinkG Z H 0 rfl rfl rfl rfl rfl rfl rfl rfl rfl (one_cons rfl one_nil) (Nat.le_of_ble_eq_true rfl) rfl ?_; clear H; intro w32 H
      dsimp only [List.eraseIdx] at H
      refine s_end Z [0, 4, 5, 7, 49, 50, 51, 52, 53, 56, 59, 60, 61, 62, 63, 8, 64, 65, 66, 67, 68, 69, 78, 79, 89, 90, 91, 92, 93, 94, 95, 96, 97] rfl ?_; clear Z; intro Z
      refine p_blk ?_
      refine p_then ?_
      obtain ⟨hg25, hF⟩ := chk_in hF
      refine f_region Z ?_; clear Z; intro Z
      refine s_runk tLinkG Z 1 rfl rfl ?_; clear Z a; intro a Z
      refine s_ob Z (v := .int .i64 (k_4 + 1)) rfl rfl (by decide) rfl (Ob_add rfl rfl rfl (wrI hg25)) ?_; clear Z a; intro a Z
      refine s_runk tLinkG Z 1 rfl rfl ?_; clear Z a; intro a Z
      refine s_end Z [0, 4, 5, 7, 49, 50, 51, 52, 53, 56, 59, 60, 61, 62, 63, 8, 64, 65, 66, 67, 68, 69, 78, 79, 89, 90, 91, 92, 93, 94, 95, 96, 97, 57, 58] rfl ?_; clear Z; intro Z
      refine p_then ?_
      replace H : Hf I D w I12 w32 [OElaw22_pair b_p ({ p_5 with told := [(p_5.told.getD 0 0), n0_6], ok := (p_5.ok && (decide (n0_6 > (p_5.told.getD 1 0)))) && (decide (n0_6 ≤ (p_5.sent.getD 1 0))) } : Elaw22_pair), SlC NS (tupAt (vals4 13) 0) i_3.1] := H.shutX (v33, v34, v35, v36) [(0, false), (0, false), (0, false), (0, false), (0, false)] rfl
      exact ⟨(k_4 + 1, ({ p_5 with told := [(p_5.told.getD 0 0), n0_6], ok := (p_5.ok && (decide (n0_6 > (p_5.told.getD 1 0)))) && (decide (n0_6 ≤ (p_5.sent.getD 1 0))) } : Elaw22_pair)), ⟨Z.sub (ts := [0, 4, 5, 7]) rfl, ⟨I12, (H.sub [(0, false), (0, true)] rfl).eq rfl⟩⟩, hF⟩
     replace hF := ite_f hi10 hF
     cases hF
    ·replace hF := ite_f hc4 hF
     refine wp_exit ?_
     refine p_then_x ?_
     refine p_then_x ?_
     refine f_exit_here ?_
     obtain rfl := some_in hF
     exact f_fall Z (run_results0 rfl) ⟨rfl, I11, (H.sub [(0, false)] rfl).eq rfl⟩
 replace hF := ite_f hi6 hF
 cases hF

def F_law22_pair_gone (p : Elaw22_pair) (i : Int) : Option Elaw22_pair := chk ((0 : Int) ≤ i ∧ i ≤ (p.way.length : Int)) (chk (((([] : List ESeg).length + (p.way.take ((i).toNat)).length : Nat) : Int) * 72 ≤ 140737488355328) (chk (inI (i + 1)) (chk ((0 : Int) ≤ i + 1 ∧ i + 1 ≤ (p.way.length : Int)) (chk ((((([] : List ESeg) ++ (p.way.take ((i).toNat))).length + (p.way.drop ((i + 1).toNat)).length : Nat) : Int) * 72 ≤ 140737488355328) (chk ((0 : Int) ≤ i ∧ i ≤ (p.to_.length : Int)) (chk (((([] : List Int).length + (p.to_.take ((i).toNat)).length : Nat) : Int) * 8 ≤ 140737488355328) (chk (inI (i + 1)) (chk ((0 : Int) ≤ i + 1 ∧ i + 1 ≤ (p.to_.length : Int)) (chk ((((([] : List Int) ++ (p.to_.take ((i).toNat))).length + (p.to_.drop ((i + 1).toNat)).length : Nat) : Int) * 8 ≤ 140737488355328) (some ({ p with way := (([] : List ESeg) ++ (p.way.take ((i).toNat))) ++ (p.way.drop ((i + 1).toNat)), to_ := (([] : List Int) ++ (p.to_.take ((i).toNat))) ++ (p.to_.drop ((i + 1).toNat)) } : Elaw22_pair)))))))))))

set_option maxHeartbeats 1000000 in
theorem c_law22_pair_gone {I D : Dm} {b_p : Nat} {p : Elaw22_pair} {i : Int} {w : World} {rr : Elaw22_pair} (hF : F_law22_pair_gone p i = some rr) (H : St I D w [OElaw22_pair b_p p]) :
  Calls Try.prog 37 #[.pointer (some ⟨b_p, 0, none⟩), .int .i64 i] w (Ret fun vv w' => vv = .tuple #[] ∧ ∃ I', Hf I D w I' w' [OElaw22_pair b_p rr]) := by
 replace H := H.hf
 unfold F_law22_pair_gone at hF
 refine f_enter 42 Try.func37 rfl rfl (Nat.le_of_ble_eq_true rfl) fun a Z => ?_
 replace Z := Z.sub (ts := [0, 1]) rfl
 refine wp_seq ?_
 obtain ⟨⟨v1, v2, v3, v4⟩, H⟩ := H.openX 0 rfl
 replace H : Hf I D w I w [BxC b_p 60 [v1, v2, .int .i64 (p.boot.getD 0 0), .int .i64 (p.boot.getD 1 0), v3, v4, .int .i64 (p.sent.getD 0 0), .int .i64 (p.sent.getD 1 0), .int .i64 (p.told.getD 0 0), .int .i64 (p.told.getD 1 0), .bool p.ok], PtC OElink_Link v1 (p.l.getD 0 none), PtC OElink_Link v2 (p.l.getD 1 none), OwC NESeg 31 v3 p.way, OwC Ni64 3 v4 p.to_] := H
 obtain ⟨hg1, hF⟩ := chk_in hF
 obtain ⟨hg2, hF⟩ := chk_in hF
 obtain ⟨hg3, hF⟩ := chk_in hF
 obtain ⟨hg4, hF⟩ := chk_in hF
 obtain ⟨hg5, hF⟩ := chk_in hF
 refine f_regionL Z (by kernel_rfl) (by kernel_rfl) (by decide) (by decide) [1, 8, 16, 19] [(0, 0, 3), (0, 0, 0), (0, 0, 1), (4, 0, 1), (12, 0, 1), (28, 0, 1), (0, 0, 1), (124, 0, 1), (254, 1, 1), (0, 0, 2), (512, 0, 2), (1536, 0, 2), (3584, 0, 2), (0, 0, 2), (8192, 0, 2), (32256, 0, 2), (65534, 2, 2), (131071, 3, 3), (262143, 3, 3), (524287, 3, 3)] (by kernel_rfl) (fun jj vv => cond (Nat.blt jj 10) (cond (Nat.blt jj 5) (cond (Nat.blt jj 2) (cond (Nat.blt jj 1) (vv = .pointer (some ⟨b_p, 0, none⟩)) (vv = .slice (some ⟨blkOf vv, 0, none⟩) 0 0)) (cond (Nat.blt jj 3) (vv = .pointer (some ⟨b_p, 0, none⟩)) (cond (Nat.blt jj 4) (vv = .pointer (some ⟨b_p, 0, none⟩)) (vv = .pointer (some ⟨b_p, 4, none⟩))))) (cond (Nat.blt jj 7) (cond (Nat.blt jj 6) (vv = v3) (vv = .int .i64 i)) (cond (Nat.blt jj 8) (vv = subV v3 0 ((i).toNat) 8) (cond (Nat.blt jj 9) (True) (vv = .pointer (some ⟨b_p, 0, none⟩)))))) (cond (Nat.blt jj 15) (cond (Nat.blt jj 12) (cond (Nat.blt jj 11) (vv = .pointer (some ⟨b_p, 0, none⟩)) (vv = .pointer (some ⟨b_p, 4, none⟩))) (cond (Nat.blt jj 13) (vv = v3) (cond (Nat.blt jj 14) (vv = .int .i64 i) (vv = .int .i64 (i + 1))))) (cond (Nat.blt jj 17) (cond (Nat.blt jj 16) (vv = subV v3 ((i + 1).toNat) p.way.length 8) (True)) (cond (Nat.blt jj 18) (vv = .pointer (some ⟨b_p, 0, none⟩)) (cond (Nat.blt jj 19) (vv = .pointer (some ⟨b_p, 4, none⟩)) (True)))))) (fun ss vals1 xw => match ss with | 0 => Gx I D w I w xw [BxC b_p 60 [v1, v2, .int .i64 (p.boot.getD 0 0), .int .i64 (p.boot.getD 1 0), v3, v4, .int .i64 (p.sent.getD 0 0), .int .i64 (p.sent.getD 1 0), .int .i64 (p.told.getD 0 0), .int .i64 (p.told.getD 1 0), .bool p.ok], PtC OElink_Link v1 (p.l.getD 0 none), PtC OElink_Link v2 (p.l.getD 1 none), OwC NESeg 31 v3 p.way, OwC Ni64 3 v4 p.to_] | 1 => Gx I D w I w xw [BxC (blkOf (vals1 1)) 31 [], BxC b_p 60 [v1, v2, .int .i64 (p.boot.getD 0 0), .int .i64 (p.boot.getD 1 0), v3, v4, .int .i64 (p.sent.getD 0 0), .int .i64 (p.sent.getD 1 0), .int .i64 (p.told.getD 0 0), .int .i64 (p.told.getD 1 0), .bool p.ok], PtC OElink_Link v1 (p.l.getD 0 none), PtC OElink_Link v2 (p.l.getD 1 none), OwC NESeg 31 v3 p.way, OwC Ni64 3 v4 p.to_] | 2 => Gx I D w I w xw [OwC NESeg 31 (vals1 8) (([] : List ESeg) ++ (p.way.take ((i).toNat))), BxC b_p 60 [v1, v2, .int .i64 (p.boot.getD 0 0), .int .i64 (p.boot.getD 1 0), v3, v4, .int .i64 (p.sent.getD 0 0), .int .i64 (p.sent.getD 1 0), .int .i64 (p.told.getD 0 0), .int .i64 (p.told.getD 1 0), .bool p.ok], PtC OElink_Link v1 (p.l.getD 0 none), PtC OElink_Link v2 (p.l.getD 1 none), OwC NESeg 31 v3 p.way, OwC Ni64 3 v4 p.to_] | 3 => Gx I D w I w xw [OwC NESeg 31 (vals1 16) ((([] : List ESeg) ++ (p.way.take ((i).toNat))) ++ (p.way.drop ((i + 1).toNat))), BxC b_p 60 [v1, v2, .int .i64 (p.boot.getD 0 0), .int .i64 (p.boot.getD 1 0), v3, v4, .int .i64 (p.sent.getD 0 0), .int .i64 (p.sent.getD 1 0), .int .i64 (p.told.getD 0 0), .int .i64 (p.told.getD 1 0), .bool p.ok], PtC OElink_Link v1 (p.l.getD 0 none), PtC OElink_Link v2 (p.l.getD 1 none), OwC NESeg 31 v3 p.way, OwC Ni64 3 v4 p.to_] | _ => Gx I D w I w xw [BxC b_p 60 [v1, v2, .int .i64 (p.boot.getD 0 0), .int .i64 (p.boot.getD 1 0), (vals1 16), v4, .int .i64 (p.sent.getD 0 0), .int .i64 (p.sent.getD 1 0), .int .i64 (p.told.getD 0 0), .int .i64 (p.told.getD 1 0), .bool p.ok], OwC NESeg 31 (vals1 16) ((([] : List ESeg) ++ (p.way.take ((i).toNat))) ++ (p.way.drop ((i + 1).toNat))), PtC OElink_Link v1 (p.l.getD 0 none), PtC OElink_Link v2 (p.l.getD 1 none), OwC NESeg 31 v3 p.way, OwC Ni64 3 v4 p.to_]) (fun _ => Gx.start H) ?_ ?_
 ·intro fr hfr hfe
  refine .cons (fun ss hlo hhi vals1 xw hG hV => ?_) ?_
  ·obtain rfl | rfl | rfl | rfl : ss = 0 ∨ ss = 1 ∨ ss = 2 ∨ ss = 3 := st3 hlo hhi
   all_goals
   ·rw [← hfe]
    have hS := (hfr vals1).sub (ts := [0]) (S' := [(0, .pointer (some ⟨b_p, 0, none⟩))]) rfl
    exact L_val hS rfl (Ob_c tLinkG rfl) ⟨rfl, hG⟩
  refine .cons (fun ss hlo hhi vals1 xw hG hV => ?_) ?_
  ·obtain rfl : ss = 0 := Nat.le_antisymm hhi hlo
   rw [← hfe]
   have hS := (hfr vals1).sub (ts := []) (S' := []) rfl
   obtain ⟨I2, hI2, H⟩ := Gx.ex hG
   exact L_bslice H (vs := []) (cl := []) (e := 31) hS rfl rfl rfl (fun w => run_bslice (z := .agg #[.int .i64 0, .int .i64 0, .int .i64 0, .int .i64 0, .int .i64 0, .int .i64 0, .bool false, .string ByteArray.empty]) (m := 8) Try.underlying37 (by kernel_rfl) rfl rfl (by decide) (by simp [Instr.fill, Value.cells]) w) fun yw b hK H => ⟨rfl, Gx.go hG hI2 hK (fun _ h => h) H⟩
  refine .cons (fun ss hlo hhi vals1 xw hG hV => ?_) ?_
  ·obtain rfl | rfl : ss = 0 ∨ ss = 1 := st1 hlo hhi
   all_goals
   ·rw [← hfe]
    have hS := (hfr vals1).sub (ts := [0]) (S' := [(0, .pointer (some ⟨b_p, 0, none⟩))]) rfl
    exact L_val hS rfl (Ob_c tLinkG rfl) ⟨rfl, hG⟩
  refine .cons (fun ss hlo hhi vals1 xw hG hV => ?_) ?_
  ·obtain rfl | rfl : ss = 0 ∨ ss = 1 := st1 hlo hhi
   all_goals
   ·rw [← hfe]
    have hS := (hfr vals1).sub (ts := [6]) (S' := [(6, vals1 2)]) rfl
    replace hS := hS.conv (t := 6) rfl (show (vals1 2) = .pointer (some ⟨b_p, 0, none⟩) from hV 2 (by decide))
    exact L_val hS rfl (Ob_c tLinkG rfl) ⟨rfl, hG⟩
  refine .cons (fun ss hlo hhi vals1 xw hG hV => ?_) ?_
  ·obtain rfl | rfl : ss = 0 ∨ ss = 1 := st1 hlo hhi
   all_goals
   ·rw [← hfe]
    have hS := (hfr vals1).sub (ts := [7]) (S' := [(7, vals1 3)]) rfl
    replace hS := hS.conv (t := 7) rfl (show (vals1 3) = .pointer (some ⟨b_p, 0, none⟩) from hV 3 (by decide))
    exact L_val hS rfl (Ob_c tLinkG rfl) ⟨rfl, hG⟩
  refine .cons (fun ss hlo hhi vals1 xw hG hV => ?_) ?_
  ·obtain rfl | rfl : ss = 0 ∨ ss = 1 := st1 hlo hhi
   ·rw [← hfe]
    have hS := (hfr vals1).sub (ts := [8]) (S' := [(8, vals1 4)]) rfl
    replace hS := hS.conv (t := 8) rfl (show (vals1 4) = .pointer (some ⟨b_p, 4, none⟩) from hV 4 (by decide))
    obtain ⟨I2, hI2, H⟩ := Gx.ex hG
    exact L_val hS rfl (Ob_load tLinkG rfl rfl rfl ((H.bx 0 rfl).cell 4 rfl)) ⟨rfl, hG⟩
   ·rw [← hfe]
    have hS := (hfr vals1).sub (ts := [8]) (S' := [(8, vals1 4)]) rfl
    replace hS := hS.conv (t := 8) rfl (show (vals1 4) = .pointer (some ⟨b_p, 4, none⟩) from hV 4 (by decide))
    obtain ⟨I2, hI2, H⟩ := Gx.ex hG
    exact L_val hS rfl (Ob_load tLinkG rfl rfl rfl ((H.bx 1 rfl).cell 4 rfl)) ⟨rfl, hG⟩
  refine .cons (fun ss hlo hhi vals1 xw hG hV => ?_) ?_
  ·obtain rfl | rfl : ss = 0 ∨ ss = 1 := st1 hlo hhi
   all_goals
   ·rw [← hfe]
    have hS := (hfr vals1).sub (ts := [1]) (S' := [(1, .int .i64 i)]) rfl
    exact L_val hS rfl (Ob_c tLinkG rfl) ⟨rfl, hG⟩
  refine .cons (fun ss hlo hhi vals1 xw hG hV => ?_) ?_
  ·obtain rfl | rfl : ss = 0 ∨ ss = 1 := st1 hlo hhi
   ·rw [← hfe]
    have hS := (hfr vals1).sub (ts := [9, 10]) (S' := [(9, vals1 5), (10, vals1 6)]) rfl
    replace hS := hS.conv (t := 9) rfl (show (vals1 5) = v3 from hV 5 (by decide))
    replace hS := hS.conv (t := 10) rfl (show (vals1 6) = .int .i64 i from hV 6 (by decide))
    obtain ⟨I2, hI2, H⟩ := Gx.ex hG
    exact L_val hS rfl (Ob_sub_to tLinkG rfl rfl rfl rfl (H.owshape 3 rfl) hg1) ⟨rfl, hG⟩
   ·rw [← hfe]
    have hS := (hfr vals1).sub (ts := [9, 10]) (S' := [(9, vals1 5), (10, vals1 6)]) rfl
    replace hS := hS.conv (t := 9) rfl (show (vals1 5) = v3 from hV 5 (by decide))
    replace hS := hS.conv (t := 10) rfl (show (vals1 6) = .int .i64 i from hV 6 (by decide))
    obtain ⟨I2, hI2, H⟩ := Gx.ex hG
    exact L_val hS rfl (Ob_sub_to tLinkG rfl rfl rfl rfl (H.owshape 4 rfl) hg1) ⟨rfl, hG⟩
  refine .cons (fun ss hlo hhi vals1 xw hG hV => ?_) ?_
  ·obtain rfl : ss = 1 := Nat.le_antisymm hhi hlo
   rw [← hfe]
   have hS := (hfr vals1).sub (ts := [5, 11]) (S' := [(5, vals1 1), (11, vals1 7)]) rfl
   replace hS := hS.conv (t := 5) rfl (show (vals1 1) = .slice (some ⟨blkOf (vals1 1), 0, none⟩) 0 0 from hV 1 (by decide))
   replace hS := hS.conv (t := 11) rfl (show (vals1 7) = subV v3 0 ((i).toNat) 8 from hV 7 (by decide))
   obtain ⟨I2, hI2, H⟩ := Gx.ex hG
   replace H := H.emptyow 0 rfl NESeg
   exact L_appO H 0 E_37_YLinkG (p.way.take ((i).toNat)) rfl rfl hS rfl rfl rfl rfl ((H.ow2 4 rfl).part_to hg1 8 rfl) hg2 (by decide) fun v yw hK H => ⟨trivial, Gx.go hG hI2 hK (fun _ h => h) H⟩
  refine .cons (fun ss hlo hhi vals1 xw hG hV => ?_) ?_
  ·obtain rfl | rfl | rfl : ss = 0 ∨ ss = 1 ∨ ss = 2 := st2 hlo hhi
   all_goals
   ·rw [← hfe]
    have hS := (hfr vals1).sub (ts := [0]) (S' := [(0, .pointer (some ⟨b_p, 0, none⟩))]) rfl
    exact L_val hS rfl (Ob_c tLinkG rfl) ⟨rfl, hG⟩
  refine .cons (fun ss hlo hhi vals1 xw hG hV => ?_) ?_
  ·obtain rfl | rfl | rfl : ss = 0 ∨ ss = 1 ∨ ss = 2 := st2 hlo hhi
   all_goals
   ·rw [← hfe]
    have hS := (hfr vals1).sub (ts := [13]) (S' := [(13, vals1 9)]) rfl
    replace hS := hS.conv (t := 13) rfl (show (vals1 9) = .pointer (some ⟨b_p, 0, none⟩) from hV 9 (by decide))
    exact L_val hS rfl (Ob_c tLinkG rfl) ⟨rfl, hG⟩
  refine .cons (fun ss hlo hhi vals1 xw hG hV => ?_) ?_
  ·obtain rfl | rfl | rfl : ss = 0 ∨ ss = 1 ∨ ss = 2 := st2 hlo hhi
   all_goals
   ·rw [← hfe]
    have hS := (hfr vals1).sub (ts := [14]) (S' := [(14, vals1 10)]) rfl
    replace hS := hS.conv (t := 14) rfl (show (vals1 10) = .pointer (some ⟨b_p, 0, none⟩) from hV 10 (by decide))
    exact L_val hS rfl (Ob_c tLinkG rfl) ⟨rfl, hG⟩
  refine .cons (fun ss hlo hhi vals1 xw hG hV => ?_) ?_
  ·obtain rfl | rfl | rfl : ss = 0 ∨ ss = 1 ∨ ss = 2 := st2 hlo hhi
   ·rw [← hfe]
    have hS := (hfr vals1).sub (ts := [15]) (S' := [(15, vals1 11)]) rfl
    replace hS := hS.conv (t := 15) rfl (show (vals1 11) = .pointer (some ⟨b_p, 4, none⟩) from hV 11 (by decide))
    obtain ⟨I2, hI2, H⟩ := Gx.ex hG
    exact L_val hS rfl (Ob_load tLinkG rfl rfl rfl ((H.bx 0 rfl).cell 4 rfl)) ⟨rfl, hG⟩
   ·rw [← hfe]
    have hS := (hfr vals1).sub (ts := [15]) (S' := [(15, vals1 11)]) rfl
    replace hS := hS.conv (t := 15) rfl (show (vals1 11) = .pointer (some ⟨b_p, 4, none⟩) from hV 11 (by decide))
    obtain ⟨I2, hI2, H⟩ := Gx.ex hG
    exact L_val hS rfl (Ob_load tLinkG rfl rfl rfl ((H.bx 1 rfl).cell 4 rfl)) ⟨rfl, hG⟩
   ·rw [← hfe]
    have hS := (hfr vals1).sub (ts := [15]) (S' := [(15, vals1 11)]) rfl
    replace hS := hS.conv (t := 15) rfl (show (vals1 11) = .pointer (some ⟨b_p, 4, none⟩) from hV 11 (by decide))
    obtain ⟨I2, hI2, H⟩ := Gx.ex hG
    exact L_val hS rfl (Ob_load tLinkG rfl rfl rfl ((H.bx 1 rfl).cell 4 rfl)) ⟨rfl, hG⟩
  refine .cons (fun ss hlo hhi vals1 xw hG hV => ?_) ?_
  ·obtain rfl | rfl | rfl : ss = 0 ∨ ss = 1 ∨ ss = 2 := st2 hlo hhi
   all_goals
   ·rw [← hfe]
    have hS := (hfr vals1).sub (ts := [1]) (S' := [(1, .int .i64 i)]) rfl
    exact L_val hS rfl (Ob_c tLinkG rfl) ⟨rfl, hG⟩
  refine .cons (fun ss hlo hhi vals1 xw hG hV => ?_) ?_
  ·obtain rfl | rfl | rfl : ss = 0 ∨ ss = 1 ∨ ss = 2 := st2 hlo hhi
   all_goals
   ·rw [← hfe]
    have hS := (hfr vals1).sub (ts := [17]) (S' := [(17, vals1 13)]) rfl
    replace hS := hS.conv (t := 17) rfl (show (vals1 13) = .int .i64 i from hV 13 (by decide))
    exact L_val hS rfl (Ob_add rfl rfl rfl (wrI hg3)) ⟨rfl, hG⟩
  refine .cons (fun ss hlo hhi vals1 xw hG hV => ?_) ?_
  ·obtain rfl | rfl | rfl : ss = 0 ∨ ss = 1 ∨ ss = 2 := st2 hlo hhi
   ·rw [← hfe]
    have hS := (hfr vals1).sub (ts := [16, 18]) (S' := [(16, vals1 12), (18, vals1 14)]) rfl
    replace hS := hS.conv (t := 16) rfl (show (vals1 12) = v3 from hV 12 (by decide))
    replace hS := hS.conv (t := 18) rfl (show (vals1 14) = .int .i64 (i + 1) from hV 14 (by decide))
    obtain ⟨I2, hI2, H⟩ := Gx.ex hG
    exact L_val hS rfl (Ob_sub_from tLinkG rfl rfl rfl rfl (H.owshape 3 rfl) hg4) ⟨rfl, hG⟩
   ·rw [← hfe]
    have hS := (hfr vals1).sub (ts := [16, 18]) (S' := [(16, vals1 12), (18, vals1 14)]) rfl
    replace hS := hS.conv (t := 16) rfl (show (vals1 12) = v3 from hV 12 (by decide))
    replace hS := hS.conv (t := 18) rfl (show (vals1 14) = .int .i64 (i + 1) from hV 14 (by decide))
    obtain ⟨I2, hI2, H⟩ := Gx.ex hG
    exact L_val hS rfl (Ob_sub_from tLinkG rfl rfl rfl rfl (H.owshape 4 rfl) hg4) ⟨rfl, hG⟩
   ·rw [← hfe]
    have hS := (hfr vals1).sub (ts := [16, 18]) (S' := [(16, vals1 12), (18, vals1 14)]) rfl
    replace hS := hS.conv (t := 16) rfl (show (vals1 12) = v3 from hV 12 (by decide))
    replace hS := hS.conv (t := 18) rfl (show (vals1 14) = .int .i64 (i + 1) from hV 14 (by decide))
    obtain ⟨I2, hI2, H⟩ := Gx.ex hG
    exact L_val hS rfl (Ob_sub_from tLinkG rfl rfl rfl rfl (H.owshape 4 rfl) hg4) ⟨rfl, hG⟩
  refine .cons (fun ss hlo hhi vals1 xw hG hV => ?_) ?_
  ·obtain rfl : ss = 2 := Nat.le_antisymm hhi hlo
   rw [← hfe]
   have hS := (hfr vals1).sub (ts := [12, 19]) (S' := [(12, vals1 8), (19, vals1 15)]) rfl
   replace hS := hS.conv (t := 19) rfl (show (vals1 15) = subV v3 ((i + 1).toNat) p.way.length 8 from hV 15 (by decide))
   obtain ⟨I2, hI2, H⟩ := Gx.ex hG
   exact L_appO H 0 E_37_YLinkG (p.way.drop ((i + 1).toNat)) rfl rfl hS rfl rfl rfl rfl ((H.ow2 4 rfl).part_from hg4 8 rfl) hg5 (by decide) fun v yw hK H => ⟨trivial, Gx.go hG hI2 hK (fun _ h => h) H⟩
  refine .cons (fun ss hlo hhi vals1 xw hG hV => ?_) ?_
  ·obtain rfl : ss = 3 := Nat.le_antisymm hhi hlo
   rw [← hfe]
   have hS := (hfr vals1).sub (ts := [4]) (S' := [(4, vals1 0)]) rfl
   replace hS := hS.conv (t := 4) rfl (show (vals1 0) = .pointer (some ⟨b_p, 0, none⟩) from hV 0 (by decide))
   exact L_val hS rfl (Ob_c tLinkG rfl) ⟨rfl, hG⟩
  refine .cons (fun ss hlo hhi vals1 xw hG hV => ?_) ?_
  ·obtain rfl : ss = 3 := Nat.le_antisymm hhi hlo
   rw [← hfe]
   have hS := (hfr vals1).sub (ts := [21]) (S' := [(21, vals1 17)]) rfl
   replace hS := hS.conv (t := 21) rfl (show (vals1 17) = .pointer (some ⟨b_p, 0, none⟩) from hV 17 (by decide))
   exact L_val hS rfl (Ob_c tLinkG rfl) ⟨rfl, hG⟩
  refine .cons (fun ss hlo hhi vals1 xw hG hV => ?_) ?_
  ·obtain rfl : ss = 3 := Nat.le_antisymm hhi hlo
   rw [← hfe]
   have hS := (hfr vals1).sub (ts := [22, 20]) (S' := [(22, vals1 18), (20, vals1 16)]) rfl
   replace hS := hS.conv (t := 22) rfl (show (vals1 18) = .pointer (some ⟨b_p, 4, none⟩) from hV 18 (by decide))
   obtain ⟨I2, hI2, H⟩ := Gx.ex hG
   exact L_store tLinkG H 1 rfl hS rfl rfl rfl rfl rfl (slS.cells (H.owshape 0 rfl)) rfl rfl (one_cons (slS.one (H.owshape 0 rfl)) one_nil) (Nat.le_of_ble_eq_true rfl) rfl fun yw hK H => ⟨trivial, Gx.go hG hI2 hK (fun _ h => h) H⟩
  exact .nil
 ·intro vals1 a w1 Z hG hV
  replace Z := Z.sub (ts := [0, 1]) (S' := [(0, .pointer (some ⟨b_p, 0, none⟩)), (1, .int .i64 i)]) rfl
  obtain ⟨I1, _, H⟩ := Gx.ex hG
  clear hG hV
  replace Z := Z.sub (ts := [0, 1]) rfl
  replace H : Hf I D w I1 w1 [BxC b_p 60 [v1, v2, .int .i64 (p.boot.getD 0 0), .int .i64 (p.boot.getD 1 0), (vals1 16), v4, .int .i64 (p.sent.getD 0 0), .int .i64 (p.sent.getD 1 0), .int .i64 (p.told.getD 0 0), .int .i64 (p.told.getD 1 0), .bool p.ok], OwC NESeg 31 (vals1 16) ((([] : List ESeg) ++ (p.way.take ((i).toNat))) ++ (p.way.drop ((i + 1).toNat))), PtC OElink_Link v1 (p.l.getD 0 none), PtC OElink_Link v2 (p.l.getD 1 none), OwC NESeg 31 v3 p.way, OwC Ni64 3 v4 p.to_] := H
  refine p_then ?_
  obtain ⟨hg6, hF⟩ := chk_in hF
  obtain ⟨hg7, hF⟩ := chk_in hF
  obtain ⟨hg8, hF⟩ := chk_in hF
  obtain ⟨hg9, hF⟩ := chk_in hF
  obtain ⟨hg10, hF⟩ := chk_in hF
  refine f_regionL Z (by kernel_rfl) (by kernel_rfl) (by decide) (by decide) [1, 8, 16, 19] [(0, 0, 3), (0, 0, 0), (0, 0, 1), (4, 0, 1), (12, 0, 1), (28, 0, 1), (0, 0, 1), (124, 0, 1), (254, 1, 1), (0, 0, 2), (512, 0, 2), (1536, 0, 2), (3584, 0, 2), (0, 0, 2), (8192, 0, 2), (32256, 0, 2), (65534, 2, 2), (131071, 3, 3), (262143, 3, 3), (524287, 3, 3)] (by kernel_rfl) (fun jj vv => cond (Nat.blt jj 10) (cond (Nat.blt jj 5) (cond (Nat.blt jj 2) (cond (Nat.blt jj 1) (vv = .pointer (some ⟨b_p, 0, none⟩)) (vv = .slice (some ⟨blkOf vv, 0, none⟩) 0 0)) (cond (Nat.blt jj 3) (vv = .pointer (some ⟨b_p, 0, none⟩)) (cond (Nat.blt jj 4) (vv = .pointer (some ⟨b_p, 0, none⟩)) (vv = .pointer (some ⟨b_p, 5, none⟩))))) (cond (Nat.blt jj 7) (cond (Nat.blt jj 6) (vv = v4) (vv = .int .i64 i)) (cond (Nat.blt jj 8) (vv = subV v4 0 ((i).toNat) 1) (cond (Nat.blt jj 9) (True) (vv = .pointer (some ⟨b_p, 0, none⟩)))))) (cond (Nat.blt jj 15) (cond (Nat.blt jj 12) (cond (Nat.blt jj 11) (vv = .pointer (some ⟨b_p, 0, none⟩)) (vv = .pointer (some ⟨b_p, 5, none⟩))) (cond (Nat.blt jj 13) (vv = v4) (cond (Nat.blt jj 14) (vv = .int .i64 i) (vv = .int .i64 (i + 1))))) (cond (Nat.blt jj 17) (cond (Nat.blt jj 16) (vv = subV v4 ((i + 1).toNat) p.to_.length 1) (True)) (cond (Nat.blt jj 18) (vv = .pointer (some ⟨b_p, 0, none⟩)) (cond (Nat.blt jj 19) (vv = .pointer (some ⟨b_p, 5, none⟩)) (True)))))) (fun ss vals2 xw => match ss with | 0 => Gx I D w I1 w1 xw [BxC b_p 60 [v1, v2, .int .i64 (p.boot.getD 0 0), .int .i64 (p.boot.getD 1 0), (vals1 16), v4, .int .i64 (p.sent.getD 0 0), .int .i64 (p.sent.getD 1 0), .int .i64 (p.told.getD 0 0), .int .i64 (p.told.getD 1 0), .bool p.ok], OwC NESeg 31 (vals1 16) ((([] : List ESeg) ++ (p.way.take ((i).toNat))) ++ (p.way.drop ((i + 1).toNat))), PtC OElink_Link v1 (p.l.getD 0 none), PtC OElink_Link v2 (p.l.getD 1 none), OwC NESeg 31 v3 p.way, OwC Ni64 3 v4 p.to_] | 1 => Gx I D w I1 w1 xw [BxC (blkOf (vals2 1)) 3 [], BxC b_p 60 [v1, v2, .int .i64 (p.boot.getD 0 0), .int .i64 (p.boot.getD 1 0), (vals1 16), v4, .int .i64 (p.sent.getD 0 0), .int .i64 (p.sent.getD 1 0), .int .i64 (p.told.getD 0 0), .int .i64 (p.told.getD 1 0), .bool p.ok], OwC NESeg 31 (vals1 16) ((([] : List ESeg) ++ (p.way.take ((i).toNat))) ++ (p.way.drop ((i + 1).toNat))), PtC OElink_Link v1 (p.l.getD 0 none), PtC OElink_Link v2 (p.l.getD 1 none), OwC NESeg 31 v3 p.way, OwC Ni64 3 v4 p.to_] | 2 => Gx I D w I1 w1 xw [OwC Ni64 3 (vals2 8) (([] : List Int) ++ (p.to_.take ((i).toNat))), BxC b_p 60 [v1, v2, .int .i64 (p.boot.getD 0 0), .int .i64 (p.boot.getD 1 0), (vals1 16), v4, .int .i64 (p.sent.getD 0 0), .int .i64 (p.sent.getD 1 0), .int .i64 (p.told.getD 0 0), .int .i64 (p.told.getD 1 0), .bool p.ok], OwC NESeg 31 (vals1 16) ((([] : List ESeg) ++ (p.way.take ((i).toNat))) ++ (p.way.drop ((i + 1).toNat))), PtC OElink_Link v1 (p.l.getD 0 none), PtC OElink_Link v2 (p.l.getD 1 none), OwC NESeg 31 v3 p.way, OwC Ni64 3 v4 p.to_] | 3 => Gx I D w I1 w1 xw [OwC Ni64 3 (vals2 16) ((([] : List Int) ++ (p.to_.take ((i).toNat))) ++ (p.to_.drop ((i + 1).toNat))), BxC b_p 60 [v1, v2, .int .i64 (p.boot.getD 0 0), .int .i64 (p.boot.getD 1 0), (vals1 16), v4, .int .i64 (p.sent.getD 0 0), .int .i64 (p.sent.getD 1 0), .int .i64 (p.told.getD 0 0), .int .i64 (p.told.getD 1 0), .bool p.ok], OwC NESeg 31 (vals1 16) ((([] : List ESeg) ++ (p.way.take ((i).toNat))) ++ (p.way.drop ((i + 1).toNat))), PtC OElink_Link v1 (p.l.getD 0 none), PtC OElink_Link v2 (p.l.getD 1 none), OwC NESeg 31 v3 p.way, OwC Ni64 3 v4 p.to_] | _ => Gx I D w I1 w1 xw [BxC b_p 60 [v1, v2, .int .i64 (p.boot.getD 0 0), .int .i64 (p.boot.getD 1 0), (vals1 16), (vals2 16), .int .i64 (p.sent.getD 0 0), .int .i64 (p.sent.getD 1 0), .int .i64 (p.told.getD 0 0), .int .i64 (p.told.getD 1 0), .bool p.ok], OwC Ni64 3 (vals2 16) ((([] : List Int) ++ (p.to_.take ((i).toNat))) ++ (p.to_.drop ((i + 1).toNat))), OwC NESeg 31 (vals1 16) ((([] : List ESeg) ++ (p.way.take ((i).toNat))) ++ (p.way.drop ((i + 1).toNat))), PtC OElink_Link v1 (p.l.getD 0 none), PtC OElink_Link v2 (p.l.getD 1 none), OwC NESeg 31 v3 p.way, OwC Ni64 3 v4 p.to_]) (fun _ => Gx.start H) ?_ ?_
  ·intro fr hfr hfe
   refine .cons (fun ss hlo hhi vals2 xw hG hV => ?_) ?_
   ·obtain rfl | rfl | rfl | rfl : ss = 0 ∨ ss = 1 ∨ ss = 2 ∨ ss = 3 := st3 hlo hhi
    all_goals
    ·rw [← hfe]
     have hS := (hfr vals2).sub (ts := [0]) (S' := [(0, .pointer (some ⟨b_p, 0, none⟩))]) rfl
     exact L_val hS rfl (Ob_c tLinkG rfl) ⟨rfl, hG⟩
   refine .cons (fun ss hlo hhi vals2 xw hG hV => ?_) ?_
   ·obtain rfl : ss = 0 := Nat.le_antisymm hhi hlo
    rw [← hfe]
    have hS := (hfr vals2).sub (ts := []) (S' := []) rfl
    obtain ⟨I2, hI2, H⟩ := Gx.ex hG
    exact L_bslice H (vs := []) (cl := []) (e := 3) hS rfl rfl rfl (fun w => run_bslice (z := .int .i64 0) (m := 1) Try.underlying58 (by kernel_rfl) rfl rfl (by decide) (by simp [Instr.fill, Value.cells]) w) fun yw b hK H => ⟨rfl, Gx.go hG hI2 hK (fun _ h => h) H⟩
   refine .cons (fun ss hlo hhi vals2 xw hG hV => ?_) ?_
   ·obtain rfl | rfl : ss = 0 ∨ ss = 1 := st1 hlo hhi
    all_goals
    ·rw [← hfe]
     have hS := (hfr vals2).sub (ts := [0]) (S' := [(0, .pointer (some ⟨b_p, 0, none⟩))]) rfl
     exact L_val hS rfl (Ob_c tLinkG rfl) ⟨rfl, hG⟩
   refine .cons (fun ss hlo hhi vals2 xw hG hV => ?_) ?_
   ·obtain rfl | rfl : ss = 0 ∨ ss = 1 := st1 hlo hhi
    all_goals
    ·rw [← hfe]
     have hS := (hfr vals2).sub (ts := [25]) (S' := [(25, vals2 2)]) rfl
     replace hS := hS.conv (t := 25) rfl (show (vals2 2) = .pointer (some ⟨b_p, 0, none⟩) from hV 2 (by decide))
     exact L_val hS rfl (Ob_c tLinkG rfl) ⟨rfl, hG⟩
   refine .cons (fun ss hlo hhi vals2 xw hG hV => ?_) ?_
   ·obtain rfl | rfl : ss = 0 ∨ ss = 1 := st1 hlo hhi
    all_goals
    ·rw [← hfe]
     have hS := (hfr vals2).sub (ts := [26]) (S' := [(26, vals2 3)]) rfl
     replace hS := hS.conv (t := 26) rfl (show (vals2 3) = .pointer (some ⟨b_p, 0, none⟩) from hV 3 (by decide))
     exact L_val hS rfl (Ob_c tLinkG rfl) ⟨rfl, hG⟩
   refine .cons (fun ss hlo hhi vals2 xw hG hV => ?_) ?_
   ·obtain rfl | rfl : ss = 0 ∨ ss = 1 := st1 hlo hhi
    ·rw [← hfe]
     have hS := (hfr vals2).sub (ts := [27]) (S' := [(27, vals2 4)]) rfl
     replace hS := hS.conv (t := 27) rfl (show (vals2 4) = .pointer (some ⟨b_p, 5, none⟩) from hV 4 (by decide))
     obtain ⟨I2, hI2, H⟩ := Gx.ex hG
     exact L_val hS rfl (Ob_load tLinkG rfl rfl rfl ((H.bx 0 rfl).cell 5 rfl)) ⟨rfl, hG⟩
    ·rw [← hfe]
     have hS := (hfr vals2).sub (ts := [27]) (S' := [(27, vals2 4)]) rfl
     replace hS := hS.conv (t := 27) rfl (show (vals2 4) = .pointer (some ⟨b_p, 5, none⟩) from hV 4 (by decide))
     obtain ⟨I2, hI2, H⟩ := Gx.ex hG
     exact L_val hS rfl (Ob_load tLinkG rfl rfl rfl ((H.bx 1 rfl).cell 5 rfl)) ⟨rfl, hG⟩
   refine .cons (fun ss hlo hhi vals2 xw hG hV => ?_) ?_
   ·obtain rfl | rfl : ss = 0 ∨ ss = 1 := st1 hlo hhi
    all_goals
    ·rw [← hfe]
     have hS := (hfr vals2).sub (ts := [1]) (S' := [(1, .int .i64 i)]) rfl
     exact L_val hS rfl (Ob_c tLinkG rfl) ⟨rfl, hG⟩
   refine .cons (fun ss hlo hhi vals2 xw hG hV => ?_) ?_
   ·obtain rfl | rfl : ss = 0 ∨ ss = 1 := st1 hlo hhi
    ·rw [← hfe]
     have hS := (hfr vals2).sub (ts := [28, 29]) (S' := [(28, vals2 5), (29, vals2 6)]) rfl
     replace hS := hS.conv (t := 28) rfl (show (vals2 5) = v4 from hV 5 (by decide))
     replace hS := hS.conv (t := 29) rfl (show (vals2 6) = .int .i64 i from hV 6 (by decide))
     obtain ⟨I2, hI2, H⟩ := Gx.ex hG
     exact L_val hS rfl (Ob_sub_to tLinkG rfl rfl rfl rfl (H.owshape 5 rfl) hg6) ⟨rfl, hG⟩
    ·rw [← hfe]
     have hS := (hfr vals2).sub (ts := [28, 29]) (S' := [(28, vals2 5), (29, vals2 6)]) rfl
     replace hS := hS.conv (t := 28) rfl (show (vals2 5) = v4 from hV 5 (by decide))
     replace hS := hS.conv (t := 29) rfl (show (vals2 6) = .int .i64 i from hV 6 (by decide))
     obtain ⟨I2, hI2, H⟩ := Gx.ex hG
     exact L_val hS rfl (Ob_sub_to tLinkG rfl rfl rfl rfl (H.owshape 6 rfl) hg6) ⟨rfl, hG⟩
   refine .cons (fun ss hlo hhi vals2 xw hG hV => ?_) ?_
   ·obtain rfl : ss = 1 := Nat.le_antisymm hhi hlo
    rw [← hfe]
    have hS := (hfr vals2).sub (ts := [24, 30]) (S' := [(24, vals2 1), (30, vals2 7)]) rfl
    replace hS := hS.conv (t := 24) rfl (show (vals2 1) = .slice (some ⟨blkOf (vals2 1), 0, none⟩) 0 0 from hV 1 (by decide))
    replace hS := hS.conv (t := 30) rfl (show (vals2 7) = subV v4 0 ((i).toNat) 1 from hV 7 (by decide))
    obtain ⟨I2, hI2, H⟩ := Gx.ex hG
    replace H := H.emptyow 0 rfl Ni64
    exact L_appO H 0 E_58_YLinkG (p.to_.take ((i).toNat)) rfl rfl hS rfl rfl rfl rfl ((H.ow2 6 rfl).part_to hg6 1 rfl) hg7 (by decide) fun v yw hK H => ⟨trivial, Gx.go hG hI2 hK (fun _ h => h) H⟩
   refine .cons (fun ss hlo hhi vals2 xw hG hV => ?_) ?_
   ·obtain rfl | rfl | rfl : ss = 0 ∨ ss = 1 ∨ ss = 2 := st2 hlo hhi
    all_goals
    ·rw [← hfe]
     have hS := (hfr vals2).sub (ts := [0]) (S' := [(0, .pointer (some ⟨b_p, 0, none⟩))]) rfl
     exact L_val hS rfl (Ob_c tLinkG rfl) ⟨rfl, hG⟩
   refine .cons (fun ss hlo hhi vals2 xw hG hV => ?_) ?_
   ·obtain rfl | rfl | rfl : ss = 0 ∨ ss = 1 ∨ ss = 2 := st2 hlo hhi
    all_goals
    ·rw [← hfe]
     have hS := (hfr vals2).sub (ts := [32]) (S' := [(32, vals2 9)]) rfl
     replace hS := hS.conv (t := 32) rfl (show (vals2 9) = .pointer (some ⟨b_p, 0, none⟩) from hV 9 (by decide))
     exact L_val hS rfl (Ob_c tLinkG rfl) ⟨rfl, hG⟩
   refine .cons (fun ss hlo hhi vals2 xw hG hV => ?_) ?_
   ·obtain rfl | rfl | rfl : ss = 0 ∨ ss = 1 ∨ ss = 2 := st2 hlo hhi
    all_goals
    ·rw [← hfe]
     have hS := (hfr vals2).sub (ts := [33]) (S' := [(33, vals2 10)]) rfl
     replace hS := hS.conv (t := 33) rfl (show (vals2 10) = .pointer (some ⟨b_p, 0, none⟩) from hV 10 (by decide))
     exact L_val hS rfl (Ob_c tLinkG rfl) ⟨rfl, hG⟩
   refine .cons (fun ss hlo hhi vals2 xw hG hV => ?_) ?_
   ·obtain rfl | rfl | rfl : ss = 0 ∨ ss = 1 ∨ ss = 2 := st2 hlo hhi
    ·rw [← hfe]
     have hS := (hfr vals2).sub (ts := [34]) (S' := [(34, vals2 11)]) rfl
     replace hS := hS.conv (t := 34) rfl (show (vals2 11) = .pointer (some ⟨b_p, 5, none⟩) from hV 11 (by decide))
     obtain ⟨I2, hI2, H⟩ := Gx.ex hG
     exact L_val hS rfl (Ob_load tLinkG rfl rfl rfl ((H.bx 0 rfl).cell 5 rfl)) ⟨rfl, hG⟩
    ·rw [← hfe]
     have hS := (hfr vals2).sub (ts := [34]) (S' := [(34, vals2 11)]) rfl
     replace hS := hS.conv (t := 34) rfl (show (vals2 11) = .pointer (some ⟨b_p, 5, none⟩) from hV 11 (by decide))
     obtain ⟨I2, hI2, H⟩ := Gx.ex hG
     exact L_val hS rfl (Ob_load tLinkG rfl rfl rfl ((H.bx 1 rfl).cell 5 rfl)) ⟨rfl, hG⟩
    ·rw [← hfe]
     have hS := (hfr vals2).sub (ts := [34]) (S' := [(34, vals2 11)]) rfl
     replace hS := hS.conv (t := 34) rfl (show (vals2 11) = .pointer (some ⟨b_p, 5, none⟩) from hV 11 (by decide))
     obtain ⟨I2, hI2, H⟩ := Gx.ex hG
     exact L_val hS rfl (Ob_load tLinkG rfl rfl rfl ((H.bx 1 rfl).cell 5 rfl)) ⟨rfl, hG⟩
   refine .cons (fun ss hlo hhi vals2 xw hG hV => ?_) ?_
   ·obtain rfl | rfl | rfl : ss = 0 ∨ ss = 1 ∨ ss = 2 := st2 hlo hhi
    all_goals
    ·rw [← hfe]
     have hS := (hfr vals2).sub (ts := [1]) (S' := [(1, .int .i64 i)]) rfl
     exact L_val hS rfl (Ob_c tLinkG rfl) ⟨rfl, hG⟩
   refine .cons (fun ss hlo hhi vals2 xw hG hV => ?_) ?_
   ·obtain rfl | rfl | rfl : ss = 0 ∨ ss = 1 ∨ ss = 2 := st2 hlo hhi
    all_goals
    ·rw [← hfe]
     have hS := (hfr vals2).sub (ts := [36]) (S' := [(36, vals2 13)]) rfl
     replace hS := hS.conv (t := 36) rfl (show (vals2 13) = .int .i64 i from hV 13 (by decide))
     exact L_val hS rfl (Ob_add rfl rfl rfl (wrI hg8)) ⟨rfl, hG⟩
   refine .cons (fun ss hlo hhi vals2 xw hG hV => ?_) ?_
   ·obtain rfl | rfl | rfl : ss = 0 ∨ ss = 1 ∨ ss = 2 := st2 hlo hhi
    ·rw [← hfe]
     have hS := (hfr vals2).sub (ts := [35, 37]) (S' := [(35, vals2 12), (37, vals2 14)]) rfl
     replace hS := hS.conv (t := 35) rfl (show (vals2 12) = v4 from hV 12 (by decide))
     replace hS := hS.conv (t := 37) rfl (show (vals2 14) = .int .i64 (i + 1) from hV 14 (by decide))
     obtain ⟨I2, hI2, H⟩ := Gx.ex hG
     exact L_val hS rfl (Ob_sub_from tLinkG rfl rfl rfl rfl (H.owshape 5 rfl) hg9) ⟨rfl, hG⟩
    ·rw [← hfe]
     have hS := (hfr vals2).sub (ts := [35, 37]) (S' := [(35, vals2 12), (37, vals2 14)]) rfl
     replace hS := hS.conv (t := 35) rfl (show (vals2 12) = v4 from hV 12 (by decide))
     replace hS := hS.conv (t := 37) rfl (show (vals2 14) = .int .i64 (i + 1) from hV 14 (by decide))
     obtain ⟨I2, hI2, H⟩ := Gx.ex hG
     exact L_val hS rfl (Ob_sub_from tLinkG rfl rfl rfl rfl (H.owshape 6 rfl) hg9) ⟨rfl, hG⟩
    ·rw [← hfe]
     have hS := (hfr vals2).sub (ts := [35, 37]) (S' := [(35, vals2 12), (37, vals2 14)]) rfl
     replace hS := hS.conv (t := 35) rfl (show (vals2 12) = v4 from hV 12 (by decide))
     replace hS := hS.conv (t := 37) rfl (show (vals2 14) = .int .i64 (i + 1) from hV 14 (by decide))
     obtain ⟨I2, hI2, H⟩ := Gx.ex hG
     exact L_val hS rfl (Ob_sub_from tLinkG rfl rfl rfl rfl (H.owshape 6 rfl) hg9) ⟨rfl, hG⟩
   refine .cons (fun ss hlo hhi vals2 xw hG hV => ?_) ?_
   ·obtain rfl : ss = 2 := Nat.le_antisymm hhi hlo
    rw [← hfe]
    have hS := (hfr vals2).sub (ts := [31, 38]) (S' := [(31, vals2 8), (38, vals2 15)]) rfl
    replace hS := hS.conv (t := 38) rfl (show (vals2 15) = subV v4 ((i + 1).toNat) p.to_.length 1 from hV 15 (by decide))
    obtain ⟨I2, hI2, H⟩ := Gx.ex hG
    exact L_appO H 0 E_58_YLinkG (p.to_.drop ((i + 1).toNat)) rfl rfl hS rfl rfl rfl rfl ((H.ow2 6 rfl).part_from hg9 1 rfl) hg10 (by decide) fun v yw hK H => ⟨trivial, Gx.go hG hI2 hK (fun _ h => h) H⟩
   refine .cons (fun ss hlo hhi vals2 xw hG hV => ?_) ?_
   ·obtain rfl : ss = 3 := Nat.le_antisymm hhi hlo
    rw [← hfe]
    have hS := (hfr vals2).sub (ts := [23]) (S' := [(23, vals2 0)]) rfl
    replace hS := hS.conv (t := 23) rfl (show (vals2 0) = .pointer (some ⟨b_p, 0, none⟩) from hV 0 (by decide))
    exact L_val hS rfl (Ob_c tLinkG rfl) ⟨rfl, hG⟩
   refine .cons (fun ss hlo hhi vals2 xw hG hV => ?_) ?_
   ·obtain rfl : ss = 3 := Nat.le_antisymm hhi hlo
    rw [← hfe]
    have hS := (hfr vals2).sub (ts := [40]) (S' := [(40, vals2 17)]) rfl
    replace hS := hS.conv (t := 40) rfl (show (vals2 17) = .pointer (some ⟨b_p, 0, none⟩) from hV 17 (by decide))
    exact L_val hS rfl (Ob_c tLinkG rfl) ⟨rfl, hG⟩
   refine .cons (fun ss hlo hhi vals2 xw hG hV => ?_) ?_
   ·obtain rfl : ss = 3 := Nat.le_antisymm hhi hlo
    rw [← hfe]
    have hS := (hfr vals2).sub (ts := [41, 39]) (S' := [(41, vals2 18), (39, vals2 16)]) rfl
    replace hS := hS.conv (t := 41) rfl (show (vals2 18) = .pointer (some ⟨b_p, 5, none⟩) from hV 18 (by decide))
    obtain ⟨I2, hI2, H⟩ := Gx.ex hG
    exact L_store tLinkG H 1 rfl hS rfl rfl rfl rfl rfl (slS.cells (H.owshape 0 rfl)) rfl rfl (one_cons (slS.one (H.owshape 0 rfl)) one_nil) (Nat.le_of_ble_eq_true rfl) rfl fun yw hK H => ⟨trivial, Gx.go hG hI2 hK (fun _ h => h) H⟩
   exact .nil
  ·intro vals2 a w2 Z hG hV
   replace Z := Z.sub (ts := []) (S' := []) rfl
   obtain ⟨I2, _, H⟩ := Gx.ex hG
   clear hG hV
   replace Z := Z.sub (ts := []) rfl
   replace H : Hf I D w I2 w2 [BxC b_p 60 [v1, v2, .int .i64 (p.boot.getD 0 0), .int .i64 (p.boot.getD 1 0), (vals1 16), (vals2 16), .int .i64 (p.sent.getD 0 0), .int .i64 (p.sent.getD 1 0), .int .i64 (p.told.getD 0 0), .int .i64 (p.told.getD 1 0), .bool p.ok], OwC Ni64 3 (vals2 16) ((([] : List Int) ++ (p.to_.take ((i).toNat))) ++ (p.to_.drop ((i + 1).toNat))), OwC NESeg 31 (vals1 16) ((([] : List ESeg) ++ (p.way.take ((i).toNat))) ++ (p.way.drop ((i + 1).toNat))), PtC OElink_Link v1 (p.l.getD 0 none), PtC OElink_Link v2 (p.l.getD 1 none), OwC NESeg 31 v3 p.way, OwC Ni64 3 v4 p.to_] := H
   replace H : Hf I D w I2 w2 [OElaw22_pair b_p ({ p with way := (([] : List ESeg) ++ (p.way.take ((i).toNat))) ++ (p.way.drop ((i + 1).toNat)), to_ := (([] : List Int) ++ (p.to_.take ((i).toNat))) ++ (p.to_.drop ((i + 1).toNat)) } : Elaw22_pair), OwC NESeg 31 v3 p.way, OwC Ni64 3 v4 p.to_] := H.shutX (v1, v2, (vals1 16), (vals2 16)) [(0, false), (2, false), (2, false), (1, false), (0, false)] rfl
   obtain rfl := some_in hF
   exact f_fall Z (run_results0 rfl) ⟨rfl, I2, (H.sub [(0, false)] rfl).eq rfl⟩

end Go.Proofs.Ythomnhhjgcabkaa
