/- A hub: the program's. -/
import Derived.Test.YtghkhndlpfmpfaaYHb0
import Derived.Test.YtghkhndlpfmpfaaYS
import Derived.Test.YtghkhndlpfmpfaaYAI
namespace Go.Proofs.Ytghkhndlpfmpfaa
open Go.RowKit
structure Ehub_Hub where
 l : List (Option Elink_Link)
 made : Bool

instance : Inhabited Ehub_Hub := ⟨⟨[none, none, none, none], false⟩⟩

def cEhub_Hub (x : Ehub_Hub) (v0 : Value) (v1 : Value) (v2 : Value) (v3 : Value) : List Value := [v0, v1, v2, v3, .bool x.made]

def OEhub_Hub (b : Nat) (x : Ehub_Hub) : Ch := ExC fun (p : Value × Value × Value × Value) => [BxC b 48 (cEhub_Hub x p.1 p.2.1 p.2.2.1 p.2.2.2), PtC OElink_Link p.1 (x.l.getD 0 none), PtC OElink_Link p.2.1 (x.l.getD 1 none), PtC OElink_Link p.2.2.1 (x.l.getD 2 none), PtC OElink_Link p.2.2.2 (x.l.getD 3 none)]

def tHb1L : TabL := ⟨[(49152, 0), (49153, 4), (59392, 0)], [9], [], [], [(3, (1, false)), (4, (1, false)), (9, (1, false)), (25, (1, false)), (28, (1, false)), (45, (1, false)), (48, (5, true)), (58, (8, true))]⟩

def tHb1 : Tab Try.prog := ⟨tHb1L, by kernel_rfl⟩

theorem fn_11_YHb1 : IsFn Try.prog 11 := ⟨_, Try.func11, by kernel_rfl, by kernel_rfl⟩

theorem fn_12_YHb1 : IsFn Try.prog 12 := ⟨_, Try.func12, by kernel_rfl, by kernel_rfl⟩

theorem fn_13_YHb1 : IsFn Try.prog 13 := ⟨_, Try.func13, by kernel_rfl, by kernel_rfl⟩

theorem fn_14_YHb1 : IsFn Try.prog 14 := ⟨_, Try.func14, by kernel_rfl, by kernel_rfl⟩

theorem fn_15_YHb1 : IsFn Try.prog 15 := ⟨_, Try.func15, by kernel_rfl, by kernel_rfl⟩

theorem fn_16_YHb1 : IsFn Try.prog 16 := ⟨_, Try.func16, by kernel_rfl, by kernel_rfl⟩

theorem fn_19_YHb1 : IsFn Try.prog 19 := ⟨_, Try.func19, by kernel_rfl, by kernel_rfl⟩

theorem fn_20_YHb1 : IsFn Try.prog 20 := ⟨_, Try.func20, by kernel_rfl, by kernel_rfl⟩

theorem fn_21_YHb1 : IsFn Try.prog 21 := ⟨_, Try.func21, by kernel_rfl, by kernel_rfl⟩

theorem fn_22_YHb1 : IsFn Try.prog 22 := ⟨_, Try.func22, by kernel_rfl, by kernel_rfl⟩

theorem fn_23_YHb1 : IsFn Try.prog 23 := ⟨_, Try.func23, by kernel_rfl, by kernel_rfl⟩

theorem fn_24_YHb1 : IsFn Try.prog 24 := ⟨_, Try.func24, by kernel_rfl, by kernel_rfl⟩

theorem fn_38_YHb1 : IsFn Try.prog 38 := ⟨_, Try.func38, by kernel_rfl, by kernel_rfl⟩

def F_hub_New_k2 (x : Int) (rc : (Int × Ehub_Hub) → Option ((Option Ehub_Hub) × Int)) (h_2 : Ehub_Hub) : Option ((Option Ehub_Hub) × Int) := chk (inI (x + 1)) (rc (x + 1, h_2))

def F_hub_New_l1 (self : Int) (boot : Int) (rc : (Int × Ehub_Hub) → Option ((Option Ehub_Hub) × Int)) (sg : Int × Ehub_Hub) : Option ((Option Ehub_Hub) × Int) := match sg with | (x, h) => if (decide (x < 4)) = true then (if (x == self) = true then (F_hub_New_k2 x rc h) else ((F_link_New boot).bind fun n0 => (optE n0.1 (if (n0.2 != 0) = true then (some (none, n0.2)) else (if (x == 0) = true then (F_hub_New_k2 x rc ({ h with l := [none, (h.l.getD 1 none), (h.l.getD 2 none), (h.l.getD 3 none)] } : Ehub_Hub)) else if (x == 1) = true then (F_hub_New_k2 x rc ({ h with l := [(h.l.getD 0 none), none, (h.l.getD 2 none), (h.l.getD 3 none)] } : Ehub_Hub)) else if (x == 2) = true then (F_hub_New_k2 x rc ({ h with l := [(h.l.getD 0 none), (h.l.getD 1 none), none, (h.l.getD 3 none)] } : Ehub_Hub)) else if (x == 3) = true then (F_hub_New_k2 x rc ({ h with l := [(h.l.getD 0 none), (h.l.getD 1 none), (h.l.getD 2 none), none] } : Ehub_Hub)) else none)) (fun x_2 => if (n0.2 != 0) = true then (some (none, n0.2)) else (if (x == 0) = true then (F_hub_New_k2 x rc ({ h with l := [some x_2, (h.l.getD 1 none), (h.l.getD 2 none), (h.l.getD 3 none)] } : Ehub_Hub)) else if (x == 1) = true then (F_hub_New_k2 x rc ({ h with l := [(h.l.getD 0 none), some x_2, (h.l.getD 2 none), (h.l.getD 3 none)] } : Ehub_Hub)) else if (x == 2) = true then (F_hub_New_k2 x rc ({ h with l := [(h.l.getD 0 none), (h.l.getD 1 none), some x_2, (h.l.getD 3 none)] } : Ehub_Hub)) else if (x == 3) = true then (F_hub_New_k2 x rc ({ h with l := [(h.l.getD 0 none), (h.l.getD 1 none), (h.l.getD 2 none), some x_2] } : Ehub_Hub)) else none))))) else (some (some h, 0))

def F_hub_New (self : Int) (boot : Int) : Option ((Option Ehub_Hub) × Int) := if ((decide (self < 0)) || (decide (self ≥ 4))) = true then (some (none, 1)) else (iter (F_hub_New_l1 self boot) FU (0, ({ l := [none, none, none, none], made := true } : Ehub_Hub)))

set_option maxHeartbeats 1000000 in
theorem c_hub_New {I D : Dm} {self : Int} {boot : Int} {w : World} {rr : (Option Ehub_Hub) × Int} (hF : F_hub_New self boot = some rr) (H : St I D w []) :
  Calls Try.prog 4 #[.int .i64 self, .int .i64 boot] w (Ret fun vv w' => ∃ q1 : Value, vv = .tuple #[q1, .int .i64 rr.2] ∧ ∃ I', Hf I D w I' w' [PtC OEhub_Hub q1 rr.1]) := by
 replace H := H.hf
 unfold F_hub_New at hF
 refine f_enter 40 Try.func4 rfl rfl (Nat.le_of_ble_eq_true rfl) fun a Z => ?_
 replace Z := Z.sub (ts := [0, 1]) rfl
 refine wp_seq (f_region Z ?_); clear Z; intro Z
 refine s_runk tHb1 Z 2 rfl rfl ?_; clear Z a; intro a Z
 refine s_end Z [0, 1] rfl ?_; clear Z; intro Z
 refine p_then (wp_seq ?_)
 refine wp_seq (f_region Z ?_); clear Z; intro Z
 refine s_runk tHb1 Z 3 rfl rfl ?_; clear Z a; intro a Z
 refine g_ob Z (p := (!(decide (self < 0)))) (v := .int .i64 self) (S' := [(0, .int .i64 self)]) rfl rfl rfl (wantB_f _) rfl (by decide) (fun hp hS => hS.sub (ts := [0]) rfl) (fun hp => Ob_c tHb1 rfl) ?_; clear Z a; intro a Z
 refine g_ob Z (p := (!(decide (self < 0)))) (v := .bool (decide (self ≥ 4))) (S' := [(13, .int .i64 self)]) rfl rfl rfl (wantB_f _) rfl (by decide) (fun hp hS => (hS.conv (t := 13) rfl (cond_t hp)).sub (ts := [13]) rfl) (fun hp => Ob_c tHb1 rfl) ?_; clear Z a; intro a Z
 refine s_ob Z (v := .bool ((decide (self < 0)) || (decide (self ≥ 4)))) rfl rfl (by decide) rfl (Ob_pick rfl rfl rfl rfl (pick_or _ _)) ?_; clear Z a; intro a Z
 refine s_end Z [0, 1, 15] rfl ?_; clear Z; intro Z
 refine p_then ?_
 refine f_cond Z rfl (fun hc1 => ?_) (fun hc1 => ?_)
 ·replace hF := ite_t hc1 hF
  refine wp_seq (f_region Z ?_); clear Z; intro Z
  refine s_runk tHb1 Z 2 rfl rfl ?_; clear Z a; intro a Z
  refine s_end Z [4, 5] rfl ?_; clear Z; intro Z
  refine p_then (wp_ret ?_)
  refine p_then_r ?_
  replace H : Hf I D w I w [PtC OEhub_Hub (.pointer none) none] := H.mkN OEhub_Hub
  obtain rfl := some_in hF
  exact f_ret Z (run_results2 rfl Z rfl rfl) ⟨.pointer none, rfl, I, (H.sub [(0, false)] rfl).eq rfl⟩
 ·replace hF := ite_f hc1 hF
  refine wp_skip ?_
  refine p_then (wp_seq (f_region Z ?_)); clear Z; intro Z
  refine s_ob Z (v := .agg #[.pointer none, .pointer none, .pointer none, .pointer none, .bool true]) rfl rfl (by decide) rfl (Ob_build (vs := [(1, .bool true)]) rfl rfl (by go_simp <;> rfl)) ?_; clear Z a; intro a Z
  refine h_boxv Z H (cl := [.pointer none, .pointer none, .pointer none, .pointer none, .bool true]) rfl rfl rfl (by decide) rfl rfl rfl ?_; clear Z a H; intro a w1 b1 H Z
  refine s_runk tHb1 Z 1 rfl rfl ?_; clear Z a; intro a Z
  refine s_end Z [0, 1, 6] rfl ?_; clear Z; intro Z
  refine p_then (wp_seq ?_)
  refine wp_seq (f_region Z ?_); clear Z; intro Z
  refine s_runk tHb1 Z 1 rfl rfl ?_; clear Z a; intro a Z
  refine s_end Z [0, 1, 6, 18] rfl ?_; clear Z; intro Z
  refine p_then (wp_block ?_)
  replace H : Hf I D w I w1 [PtC OElink_Link (.pointer none) none, BxC b1 48 [.pointer none, .pointer none, .pointer none, .pointer none, .bool true]] := H.mkN OElink_Link
  replace H : Hf I D w I w1 [PtC OElink_Link (.pointer none) none, PtC OElink_Link (.pointer none) none, BxC b1 48 [.pointer none, .pointer none, .pointer none, .pointer none, .bool true]] := H.mkN OElink_Link
  replace H : Hf I D w I w1 [PtC OElink_Link (.pointer none) none, PtC OElink_Link (.pointer none) none, PtC OElink_Link (.pointer none) none, BxC b1 48 [.pointer none, .pointer none, .pointer none, .pointer none, .bool true]] := H.mkN OElink_Link
  replace H : Hf I D w I w1 [PtC OElink_Link (.pointer none) none, PtC OElink_Link (.pointer none) none, PtC OElink_Link (.pointer none) none, PtC OElink_Link (.pointer none) none, BxC b1 48 [.pointer none, .pointer none, .pointer none, .pointer none, .bool true]] := H.mkN OElink_Link
  replace H : Hf I D w I w1 [OEhub_Hub b1 ({ l := [none, none, none, none], made := true } : Ehub_Hub)] := H.shutX (.pointer none, .pointer none, .pointer none, .pointer none) [(4, false), (3, false), (2, false), (1, false), (0, false)] rfl
  refine f_iter hF (fun sg a' w' => match sg with | (x, h) => Sl 40 [(0, .int .i64 self), (1, .int .i64 boot), (6, .pointer (some ⟨b1, 0, none⟩)), (18, .int .i64 x)] a' ∧ ∃ I2, Hf I D w I2 w' [OEhub_Hub b1 h]) ⟨Z.sub (ts := [0, 1, 6, 18]) rfl, ⟨I, (H.sub [(0, false)] rfl).eq rfl⟩⟩ ?_
  clear Z H hF a
  rintro rc ⟨x, h⟩ a w2 ⟨Z, I1, H⟩ hF
  unfold F_hub_New_l1 at hF
  try dsimp only at hF
  refine wp_seq (f_region Z ?_); clear Z; intro Z
  refine s_runk tHb1 Z 1 rfl rfl ?_; clear Z a; intro a Z
  refine s_end Z [0, 1, 6, 18, 19] rfl ?_; clear Z; intro Z
  refine p_then (wp_seq ?_)
  refine f_cond Z rfl (fun hc2 => ?_) (fun hc2 => ?_)
  ·replace hF := ite_t hc2 hF
   refine wp_skip ?_
   refine p_then ?_
   refine f_cut (fun a' w' => ∃ (h_2 : Ehub_Hub), Sl 40 [(0, .int .i64 self), (1, .int .i64 boot), (6, .pointer (some ⟨b1, 0, none⟩)), (18, .int .i64 x)] a' ∧ (∃ I2, Hf I D w I2 w' [OEhub_Hub b1 h_2]) ∧ F_hub_New_k2 x rc h_2 = some rr) ?_ ?_
   ·rintro a w3 ⟨h_2, Z, ⟨I2, H⟩, hF⟩
    unfold F_hub_New_k2 at hF
    try dsimp only at hF
    obtain ⟨hg1, hF⟩ := chk_in hF
    refine f_region Z ?_; clear Z; intro Z
    refine s_ob Z (v := .int .i64 (x + 1)) rfl rfl (by decide) rfl (Ob_add rfl rfl rfl (wrI hg1)) ?_; clear Z a; intro a Z
    refine s_runk tHb1 Z 1 rfl rfl ?_; clear Z a; intro a Z
    refine s_end Z [0, 1, 6, 18] rfl ?_; clear Z; intro Z
    refine p_then ?_
    exact ⟨(x + 1, h_2), ⟨Z.sub (ts := [0, 1, 6, 18]) rfl, ⟨I2, (H.sub [(0, false)] rfl).eq rfl⟩⟩, hF⟩
   ·skip
    refine wp_block ?_
    refine wp_seq (f_region Z ?_); clear Z; intro Z
    refine s_runk tHb1 Z 2 rfl rfl ?_; clear Z a; intro a Z
    refine s_end Z [0, 1, 6, 18, 7] rfl ?_; clear Z; intro Z
    refine p_then (wp_seq ?_)
    refine wp_seq (f_region Z ?_); clear Z; intro Z
    refine s_runk tHb1 Z 3 rfl rfl ?_; clear Z a; intro a Z
    refine s_end Z [0, 1, 6, 18, 7, 23] rfl ?_; clear Z; intro Z
    refine p_then ?_
    refine f_cond Z rfl (fun hc3 => ?_) (fun hc3 => ?_)
    ·replace hF := ite_t hc3 hF
     refine wp_exit ?_
     refine p_then_x ?_
     refine f_exit_here ?_
     refine p_then ?_
     exact ⟨h, Z.sub (ts := [0, 1, 6, 18]) rfl, ⟨I1, (H.sub [(0, false)] rfl).eq rfl⟩, hF⟩
    ·replace hF := ite_f hc3 hF
     refine wp_skip ?_
     refine p_then (wp_seq ?_)
     obtain ⟨n0, hx1, hF⟩ := bnd_in hF
     refine f_region Z ?_; clear Z; intro Z
     refine s_runk tHb1 Z 1 rfl rfl ?_; clear Z a; intro a Z
     refine h_call Z H (js := []) rfl (caps := #[]) fn_11_YHb1 rfl rfl rfl rfl rfl (by decide) rfl rfl (fun D1 hS => have hq := c_link_New hx1 hS; hq) ?_; clear Z a; intro vv a w4 D2 hr hF2 Z
     obtain ⟨q1, rfl, I3, K⟩ := hr
     have H : Hf I D w I3 w4 [PtC OElink_Link q1 n0.1, OEhub_Hub b1 h] := hF2 K
     clear hF2 K
     refine s_runk tHb1 Z 5 rfl rfl ?_; clear Z a; intro a Z
     refine s_end Z [0, 1, 6, 18, 7, 8, 9] rfl ?_; clear Z; intro Z
     rcases optE_in hF with ⟨ho1, hF⟩ | ⟨x_2, ho1, hF⟩
     ·obtain ⟨hv, H⟩ := H.optN 0 rfl ho1
      subst hv
      replace H : Hf I D w I3 w4 [OEhub_Hub b1 h] := H
      refine p_then (wp_seq ?_)
      refine wp_seq (f_region Z ?_); clear Z; intro Z
      refine s_runk tHb1 Z 2 rfl rfl ?_; clear Z a; intro a Z
      refine s_end Z [0, 1, 6, 18, 7, 8, 9, 30] rfl ?_; clear Z; intro Z
      refine p_then ?_
      refine f_cond Z rfl (fun hc4 => ?_) (fun hc4 => ?_)
      ·replace hF := ite_t hc4 hF
       refine wp_seq (f_region Z ?_); clear Z; intro Z
       refine s_runk tHb1 Z 3 rfl rfl ?_; clear Z a; intro a Z
       refine s_end Z [4, 5] rfl ?_; clear Z; intro Z
       refine p_then (wp_ret ?_)
       refine p_then_r ?_
       refine p_blk_r ?_
       refine p_then_r ?_
       refine p_then_r ?_
       refine p_blk_r ?_
       refine p_then_r ?_
       replace H : Hf I D w I3 w4 [PtC OEhub_Hub (.pointer none) none, OEhub_Hub b1 h] := H.mkN OEhub_Hub
       obtain rfl := some_in hF
       exact f_ret Z (run_results2 rfl Z rfl rfl) ⟨.pointer none, rfl, I3, (H.sub [(0, false)] rfl).eq rfl⟩
      ·replace hF := ite_f hc4 hF
       refine wp_skip ?_
       refine p_then ?_
       refine bsplit (x == 0) (fun hi1 => ?_) (fun hi1 => ?_)
       ·replace hF := ite_t hi1 hF
        refine f_region Z ?_; clear Z; intro Z
        refine s_runk tHb1 Z 5 rfl rfl ?_; clear Z a; intro a Z
        refine s_ob Z (v := .pointer (some ⟨b1, 0, none⟩)) rfl rfl (by decide) rfl (Ob_apix (m := 1) 0 rfl rfl rfl Try.underlying46 (by kernel_rfl) (eq_of_beq hi1) (by decide)) ?_; clear Z a; intro a Z
        obtain ⟨⟨v1, v2, v3, v4⟩, H⟩ := H.openX 0 rfl
        replace H : Hf I D w I3 w4 [BxC b1 48 [v1, v2, v3, v4, .bool h.made], PtC OElink_Link v1 (h.l.getD 0 none), PtC OElink_Link v2 (h.l.getD 1 none), PtC OElink_Link v3 (h.l.getD 2 none), PtC OElink_Link v4 (h.l.getD 3 none)] := H
        refine h_store tHb1 Z H 0 rfl rfl rfl rfl rfl rfl rfl rfl rfl (one_cons rfl one_nil) (Nat.le_of_ble_eq_true rfl) rfl ?_; clear H; intro w5 H
        dsimp only [List.eraseIdx] at H
        refine s_end Z [0, 1, 6, 18] rfl ?_; clear Z; intro Z
        refine p_blk ?_
        refine p_then ?_
        replace H : Hf I D w I3 w5 [PtC OElink_Link (.pointer none) none, BxC b1 48 [.pointer none, v2, v3, v4, .bool h.made], PtC OElink_Link v1 (h.l.getD 0 none), PtC OElink_Link v2 (h.l.getD 1 none), PtC OElink_Link v3 (h.l.getD 2 none), PtC OElink_Link v4 (h.l.getD 3 none)] := H.mkN OElink_Link
        replace H : Hf I D w I3 w5 [OEhub_Hub b1 ({ h with l := [none, (h.l.getD 1 none), (h.l.getD 2 none), (h.l.getD 3 none)] } : Ehub_Hub), PtC OElink_Link v1 (h.l.getD 0 none)] := H.shutX (.pointer none, v2, v3, v4) [(1, false), (0, false), (1, false), (1, false), (1, false)] rfl
        exact ⟨({ h with l := [none, (h.l.getD 1 none), (h.l.getD 2 none), (h.l.getD 3 none)] } : Ehub_Hub), Z.sub (ts := [0, 1, 6, 18]) rfl, ⟨I3, (H.sub [(0, false)] rfl).eq rfl⟩, hF⟩
       replace hF := ite_f hi1 hF
       refine bsplit (x == 1) (fun hi2 => ?_) (fun hi2 => ?_)
       ·replace hF := ite_t hi2 hF
        refine f_region Z ?_; clear Z; intro Z
        refine s_runk tHb1 Z 5 rfl rfl ?_; clear Z a; intro a Z
        refine s_ob Z (v := .pointer (some ⟨b1, 1, none⟩)) rfl rfl (by decide) rfl (Ob_apix (m := 1) 1 rfl rfl rfl Try.underlying46 (by kernel_rfl) (eq_of_beq hi2) (by decide)) ?_; clear Z a; intro a Z
        obtain ⟨⟨v5, v6, v7, v8⟩, H⟩ := H.openX 0 rfl
        replace H : Hf I D w I3 w4 [BxC b1 48 [v5, v6, v7, v8, .bool h.made], PtC OElink_Link v5 (h.l.getD 0 none), PtC OElink_Link v6 (h.l.getD 1 none), PtC OElink_Link v7 (h.l.getD 2 none), PtC OElink_Link v8 (h.l.getD 3 none)] := H
        refine h_store tHb1 Z H 0 rfl rfl rfl rfl rfl rfl rfl rfl rfl (one_cons rfl one_nil) (Nat.le_of_ble_eq_true rfl) rfl ?_; clear H; intro w6 H
        dsimp only [List.eraseIdx] at H
        refine s_end Z [0, 1, 6, 18] rfl ?_; clear Z; intro Z
        refine p_blk ?_
        refine p_then ?_
        replace H : Hf I D w I3 w6 [PtC OElink_Link (.pointer none) none, BxC b1 48 [v5, .pointer none, v7, v8, .bool h.made], PtC OElink_Link v5 (h.l.getD 0 none), PtC OElink_Link v6 (h.l.getD 1 none), PtC OElink_Link v7 (h.l.getD 2 none), PtC OElink_Link v8 (h.l.getD 3 none)] := H.mkN OElink_Link
        replace H : Hf I D w I3 w6 [OEhub_Hub b1 ({ h with l := [(h.l.getD 0 none), none, (h.l.getD 2 none), (h.l.getD 3 none)] } : Ehub_Hub), PtC OElink_Link v6 (h.l.getD 1 none)] := H.shutX (v5, .pointer none, v7, v8) [(1, false), (1, false), (0, false), (1, false), (1, false)] rfl
        exact ⟨({ h with l := [(h.l.getD 0 none), none, (h.l.getD 2 none), (h.l.getD 3 none)] } : Ehub_Hub), Z.sub (ts := [0, 1, 6, 18]) rfl, ⟨I3, (H.sub [(0, false)] rfl).eq rfl⟩, hF⟩
       replace hF := ite_f hi2 hF
       refine bsplit (x == 2) (fun hi3 => ?_) (fun hi3 => ?_)
       ·replace hF := ite_t hi3 hF
        refine f_region Z ?_; clear Z; intro Z
        refine s_runk tHb1 Z 5 rfl rfl ?_; clear Z a; intro a Z
        refine s_ob Z (v := .pointer (some ⟨b1, 2, none⟩)) rfl rfl (by decide) rfl (Ob_apix (m := 1) 2 rfl rfl rfl Try.underlying46 (by kernel_rfl) (eq_of_beq hi3) (by decide)) ?_; clear Z a; intro a Z
        obtain ⟨⟨v9, v10, v11, v12⟩, H⟩ := H.openX 0 rfl
        replace H : Hf I D w I3 w4 [BxC b1 48 [v9, v10, v11, v12, .bool h.made], PtC OElink_Link v9 (h.l.getD 0 none), PtC OElink_Link v10 (h.l.getD 1 none), PtC OElink_Link v11 (h.l.getD 2 none), PtC OElink_Link v12 (h.l.getD 3 none)] := H
        refine h_store tHb1 Z H 0 rfl rfl rfl rfl rfl rfl rfl rfl rfl (one_cons rfl one_nil) (Nat.le_of_ble_eq_true rfl) rfl ?_; clear H; intro w7 H
        dsimp only [List.eraseIdx] at H
        refine s_end Z [0, 1, 6, 18] rfl ?_; clear Z; intro Z
        refine p_blk ?_
        refine p_then ?_
        replace H : Hf I D w I3 w7 [PtC OElink_Link (.pointer none) none, BxC b1 48 [v9, v10, .pointer none, v12, .bool h.made], PtC OElink_Link v9 (h.l.getD 0 none), PtC OElink_Link v10 (h.l.getD 1 none), PtC OElink_Link v11 (h.l.getD 2 none), PtC OElink_Link v12 (h.l.getD 3 none)] := H.mkN OElink_Link
        replace H : Hf I D w I3 w7 [OEhub_Hub b1 ({ h with l := [(h.l.getD 0 none), (h.l.getD 1 none), none, (h.l.getD 3 none)] } : Ehub_Hub), PtC OElink_Link v11 (h.l.getD 2 none)] := H.shutX (v9, v10, .pointer none, v12) [(1, false), (1, false), (1, false), (0, false), (1, false)] rfl
        exact ⟨({ h with l := [(h.l.getD 0 none), (h.l.getD 1 none), none, (h.l.getD 3 none)] } : Ehub_Hub), Z.sub (ts := [0, 1, 6, 18]) rfl, ⟨I3, (H.sub [(0, false)] rfl).eq rfl⟩, hF⟩
       replace hF := ite_f hi3 hF
       refine bsplit (x == 3) (fun hi4 => ?_) (fun hi4 => ?_)
       ·replace hF := ite_t hi4 hF
        refine f_region Z ?_; clear Z; intro Z
        refine s_runk tHb1 Z 5 rfl rfl ?_; clear Z a; intro a Z
        refine s_ob Z (v := .pointer (some ⟨b1, 3, none⟩)) rfl rfl (by decide) rfl (Ob_apix (m := 1) 3 rfl rfl rfl Try.underlying46 (by kernel_rfl) (eq_of_beq hi4) (by decide)) ?_; clear Z a; intro a Z
        obtain ⟨⟨v13, v14, v15, v16⟩, H⟩ := H.openX 0 rfl
        replace H : Hf I D w I3 w4 [BxC b1 48 [v13, v14, v15, v16, .bool h.made], PtC OElink_Link v13 (h.l.getD 0 none), PtC OElink_Link v14 (h.l.getD 1 none), PtC OElink_Link v15 (h.l.getD 2 none), PtC OElink_Link v16 (h.l.getD 3 none)] := H
        refine h_store tHb1 Z H 0 rfl rfl rfl rfl rfl rfl rfl rfl rfl (one_cons rfl one_nil) (Nat.le_of_ble_eq_true rfl) rfl ?_; clear H; intro w8 H
        dsimp only [List.eraseIdx] at H
        refine s_end Z [0, 1, 6, 18] rfl ?_; clear Z; intro Z
        refine p_blk ?_
        refine p_then ?_
        replace H : Hf I D w I3 w8 [PtC OElink_Link (.pointer none) none, BxC b1 48 [v13, v14, v15, .pointer none, .bool h.made], PtC OElink_Link v13 (h.l.getD 0 none), PtC OElink_Link v14 (h.l.getD 1 none), PtC OElink_Link v15 (h.l.getD 2 none), PtC OElink_Link v16 (h.l.getD 3 none)] := H.mkN OElink_Link
        replace H : Hf I D w I3 w8 [OEhub_Hub b1 ({ h with l := [(h.l.getD 0 none), (h.l.getD 1 none), (h.l.getD 2 none), none] } : Ehub_Hub), PtC OElink_Link v16 (h.l.getD 3 none)] := H.shutX (v13, v14, v15, .pointer none) [(1, false), (1, false), (1, false), (1, false), (0, false)] rfl
        exact ⟨({ h with l := [(h.l.getD 0 none), (h.l.getD 1 none), (h.l.getD 2 none), none] } : Ehub_Hub), Z.sub (ts := [0, 1, 6, 18]) rfl, ⟨I3, (H.sub [(0, false)] rfl).eq rfl⟩, hF⟩
       replace hF := ite_f hi4 hF
       cases hF
     ·obtain ⟨b2, hv, H⟩ := H.optS 0 rfl ho1
      subst hv
      replace H : Hf I D w I3 w4 [OElink_Link b2 x_2, OEhub_Hub b1 h] := H
      refine p_then (wp_seq ?_)
      refine wp_seq (f_region Z ?_); clear Z; intro Z
      refine s_runk tHb1 Z 2 rfl rfl ?_; clear Z a; intro a Z
      refine s_end Z [0, 1, 6, 18, 7, 8, 9, 30] rfl ?_; clear Z; intro Z
      refine p_then ?_
      refine f_cond Z rfl (fun hc5 => ?_) (fun hc5 => ?_)
      ·replace hF := ite_t hc5 hF
       refine wp_seq (f_region Z ?_); clear Z; intro Z
       refine s_runk tHb1 Z 3 rfl rfl ?_; clear Z a; intro a Z
       refine s_end Z [4, 5] rfl ?_; clear Z; intro Z
       refine p_then (wp_ret ?_)
       refine p_then_r ?_
       refine p_blk_r ?_
       refine p_then_r ?_
       refine p_then_r ?_
       refine p_blk_r ?_
       refine p_then_r ?_
       replace H : Hf I D w I3 w4 [PtC OEhub_Hub (.pointer none) none, OElink_Link b2 x_2, OEhub_Hub b1 h] := H.mkN OEhub_Hub
       obtain rfl := some_in hF
       exact f_ret Z (run_results2 rfl Z rfl rfl) ⟨.pointer none, rfl, I3, (H.sub [(0, false)] rfl).eq rfl⟩
      ·replace hF := ite_f hc5 hF
       refine wp_skip ?_
       refine p_then ?_
       refine bsplit (x == 0) (fun hi5 => ?_) (fun hi5 => ?_)
       ·replace hF := ite_t hi5 hF
        refine f_region Z ?_; clear Z; intro Z
        refine s_runk tHb1 Z 5 rfl rfl ?_; clear Z a; intro a Z
        refine s_ob Z (v := .pointer (some ⟨b1, 0, none⟩)) rfl rfl (by decide) rfl (Ob_apix (m := 1) 0 rfl rfl rfl Try.underlying46 (by kernel_rfl) (eq_of_beq hi5) (by decide)) ?_; clear Z a; intro a Z
        obtain ⟨⟨v17, v18, v19, v20⟩, H⟩ := H.openX 1 rfl
        replace H : Hf I D w I3 w4 [BxC b1 48 [v17, v18, v19, v20, .bool h.made], PtC OElink_Link v17 (h.l.getD 0 none), PtC OElink_Link v18 (h.l.getD 1 none), PtC OElink_Link v19 (h.l.getD 2 none), PtC OElink_Link v20 (h.l.getD 3 none), OElink_Link b2 x_2] := H
        refine h_store tHb1 Z H 0 rfl rfl rfl rfl rfl rfl rfl rfl rfl (one_cons rfl one_nil) (Nat.le_of_ble_eq_true rfl) rfl ?_; clear H; intro w9 H
        dsimp only [List.eraseIdx] at H
        refine s_end Z [0, 1, 6, 18] rfl ?_; clear Z; intro Z
        refine p_blk ?_
        refine p_then ?_
        replace H : Hf I D w I3 w9 [PtC OElink_Link (.pointer (some ⟨b2, 0, none⟩)) (some x_2), BxC b1 48 [.pointer (some ⟨b2, 0, none⟩), v18, v19, v20, .bool h.made], PtC OElink_Link v17 (h.l.getD 0 none), PtC OElink_Link v18 (h.l.getD 1 none), PtC OElink_Link v19 (h.l.getD 2 none), PtC OElink_Link v20 (h.l.getD 3 none)] := H.mkS (K := OElink_Link) 5 rfl
        replace H : Hf I D w I3 w9 [OEhub_Hub b1 ({ h with l := [some x_2, (h.l.getD 1 none), (h.l.getD 2 none), (h.l.getD 3 none)] } : Ehub_Hub), PtC OElink_Link v17 (h.l.getD 0 none)] := H.shutX (.pointer (some ⟨b2, 0, none⟩), v18, v19, v20) [(1, false), (0, false), (1, false), (1, false), (1, false)] rfl
        exact ⟨({ h with l := [some x_2, (h.l.getD 1 none), (h.l.getD 2 none), (h.l.getD 3 none)] } : Ehub_Hub), Z.sub (ts := [0, 1, 6, 18]) rfl, ⟨I3, (H.sub [(0, false)] rfl).eq rfl⟩, hF⟩
       replace hF := ite_f hi5 hF
       refine bsplit (x == 1) (fun hi6 => ?_) (fun hi6 => ?_)
       ·replace hF := ite_t hi6 hF
        refine f_region Z ?_; clear Z; intro Z
        refine s_runk tHb1 Z 5 rfl rfl ?_; clear Z a; intro a Z
        refine s_ob Z (v := .pointer (some ⟨b1, 1, none⟩)) rfl rfl (by decide) rfl (Ob_apix (m := 1) 1 rfl rfl rfl Try.underlying46 (by kernel_rfl) (eq_of_beq hi6) (by decide)) ?_; clear Z a; intro a Z
        obtain ⟨⟨v21, v22, v23, v24⟩, H⟩ := H.openX 1 rfl
        replace H : Hf I D w I3 w4 [BxC b1 48 [v21, v22, v23, v24, .bool h.made], PtC OElink_Link v21 (h.l.getD 0 none), PtC OElink_Link v22 (h.l.getD 1 none), PtC OElink_Link v23 (h.l.getD 2 none), PtC OElink_Link v24 (h.l.getD 3 none), OElink_Link b2 x_2] := H
        refine h_store tHb1 Z H 0 rfl rfl rfl rfl rfl rfl rfl rfl rfl (one_cons rfl one_nil) (Nat.le_of_ble_eq_true rfl) rfl ?_; clear H; intro w10 H
        dsimp only [List.eraseIdx] at H
        refine s_end Z [0, 1, 6, 18] rfl ?_; clear Z; intro Z
        refine p_blk ?_
        refine p_then ?_
        replace H : Hf I D w I3 w10 [PtC OElink_Link (.pointer (some ⟨b2, 0, none⟩)) (some x_2), BxC b1 48 [v21, .pointer (some ⟨b2, 0, none⟩), v23, v24, .bool h.made], PtC OElink_Link v21 (h.l.getD 0 none), PtC OElink_Link v22 (h.l.getD 1 none), PtC OElink_Link v23 (h.l.getD 2 none), PtC OElink_Link v24 (h.l.getD 3 none)] := H.mkS (K := OElink_Link) 5 rfl
        replace H : Hf I D w I3 w10 [OEhub_Hub b1 ({ h with l := [(h.l.getD 0 none), some x_2, (h.l.getD 2 none), (h.l.getD 3 none)] } : Ehub_Hub), PtC OElink_Link v22 (h.l.getD 1 none)] := H.shutX (v21, .pointer (some ⟨b2, 0, none⟩), v23, v24) [(1, false), (1, false), (0, false), (1, false), (1, false)] rfl
        exact ⟨({ h with l := [(h.l.getD 0 none), some x_2, (h.l.getD 2 none), (h.l.getD 3 none)] } : Ehub_Hub), Z.sub (ts := [0, 1, 6, 18]) rfl, ⟨I3, (H.sub [(0, false)] rfl).eq rfl⟩, hF⟩
       replace hF := ite_f hi6 hF
       refine bsplit (x == 2) (fun hi7 => ?_) (fun hi7 => ?_)
       ·replace hF := ite_t hi7 hF
        refine f_region Z ?_; clear Z; intro Z
        refine s_runk tHb1 Z 5 rfl rfl ?_; clear Z a; intro a Z
        refine s_ob Z (v := .pointer (some ⟨b1, 2, none⟩)) rfl rfl (by decide) rfl (Ob_apix (m := 1) 2 rfl rfl rfl Try.underlying46 (by kernel_rfl) (eq_of_beq hi7) (by decide)) ?_; clear Z a; intro a Z
        obtain ⟨⟨v25, v26, v27, v28⟩, H⟩ := H.openX 1 rfl
        replace H : Hf I D w I3 w4 [BxC b1 48 [v25, v26, v27, v28, .bool h.made], PtC OElink_Link v25 (h.l.getD 0 none), PtC OElink_Link v26 (h.l.getD 1 none), PtC OElink_Link v27 (h.l.getD 2 none), PtC OElink_Link v28 (h.l.getD 3 none), OElink_Link b2 x_2] := H
        refine h_store tHb1 Z H 0 rfl rfl rfl rfl rfl rfl rfl rfl rfl (one_cons rfl one_nil) (Nat.le_of_ble_eq_true rfl) rfl ?_; clear H; intro w11 H
        dsimp only [List.eraseIdx] at H
        refine s_end Z [0, 1, 6, 18] rfl ?_; clear Z; intro Z
        refine p_blk ?_
        refine p_then ?_
        replace H : Hf I D w I3 w11 [PtC OElink_Link (.pointer (some ⟨b2, 0, none⟩)) (some x_2), BxC b1 48 [v25, v26, .pointer (some ⟨b2, 0, none⟩), v28, .bool h.made], PtC OElink_Link v25 (h.l.getD 0 none), PtC OElink_Link v26 (h.l.getD 1 none), PtC OElink_Link v27 (h.l.getD 2 none), PtC OElink_Link v28 (h.l.getD 3 none)] := H.mkS (K := OElink_Link) 5 rfl
        replace H : Hf I D w I3 w11 [OEhub_Hub b1 ({ h with l := [(h.l.getD 0 none), (h.l.getD 1 none), some x_2, (h.l.getD 3 none)] } : Ehub_Hub), PtC OElink_Link v27 (h.l.getD 2 none)] := H.shutX (v25, v26, .pointer (some ⟨b2, 0, none⟩), v28) [(1, false), (1, false), (1, false), (0, false), (1, false)] rfl
        exact ⟨({ h with l := [(h.l.getD 0 none), (h.l.getD 1 none), some x_2, (h.l.getD 3 none)] } : Ehub_Hub), Z.sub (ts := [0, 1, 6, 18]) rfl, ⟨I3, (H.sub [(0, false)] rfl).eq rfl⟩, hF⟩
       replace hF := ite_f hi7 hF
       refine bsplit (x == 3) (fun hi8 => ?_) (fun hi8 => ?_)
       ·replace hF := ite_t hi8 hF
        refine f_region Z ?_; clear Z; intro Z
        refine s_runk tHb1 Z 5 rfl rfl ?_; clear Z a; intro a Z
        refine s_ob Z (v := .pointer (some ⟨b1, 3, none⟩)) rfl rfl (by decide) rfl (Ob_apix (m := 1) 3 rfl rfl rfl Try.underlying46 (by kernel_rfl) (eq_of_beq hi8) (by decide)) ?_; clear Z a; intro a Z
        obtain ⟨⟨v29, v30, v31, v32⟩, H⟩ := H.openX 1 rfl
        replace H : Hf I D w I3 w4 [BxC b1 48 [v29, v30, v31, v32, .bool h.made], PtC OElink_Link v29 (h.l.getD 0 none), PtC OElink_Link v30 (h.l.getD 1 none), PtC OElink_Link v31 (h.l.getD 2 none), PtC OElink_Link v32 (h.l.getD 3 none), OElink_Link b2 x_2] := H
        refine h_store tHb1 Z H 0 rfl rfl rfl rfl rfl rfl rfl rfl rfl (one_cons rfl one_nil) (Nat.le_of_ble_eq_true rfl) rfl ?_; clear H; intro w12 H
        dsimp only [List.eraseIdx] at H
        refine s_end Z [0, 1, 6, 18] rfl ?_; clear Z; intro Z
        refine p_blk ?_
        refine p_then ?_
        replace H : Hf I D w I3 w12 [PtC OElink_Link (.pointer (some ⟨b2, 0, none⟩)) (some x_2), BxC b1 48 [v29, v30, v31, .pointer (some ⟨b2, 0, none⟩), .bool h.made], PtC OElink_Link v29 (h.l.getD 0 none), PtC OElink_Link v30 (h.l.getD 1 none), PtC OElink_Link v31 (h.l.getD 2 none), PtC OElink_Link v32 (h.l.getD 3 none)] := H.mkS (K := OElink_Link) 5 rfl
        replace H : Hf I D w I3 w12 [OEhub_Hub b1 ({ h with l := [(h.l.getD 0 none), (h.l.getD 1 none), (h.l.getD 2 none), some x_2] } : Ehub_Hub), PtC OElink_Link v32 (h.l.getD 3 none)] := H.shutX (v29, v30, v31, .pointer (some ⟨b2, 0, none⟩)) [(1, false), (1, false), (1, false), (1, false), (0, false)] rfl
        exact ⟨({ h with l := [(h.l.getD 0 none), (h.l.getD 1 none), (h.l.getD 2 none), some x_2] } : Ehub_Hub), Z.sub (ts := [0, 1, 6, 18]) rfl, ⟨I3, (H.sub [(0, false)] rfl).eq rfl⟩, hF⟩
       replace hF := ite_f hi8 hF
       cases hF
  ·replace hF := ite_f hc2 hF
   refine wp_exit ?_
   refine p_then_x ?_
   refine p_then_x ?_
   refine f_exit_here ?_
   refine p_then (wp_seq (f_region Z ?_)); clear Z; intro Z
   refine s_runk tHb1 Z 3 rfl rfl ?_; clear Z a; intro a Z
   refine s_end Z [4, 5] rfl ?_; clear Z; intro Z
   refine p_then (wp_ret ?_)
   replace H : Hf I D w I1 w2 [PtC OEhub_Hub (.pointer (some ⟨b1, 0, none⟩)) (some h)] := H.mkS (K := OEhub_Hub) 0 rfl
   obtain rfl := some_in hF
   exact f_ret Z (run_results2 rfl Z rfl rfl) ⟨.pointer (some ⟨b1, 0, none⟩), rfl, I1, (H.sub [(0, false)] rfl).eq rfl⟩

def F_hub_Hub_none (h : Ehub_Hub) : Option Bool := some (!h.made)

set_option maxHeartbeats 1000000 in
theorem c_hub_Hub_none {I D : Dm} {b_h : Nat} {h : Ehub_Hub} {w : World} {rr : Bool} (hF : F_hub_Hub_none h = some rr) (H : St I D w [OEhub_Hub b_h h]) :
  Calls Try.prog 16 #[.pointer (some ⟨b_h, 0, none⟩)] w (Ret fun vv w' => vv = .bool rr ∧ ∃ I', Hf I D w I' w' [OEhub_Hub b_h h]) := by
 replace H := H.hf
 unfold F_hub_Hub_none at hF
 refine f_enter 12 Try.func16 rfl rfl (Nat.le_of_ble_eq_true rfl) fun a Z => ?_
 replace Z := Z.sub (ts := [0]) rfl
 refine wp_seq (f_region Z ?_); clear Z; intro Z
 refine s_runk tHb1 Z 1 rfl rfl ?_; clear Z a; intro a Z
 refine s_end Z [0] rfl ?_; clear Z; intro Z
 refine p_then (wp_seq (f_region Z ?_)); clear Z; intro Z
 refine s_runk tHb1 Z 1 rfl rfl ?_; clear Z a; intro a Z
 refine s_ob Z (v := .bool false) rfl rfl (by decide) rfl (Ob_pnil rfl rfl rfl Try.underlying23 (.inl ⟨rfl, rfl⟩)) ?_; clear Z a; intro a Z
 refine s_runk tHb1 Z 1 rfl rfl ?_; clear Z a; intro a Z
 refine g_if Z rfl rfl rfl (p := true) rfl rfl (by decide) (fun _ => ?_) (fun h => by cases h)
 refine s_runk tHb1 Z 1 rfl rfl ?_; clear Z a; intro a Z
 refine g_if Z rfl rfl rfl (p := true) rfl rfl (by decide) (fun _ => ?_) (fun h => by cases h)
 refine s_runk tHb1 Z 1 rfl rfl ?_; clear Z a; intro a Z
 refine g_if Z rfl rfl rfl (p := true) rfl rfl (by decide) (fun _ => ?_) (fun h => by cases h)
 refine s_runk tHb1 Z 1 rfl rfl ?_; clear Z a; intro a Z
 refine g_if Z rfl rfl rfl (p := true) rfl rfl (by decide) (fun _ => ?_) (fun h => by cases h)
 obtain ⟨⟨v1, v2, v3, v4⟩, H⟩ := H.openX 0 rfl
 replace H : Hf I D w I w [BxC b_h 48 [v1, v2, v3, v4, .bool h.made], PtC OElink_Link v1 (h.l.getD 0 none), PtC OElink_Link v2 (h.l.getD 1 none), PtC OElink_Link v3 (h.l.getD 2 none), PtC OElink_Link v4 (h.l.getD 3 none)] := H
 refine s_ob Z (v := .bool h.made) rfl rfl (by decide) rfl (Ob_load tHb1 rfl rfl rfl ((H.bx 0 rfl).cell 4 rfl)) ?_; clear Z a; intro a Z
 refine g_if Z rfl rfl rfl (p := true) rfl rfl (by decide) (fun _ => ?_) (fun h => by cases h)
 refine s_runk tHb1 Z 1 rfl rfl ?_; clear Z a; intro a Z
 refine s_ob Z (v := .bool (!h.made)) rfl rfl (by decide) rfl (Ob_pick rfl rfl rfl rfl rfl) ?_; clear Z a; intro a Z
 refine s_runk tHb1 Z 1 rfl rfl ?_; clear Z a; intro a Z
 refine s_end Z [2] rfl ?_; clear Z; intro Z
 refine p_then (wp_ret ?_)
 replace H : Hf I D w I w [OEhub_Hub b_h h] := H.shutX (v1, v2, v3, v4) [(0, false), (0, false), (0, false), (0, false), (0, false)] rfl
 obtain rfl := some_in hF
 exact f_ret Z (run_results1 rfl Z rfl) ⟨rfl, I, (H.sub [(0, false)] rfl).eq rfl⟩

def F_hub_Hub_nobody (h : Ehub_Hub) : Option Int := (F_hub_Hub_none h).bind fun n0 => (if (n0) = true then (some 8) else (some 1))

set_option maxHeartbeats 1000000 in
theorem c_hub_Hub_nobody {I D : Dm} {b_h : Nat} {h : Ehub_Hub} {w : World} {rr : Int} (hF : F_hub_Hub_nobody h = some rr) (H : St I D w [OEhub_Hub b_h h]) :
  Calls Try.prog 15 #[.pointer (some ⟨b_h, 0, none⟩)] w (Ret fun vv w' => vv = .int .i64 rr ∧ ∃ I', Hf I D w I' w' [OEhub_Hub b_h h]) := by
 replace H := H.hf
 unfold F_hub_Hub_nobody at hF
 refine f_enter 5 Try.func15 rfl rfl (Nat.le_of_ble_eq_true rfl) fun a Z => ?_
 replace Z := Z.sub (ts := [0]) rfl
 refine wp_seq (f_region Z ?_); clear Z; intro Z
 refine s_runk tHb1 Z 1 rfl rfl ?_; clear Z a; intro a Z
 refine s_end Z [0] rfl ?_; clear Z; intro Z
 refine p_then (wp_seq ?_)
 refine wp_seq ?_
 obtain ⟨n0, hx1, hF⟩ := bnd_in hF
 refine f_region Z ?_; clear Z; intro Z
 refine s_runk tHb1 Z 1 rfl rfl ?_; clear Z a; intro a Z
 refine h_call Z H (js := [(0, false)]) rfl (caps := #[]) fn_16_YHb1 rfl rfl rfl rfl rfl (by decide) rfl rfl (fun D1 hS => have hq := c_hub_Hub_none hx1 hS; hq) ?_; clear Z a; intro vv a w1 D2 hr hF2 Z
 obtain ⟨rfl, I1, K⟩ := hr
 have H : Hf I D w I1 w1 [OEhub_Hub b_h h] := hF2 K
 clear hF2 K
 refine s_end Z [4] rfl ?_; clear Z; intro Z
 refine p_then ?_
 refine f_cond Z rfl (fun hc1 => ?_) (fun hc1 => ?_)
 ·replace hF := ite_t hc1 hF
  refine wp_seq (f_region Z ?_); clear Z; intro Z
  refine s_runk tHb1 Z 1 rfl rfl ?_; clear Z a; intro a Z
  refine s_end Z [2] rfl ?_; clear Z; intro Z
  refine p_then (wp_ret ?_)
  refine p_then_r ?_
  obtain rfl := some_in hF
  exact f_ret Z (run_results1 rfl Z rfl) ⟨rfl, I1, (H.sub [(0, false)] rfl).eq rfl⟩
 ·replace hF := ite_f hc1 hF
  refine wp_skip ?_
  refine p_then (wp_seq (f_region Z ?_)); clear Z; intro Z
  refine s_runk tHb1 Z 1 rfl rfl ?_; clear Z a; intro a Z
  refine s_end Z [2] rfl ?_; clear Z; intro Z
  refine p_then (wp_ret ?_)
  obtain rfl := some_in hF
  exact f_ret Z (run_results1 rfl Z rfl) ⟨rfl, I1, (H.sub [(0, false)] rfl).eq rfl⟩

def F_link_Link_none_nil : Option Bool := some true

set_option maxHeartbeats 1000000 in
theorem c_link_Link_none_nil {I D : Dm} {w : World} {rr : Bool} (hF : F_link_Link_none_nil = some rr) (H : St I D w []) :
  Calls Try.prog 24 #[.pointer none] w (Ret fun vv w' => vv = .bool rr ∧ ∃ I', Hf I D w I' w' []) := by
 replace H := H.hf
 unfold F_link_Link_none_nil at hF
 refine f_enter 12 Try.func24 rfl rfl (Nat.le_of_ble_eq_true rfl) fun a Z => ?_
 replace Z := Z.sub (ts := [0]) rfl
 refine wp_seq (f_region Z ?_); clear Z; intro Z
 refine s_runk tHb1 Z 1 rfl rfl ?_; clear Z a; intro a Z
 refine s_end Z [0] rfl ?_; clear Z; intro Z
 refine p_then (wp_seq (f_region Z ?_)); clear Z; intro Z
 refine s_runk tHb1 Z 1 rfl rfl ?_; clear Z a; intro a Z
 refine s_ob Z (v := .bool true) rfl rfl (by decide) rfl (Ob_pnil rfl rfl rfl Try.underlying45 (.inl ⟨rfl, rfl⟩)) ?_; clear Z a; intro a Z
 refine s_runk tHb1 Z 1 rfl rfl ?_; clear Z a; intro a Z
 refine g_if Z rfl rfl rfl (p := false) rfl rfl (by decide) (fun h => by cases h) ?_; clear Z; intro _ a Z
 refine g_if Z rfl rfl rfl (p := false) rfl rfl (by decide) (fun h => by cases h) ?_; clear Z; intro _ a Z
 refine g_if Z rfl rfl rfl (p := false) rfl rfl (by decide) (fun h => by cases h) ?_; clear Z; intro _ a Z
 refine g_if Z rfl rfl rfl (p := false) rfl rfl (by decide) (fun h => by cases h) ?_; clear Z; intro _ a Z
 refine g_if Z rfl rfl rfl (p := false) rfl rfl (by decide) (fun h => by cases h) ?_; clear Z; intro _ a Z
 refine s_ob Z (v := .bool true) rfl rfl (by decide) rfl (Ob_pick rfl rfl rfl rfl rfl) ?_; clear Z a; intro a Z
 refine s_runk tHb1 Z 1 rfl rfl ?_; clear Z a; intro a Z
 refine s_end Z [2] rfl ?_; clear Z; intro Z
 refine p_then (wp_ret ?_)
 obtain rfl := some_in hF
 exact f_ret Z (run_results1 rfl Z rfl) ⟨rfl, I, (H.sub [] rfl).eq rfl⟩

def F_link_Link_Send_nil (s0 : ByteArray) : Option Int := (F_link_Link_none_nil).bind fun n0 => (if (n0) = true then (some 8) else (if (decide ((s0.size : Int) > 65536)) = true then (some 3) else (none)))

set_option maxHeartbeats 1000000 in
theorem c_link_Link_Send_nil {I D : Dm} {s0 : ByteArray} {w : World} {rr : Int} (hF : F_link_Link_Send_nil s0 = some rr) (H : St I D w []) :
  Calls Try.prog 14 #[.pointer none, .string s0] w (Ret fun vv w' => vv = .int .i64 rr ∧ ∃ I', Hf I D w I' w' []) := by
 replace H := H.hf
 unfold F_link_Link_Send_nil at hF
 refine f_enter 32 Try.func14 rfl rfl (Nat.le_of_ble_eq_true rfl) fun a Z => ?_
 replace Z := Z.sub (ts := [0, 1]) rfl
 refine wp_seq (f_region Z ?_); clear Z; intro Z
 refine s_runk tHb1 Z 1 rfl rfl ?_; clear Z a; intro a Z
 refine s_end Z [0, 1] rfl ?_; clear Z; intro Z
 refine p_then (wp_seq ?_)
 refine wp_block ?_
 refine wp_seq ?_
 obtain ⟨n0, hx1, hF⟩ := bnd_in hF
 refine f_region Z ?_; clear Z; intro Z
 refine s_runk tHb1 Z 1 rfl rfl ?_; clear Z a; intro a Z
 refine h_call Z H (js := []) rfl (caps := #[]) fn_24_YHb1 rfl rfl rfl rfl rfl (by decide) rfl rfl (fun D1 hS => have hq := c_link_Link_none_nil hx1 hS; hq) ?_; clear Z a; intro vv a w1 D2 hr hF2 Z
 obtain ⟨rfl, I1, K⟩ := hr
 have H : Hf I D w I1 w1 [] := hF2 K
 clear hF2 K
 refine s_runk tHb1 Z 1 rfl rfl ?_; clear Z a; intro a Z
 refine s_end Z [0, 1, 5] rfl ?_; clear Z; intro Z
 refine p_then ?_
 refine f_cond Z rfl (fun hc1 => ?_) (fun hc1 => ?_)
 ·replace hF := ite_t hc1 hF
  refine wp_seq (f_region Z ?_); clear Z; intro Z
  refine s_runk tHb1 Z 1 rfl rfl ?_; clear Z a; intro a Z
  refine s_end Z [4] rfl ?_; clear Z; intro Z
  refine p_then (wp_ret ?_)
  refine p_blk_r ?_
  refine p_then_r ?_
  obtain rfl := some_in hF
  exact f_ret Z (run_results1 rfl Z rfl) ⟨rfl, I1, (H.sub [] rfl).eq rfl⟩
 ·replace hF := ite_f hc1 hF
  refine wp_seq (f_region Z ?_); clear Z; intro Z
  refine s_runk tHb1 Z 4 rfl rfl ?_; clear Z a; intro a Z
  refine s_end Z [0, 1, 8] rfl ?_; clear Z; intro Z
  refine p_then ?_
  refine f_cond Z rfl (fun hc2 => ?_) (fun hc2 => ?_)
  ·replace hF := ite_t hc2 hF
   refine wp_seq (f_region Z ?_); clear Z; intro Z
   refine s_runk tHb1 Z 1 rfl rfl ?_; clear Z a; intro a Z
   refine s_end Z [4] rfl ?_; clear Z; intro Z
   refine p_then (wp_ret ?_)
   refine p_blk_r ?_
   refine p_then_r ?_
   obtain rfl := some_in hF
   exact f_ret Z (run_results1 rfl Z rfl) ⟨rfl, I1, (H.sub [] rfl).eq rfl⟩
  ·replace hF := ite_f hc2 hF
   refine wp_seq ?_
   cases hF

def F_hub_Hub_Send_1_nil (p1 : ByteArray) (p2 : Int) : Option Int := (F_link_Link_Send_nil p1).bind fun n0 => (some n0)

set_option maxHeartbeats 1000000 in
theorem c_hub_Hub_Send_1_nil {I D : Dm} {b_p1 : Nat} {p1 : ByteArray} {b_p2 : Nat} {p2 : Int} {w : World} {rr : Int} (hF : F_hub_Hub_Send_1_nil p1 p2 = some rr) (H : St I D w [BxC b_p1 9 [.string p1], BxC b_p2 25 [.int .i64 p2]]) :
  Calls Try.prog 13 #[.pointer none, .pointer (some ⟨b_p1, 0, none⟩), .pointer (some ⟨b_p2, 0, none⟩)] w (Ret fun vv w' => vv = .tuple #[] ∧ ∃ I', Hf I D w I' w' [BxC b_p1 9 [.string p1], BxC b_p2 25 [.int .i64 rr]]) := by
 replace H := H.hf
 unfold F_hub_Hub_Send_1_nil at hF
 refine f_enter 7 Try.func13 rfl rfl (Nat.le_of_ble_eq_true rfl) fun a Z => ?_
 replace Z := Z.sub (ts := [0, 1, 2]) rfl
 obtain ⟨n0, hx1, hF⟩ := bnd_in hF
 refine f_region Z ?_; clear Z; intro Z
 refine s_runk tHb1 Z 1 rfl rfl ?_; clear Z a; intro a Z
 refine s_ob Z (v := .string p1) rfl rfl (by decide) rfl (Ob_load tHb1 rfl rfl rfl ((H.bx 0 rfl).cell 0 rfl)) ?_; clear Z a; intro a Z
 refine h_call Z H (js := []) rfl (caps := #[]) fn_14_YHb1 rfl rfl rfl rfl rfl (by decide) rfl rfl (fun D1 hS => have hq := c_link_Link_Send_nil hx1 hS; hq) ?_; clear Z a; intro vv a w1 D2 hr hF2 Z
 obtain ⟨rfl, I1, K⟩ := hr
 have H : Hf I D w I1 w1 [BxC b_p1 9 [.string p1], BxC b_p2 25 [.int .i64 p2]] := hF2 K
 clear hF2 K
 refine h_store tHb1 Z H 1 rfl rfl rfl rfl rfl rfl rfl rfl rfl (one_cons rfl one_nil) (Nat.le_of_ble_eq_true rfl) rfl ?_; clear H; intro w2 H
 dsimp only [List.eraseIdx] at H
 refine s_end Z [] rfl ?_; clear Z; intro Z
 obtain rfl := some_in hF
 exact f_fall Z (run_results0 rfl) ⟨rfl, I1, (H.sub [(1, false), (0, false)] rfl).eq rfl⟩

def F_hub_Hub_Send_1 (l : Elink_Link) (p1 : ByteArray) (p2 : Int) : Option (Elink_Link × Int) := (F_link_Link_Send l p1).bind fun s0 => (some (s0.2, s0.1))

set_option maxHeartbeats 1000000 in
theorem c_hub_Hub_Send_1 {I D : Dm} {b_l : Nat} {l : Elink_Link} {b_p1 : Nat} {p1 : ByteArray} {b_p2 : Nat} {p2 : Int} {w : World} {rr : Elink_Link × Int} (hF : F_hub_Hub_Send_1 l p1 p2 = some rr) (H : St I D w [OElink_Link b_l l, BxC b_p1 9 [.string p1], BxC b_p2 25 [.int .i64 p2]]) :
  Calls Try.prog 13 #[.pointer (some ⟨b_l, 0, none⟩), .pointer (some ⟨b_p1, 0, none⟩), .pointer (some ⟨b_p2, 0, none⟩)] w (Ret fun vv w' => vv = .tuple #[] ∧ ∃ I', Hf I D w I' w' [OElink_Link b_l rr.1, BxC b_p1 9 [.string p1], BxC b_p2 25 [.int .i64 rr.2]]) := by
 replace H := H.hf
 unfold F_hub_Hub_Send_1 at hF
 refine f_enter 7 Try.func13 rfl rfl (Nat.le_of_ble_eq_true rfl) fun a Z => ?_
 replace Z := Z.sub (ts := [0, 1, 2]) rfl
 obtain ⟨s0, hx1, hF⟩ := bnd_in hF
 refine f_region Z ?_; clear Z; intro Z
 refine s_runk tHb1 Z 1 rfl rfl ?_; clear Z a; intro a Z
 refine s_ob Z (v := .string p1) rfl rfl (by decide) rfl (Ob_load tHb1 rfl rfl rfl ((H.bx 1 rfl).cell 0 rfl)) ?_; clear Z a; intro a Z
 refine h_call Z H (js := [(0, false)]) rfl (caps := #[]) fn_14_YHb1 rfl rfl rfl rfl rfl (by decide) rfl rfl (fun D1 hS => have hq := c_link_Link_Send hx1 hS; hq) ?_; clear Z a; intro vv a w1 D2 hr hF2 Z
 obtain ⟨rfl, I1, K⟩ := hr
 have H : Hf I D w I1 w1 [OElink_Link b_l s0.2, BxC b_p1 9 [.string p1], BxC b_p2 25 [.int .i64 p2]] := hF2 K
 clear hF2 K
 refine h_store tHb1 Z H 2 rfl rfl rfl rfl rfl rfl rfl rfl rfl (one_cons rfl one_nil) (Nat.le_of_ble_eq_true rfl) rfl ?_; clear H; intro w2 H
 dsimp only [List.eraseIdx] at H
 refine s_end Z [] rfl ?_; clear Z; intro Z
 obtain rfl := some_in hF
 exact f_fall Z (run_results0 rfl) ⟨rfl, I1, (H.sub [(1, false), (1, false), (0, false)] rfl).eq rfl⟩

def F_hub_Hub_with__hub_Hub_Send_1 (h : Ehub_Hub) (id : Int) (p1 : ByteArray) (p2 : Int) : Option (Bool × Ehub_Hub × Int) := if (id == 0) = true then ((F_hub_Hub_none h).bind fun n0 => (if (((n0 || (decide (id < 0))) || (decide (id ≥ 4))) || ((h.l.getD 0 none).isNone)) = true then (some (false, h, p2)) else (optE (h.l.getD 0 none) ((F_hub_Hub_Send_1_nil p1 p2).bind fun n0_2 => (some (true, ({ h with l := [none, (h.l.getD 1 none), (h.l.getD 2 none), (h.l.getD 3 none)] } : Ehub_Hub), n0_2))) (fun x => (F_hub_Hub_Send_1 x p1 p2).bind fun x0 => (some (true, ({ h with l := [some x0.1, (h.l.getD 1 none), (h.l.getD 2 none), (h.l.getD 3 none)] } : Ehub_Hub), x0.2)))))) else if (id == 1) = true then ((F_hub_Hub_none h).bind fun n0_3 => (if (((n0_3 || (decide (id < 0))) || (decide (id ≥ 4))) || ((h.l.getD 1 none).isNone)) = true then (some (false, h, p2)) else (optE (h.l.getD 1 none) ((F_hub_Hub_Send_1_nil p1 p2).bind fun n0_4 => (some (true, ({ h with l := [(h.l.getD 0 none), none, (h.l.getD 2 none), (h.l.getD 3 none)] } : Ehub_Hub), n0_4))) (fun x_2 => (F_hub_Hub_Send_1 x_2 p1 p2).bind fun x0_2 => (some (true, ({ h with l := [(h.l.getD 0 none), some x0_2.1, (h.l.getD 2 none), (h.l.getD 3 none)] } : Ehub_Hub), x0_2.2)))))) else if (id == 2) = true then ((F_hub_Hub_none h).bind fun n0_5 => (if (((n0_5 || (decide (id < 0))) || (decide (id ≥ 4))) || ((h.l.getD 2 none).isNone)) = true then (some (false, h, p2)) else (optE (h.l.getD 2 none) ((F_hub_Hub_Send_1_nil p1 p2).bind fun n0_6 => (some (true, ({ h with l := [(h.l.getD 0 none), (h.l.getD 1 none), none, (h.l.getD 3 none)] } : Ehub_Hub), n0_6))) (fun x_3 => (F_hub_Hub_Send_1 x_3 p1 p2).bind fun x0_3 => (some (true, ({ h with l := [(h.l.getD 0 none), (h.l.getD 1 none), some x0_3.1, (h.l.getD 3 none)] } : Ehub_Hub), x0_3.2)))))) else if (id == 3) = true then ((F_hub_Hub_none h).bind fun n0_7 => (if (((n0_7 || (decide (id < 0))) || (decide (id ≥ 4))) || ((h.l.getD 3 none).isNone)) = true then (some (false, h, p2)) else (optE (h.l.getD 3 none) ((F_hub_Hub_Send_1_nil p1 p2).bind fun n0_8 => (some (true, ({ h with l := [(h.l.getD 0 none), (h.l.getD 1 none), (h.l.getD 2 none), none] } : Ehub_Hub), n0_8))) (fun x_4 => (F_hub_Hub_Send_1 x_4 p1 p2).bind fun x0_4 => (some (true, ({ h with l := [(h.l.getD 0 none), (h.l.getD 1 none), (h.l.getD 2 none), some x0_4.1] } : Ehub_Hub), x0_4.2)))))) else ((F_hub_Hub_none h).bind fun n0_9 => (chk ((!((n0_9 || (decide (id < 0))) || (decide (id ≥ 4)))) = true → False) (if (((n0_9 || (decide (id < 0))) || (decide (id ≥ 4))) || ((h.l.getD 0 none).isNone)) = true then (some (false, h, p2)) else (none))))

set_option maxHeartbeats 1000000 in
theorem c_hub_Hub_with__hub_Hub_Send_1 {I D : Dm} {b_h : Nat} {h : Ehub_Hub} {id : Int} {b_p1 : Nat} {p1 : ByteArray} {b_p2 : Nat} {p2 : Int} {w : World} {rr : Bool × Ehub_Hub × Int} (hF : F_hub_Hub_with__hub_Hub_Send_1 h id p1 p2 = some rr) (H : St I D w [OEhub_Hub b_h h, BxC b_p1 9 [.string p1], BxC b_p2 25 [.int .i64 p2]]) :
  Calls Try.prog 12 #[.pointer (some ⟨b_h, 0, none⟩), .int .i64 id, .func (.func 13) #[] #[.pointer (some ⟨b_p1, 0, none⟩), .pointer (some ⟨b_p2, 0, none⟩)]] w (Ret fun vv w' => vv = .bool rr.1 ∧ ∃ I', Hf I D w I' w' [OEhub_Hub b_h rr.2.1, BxC b_p1 9 [.string p1], BxC b_p2 25 [.int .i64 rr.2.2]]) := by
 replace H := H.hf
 unfold F_hub_Hub_with__hub_Hub_Send_1 at hF
 refine f_enter 34 Try.func12 rfl rfl (Nat.le_of_ble_eq_true rfl) fun a Z => ?_
 replace Z := Z.sub (ts := [0, 1, 2]) rfl
 refine wp_seq (f_region Z ?_); clear Z; intro Z
 refine s_runk tHb1 Z 1 rfl rfl ?_; clear Z a; intro a Z
 refine s_end Z [0, 1, 2] rfl ?_; clear Z; intro Z
 refine p_then (wp_seq ?_)
 refine wp_seq ?_
 refine bsplit (id == 0) (fun hi1 => ?_) (fun hi1 => ?_)
 ·replace hF := ite_t hi1 hF
  obtain ⟨n0, hx1, hF⟩ := bnd_in hF
  refine f_region Z ?_; clear Z; intro Z
  refine s_runk tHb1 Z 1 rfl rfl ?_; clear Z a; intro a Z
  refine h_call Z H (js := [(0, false)]) rfl (caps := #[]) fn_16_YHb1 rfl rfl rfl rfl rfl (by decide) rfl rfl (fun D1 hS => have hq := c_hub_Hub_none hx1 hS; hq) ?_; clear Z a; intro vv a w1 D2 hr hF2 Z
  obtain ⟨rfl, I1, K⟩ := hr
  have H : Hf I D w I1 w1 [OEhub_Hub b_h h, BxC b_p1 9 [.string p1], BxC b_p2 25 [.int .i64 p2]] := hF2 K
  clear hF2 K
  refine s_runk tHb1 Z 1 rfl rfl ?_; clear Z a; intro a Z
  refine g_ob Z (p := (!n0)) (v := .int .i64 id) (S' := [(1, .int .i64 id)]) rfl rfl rfl (wantB_f _) rfl (by decide) (fun hp hS => hS.sub (ts := [1]) rfl) (fun hp => Ob_c tHb1 rfl) ?_; clear Z a; intro a Z
  refine g_ob Z (p := (!n0)) (v := .bool (decide (id < 0))) (S' := [(10, .int .i64 id)]) rfl rfl rfl (wantB_f _) rfl (by decide) (fun hp hS => (hS.conv (t := 10) rfl (cond_t hp)).sub (ts := [10]) rfl) (fun hp => Ob_c tHb1 rfl) ?_; clear Z a; intro a Z
  refine s_ob Z (v := .bool (n0 || (decide (id < 0)))) rfl rfl (by decide) rfl (Ob_pick rfl rfl rfl rfl (pick_or _ _)) ?_; clear Z a; intro a Z
  refine s_runk tHb1 Z 1 rfl rfl ?_; clear Z a; intro a Z
  refine g_ob Z (p := (!(n0 || (decide (id < 0))))) (v := .int .i64 id) (S' := [(1, .int .i64 id)]) rfl rfl rfl (wantB_f _) rfl (by decide) (fun hp hS => hS.sub (ts := [1]) rfl) (fun hp => Ob_c tHb1 rfl) ?_; clear Z a; intro a Z
  refine g_ob Z (p := (!(n0 || (decide (id < 0))))) (v := .bool (decide (id ≥ 4))) (S' := [(14, .int .i64 id)]) rfl rfl rfl (wantB_f _) rfl (by decide) (fun hp hS => (hS.conv (t := 14) rfl (cond_t hp)).sub (ts := [14]) rfl) (fun hp => Ob_c tHb1 rfl) ?_; clear Z a; intro a Z
  refine s_ob Z (v := .bool ((n0 || (decide (id < 0))) || (decide (id ≥ 4)))) rfl rfl (by decide) rfl (Ob_pick rfl rfl rfl rfl (pick_or _ _)) ?_; clear Z a; intro a Z
  refine s_runk tHb1 Z 1 rfl rfl ?_; clear Z a; intro a Z
  refine g_ob Z (p := (!((n0 || (decide (id < 0))) || (decide (id ≥ 4))))) (v := .pointer (some ⟨b_h, 0, none⟩)) (S' := [(0, .pointer (some ⟨b_h, 0, none⟩))]) rfl rfl rfl (wantB_f _) rfl (by decide) (fun hp hS => hS.sub (ts := [0]) rfl) (fun hp => Ob_c tHb1 rfl) ?_; clear Z a; intro a Z
  refine g_ob Z (p := (!((n0 || (decide (id < 0))) || (decide (id ≥ 4))))) (v := .int .i64 id) (S' := [(1, .int .i64 id)]) rfl rfl rfl (wantB_f _) rfl (by decide) (fun hp hS => hS.sub (ts := [1]) rfl) (fun hp => Ob_c tHb1 rfl) ?_; clear Z a; intro a Z
  refine g_ob Z (p := (!((n0 || (decide (id < 0))) || (decide (id ≥ 4))))) (v := .pointer (some ⟨b_h, 0, none⟩)) (S' := [(18, .pointer (some ⟨b_h, 0, none⟩))]) rfl rfl rfl (wantB_f _) rfl (by decide) (fun hp hS => (hS.conv (t := 18) rfl (cond_t hp)).sub (ts := [18]) rfl) (fun hp => Ob_c tHb1 rfl) ?_; clear Z a; intro a Z
  refine g_ob Z (p := (!((n0 || (decide (id < 0))) || (decide (id ≥ 4))))) (v := .pointer (some ⟨b_h, 0, none⟩)) (S' := [(20, .pointer (some ⟨b_h, 0, none⟩))]) rfl rfl rfl (wantB_f _) rfl (by decide) (fun hp hS => (hS.conv (t := 20) rfl (cond_t hp)).sub (ts := [20]) rfl) (fun hp => Ob_c tHb1 rfl) ?_; clear Z a; intro a Z
  refine g_ob Z (p := (!((n0 || (decide (id < 0))) || (decide (id ≥ 4))))) (v := .pointer (some ⟨b_h, 0, none⟩)) (S' := [(21, .pointer (some ⟨b_h, 0, none⟩)), (19, .int .i64 id)]) rfl rfl rfl (wantB_f _) rfl (by decide) (fun hp hS => ((hS.conv (t := 21) rfl (cond_t hp)).conv (t := 19) rfl (cond_t hp)).sub (ts := [21, 19]) rfl) (fun hp => Ob_apix (m := 1) 0 rfl rfl rfl Try.underlying46 (by kernel_rfl) (eq_of_beq hi1) (by decide)) ?_; clear Z a; intro a Z
  obtain ⟨⟨v1, v2, v3, v4⟩, H⟩ := H.openX 0 rfl
  replace H : Hf I D w I1 w1 [BxC b_h 48 [v1, v2, v3, v4, .bool h.made], PtC OElink_Link v1 (h.l.getD 0 none), PtC OElink_Link v2 (h.l.getD 1 none), PtC OElink_Link v3 (h.l.getD 2 none), PtC OElink_Link v4 (h.l.getD 3 none), BxC b_p1 9 [.string p1], BxC b_p2 25 [.int .i64 p2]] := H
  refine g_ob Z (p := (!((n0 || (decide (id < 0))) || (decide (id ≥ 4))))) (v := v1) (S' := [(22, .pointer (some ⟨b_h, 0, none⟩))]) rfl rfl rfl (wantB_f _) rfl (by decide) (fun hp hS => (hS.conv (t := 22) rfl (cond_t hp)).sub (ts := [22]) rfl) (fun hp => Ob_load tHb1 rfl rfl rfl ((H.bx 0 rfl).cell 0 rfl)) ?_; clear Z a; intro a Z
  refine g_ob Z (p := (!((n0 || (decide (id < 0))) || (decide (id ≥ 4))))) (v := .bool ((h.l.getD 0 none).isNone)) (S' := [(23, v1)]) rfl rfl rfl (wantB_f _) rfl (by decide) (fun hp hS => (hS.conv (t := 23) rfl (cond_t hp)).sub (ts := [23]) rfl) (fun hp => Ob_popt (q := (h.l.getD 0 none)) rfl rfl rfl Try.underlying45 (H.optI 1 rfl) (.inl ⟨rfl, rfl⟩)) ?_; clear Z a; intro a Z
  refine s_ob Z (v := .bool (((n0 || (decide (id < 0))) || (decide (id ≥ 4))) || ((h.l.getD 0 none).isNone))) rfl rfl (by decide) rfl (Ob_pick rfl rfl rfl rfl (pick_or _ _)) ?_; clear Z a; intro a Z
  refine s_end Z [0, 1, 2, 25] rfl ?_; clear Z; intro Z
  refine p_then ?_
  refine f_cond Z rfl (fun hc1 => ?_) (fun hc1 => ?_)
  ·replace hF := ite_t hc1 hF
   refine wp_seq (f_region Z ?_); clear Z; intro Z
   refine s_runk tHb1 Z 1 rfl rfl ?_; clear Z a; intro a Z
   refine s_end Z [6] rfl ?_; clear Z; intro Z
   refine p_then (wp_ret ?_)
   refine p_then_r ?_
   replace H : Hf I D w I1 w1 [OEhub_Hub b_h h, BxC b_p1 9 [.string p1], BxC b_p2 25 [.int .i64 p2]] := H.shutX (v1, v2, v3, v4) [(0, false), (0, false), (0, false), (0, false), (0, false)] rfl
   obtain rfl := some_in hF
   exact f_ret Z (run_results1 rfl Z rfl) ⟨rfl, I1, (H.sub [(0, false), (0, false), (0, false)] rfl).eq rfl⟩
  ·replace hF := ite_f hc1 hF
   refine wp_skip ?_
   refine p_then (wp_seq ?_)
   rcases optE_in hF with ⟨ho1, hF⟩ | ⟨x, ho1, hF⟩
   ·obtain ⟨hv, H⟩ := H.optN 1 rfl ho1
    subst hv
    replace H : Hf I D w I1 w1 [BxC b_h 48 [.pointer none, v2, v3, v4, .bool h.made], PtC OElink_Link v2 (h.l.getD 1 none), PtC OElink_Link v3 (h.l.getD 2 none), PtC OElink_Link v4 (h.l.getD 3 none), BxC b_p1 9 [.string p1], BxC b_p2 25 [.int .i64 p2]] := H
    obtain ⟨n0_2, hx2, hF⟩ := bnd_in hF
    refine f_region Z ?_; clear Z; intro Z
    refine s_runk tHb1 Z 5 rfl rfl ?_; clear Z a; intro a Z
    refine s_ob Z (v := .pointer (some ⟨b_h, 0, none⟩)) rfl rfl (by decide) rfl (Ob_apix (m := 1) 0 rfl rfl rfl Try.underlying46 (by kernel_rfl) (eq_of_beq hi1) (by decide)) ?_; clear Z a; intro a Z
    refine s_ob Z (v := .pointer none) rfl rfl (by decide) rfl (Ob_load tHb1 rfl rfl rfl ((H.bx 0 rfl).cell 0 rfl)) ?_; clear Z a; intro a Z
    refine h_call Z H (js := [(4, false), (4, false)]) rfl (caps := #[.pointer (some ⟨b_p1, 0, none⟩), .pointer (some ⟨b_p2, 0, none⟩)]) fn_13_YHb1 rfl rfl rfl rfl rfl (by decide) rfl rfl (fun D1 hS => have hq := c_hub_Hub_Send_1_nil hx2 hS; hq) ?_; clear Z a; intro vv a w2 D2 hr hF2 Z
    obtain ⟨rfl, I2, K⟩ := hr
    have H : Hf I D w I2 w2 [BxC b_p1 9 [.string p1], BxC b_p2 25 [.int .i64 n0_2], BxC b_h 48 [.pointer none, v2, v3, v4, .bool h.made], PtC OElink_Link v2 (h.l.getD 1 none), PtC OElink_Link v3 (h.l.getD 2 none), PtC OElink_Link v4 (h.l.getD 3 none)] := hF2 K
    clear hF2 K
    refine s_end Z [] rfl ?_; clear Z; intro Z
    refine p_then (wp_seq (f_region Z ?_)); clear Z; intro Z
    refine s_runk tHb1 Z 1 rfl rfl ?_; clear Z a; intro a Z
    refine s_end Z [6] rfl ?_; clear Z; intro Z
    refine p_then (wp_ret ?_)
    replace H : Hf I D w I2 w2 [PtC OElink_Link (.pointer none) none, BxC b_p1 9 [.string p1], BxC b_p2 25 [.int .i64 n0_2], BxC b_h 48 [.pointer none, v2, v3, v4, .bool h.made], PtC OElink_Link v2 (h.l.getD 1 none), PtC OElink_Link v3 (h.l.getD 2 none), PtC OElink_Link v4 (h.l.getD 3 none)] := H.mkN OElink_Link
    replace H : Hf I D w I2 w2 [OEhub_Hub b_h ({ h with l := [none, (h.l.getD 1 none), (h.l.getD 2 none), (h.l.getD 3 none)] } : Ehub_Hub), BxC b_p1 9 [.string p1], BxC b_p2 25 [.int .i64 n0_2]] := H.shutX (.pointer none, v2, v3, v4) [(3, false), (0, false), (2, false), (2, false), (2, false)] rfl
    obtain rfl := some_in hF
    exact f_ret Z (run_results1 rfl Z rfl) ⟨rfl, I2, (H.sub [(0, false), (0, false), (0, false)] rfl).eq rfl⟩
   ·obtain ⟨b1, hv, H⟩ := H.optS 1 rfl ho1
    subst hv
    replace H : Hf I D w I1 w1 [OElink_Link b1 x, BxC b_h 48 [.pointer (some ⟨b1, 0, none⟩), v2, v3, v4, .bool h.made], PtC OElink_Link v2 (h.l.getD 1 none), PtC OElink_Link v3 (h.l.getD 2 none), PtC OElink_Link v4 (h.l.getD 3 none), BxC b_p1 9 [.string p1], BxC b_p2 25 [.int .i64 p2]] := H
    obtain ⟨x0, hx3, hF⟩ := bnd_in hF
    refine f_region Z ?_; clear Z; intro Z
    refine s_runk tHb1 Z 5 rfl rfl ?_; clear Z a; intro a Z
    refine s_ob Z (v := .pointer (some ⟨b_h, 0, none⟩)) rfl rfl (by decide) rfl (Ob_apix (m := 1) 0 rfl rfl rfl Try.underlying46 (by kernel_rfl) (eq_of_beq hi1) (by decide)) ?_; clear Z a; intro a Z
    refine s_ob Z (v := .pointer (some ⟨b1, 0, none⟩)) rfl rfl (by decide) rfl (Ob_load tHb1 rfl rfl rfl ((H.bx 1 rfl).cell 0 rfl)) ?_; clear Z a; intro a Z
    refine h_call Z H (js := [(0, false), (4, false), (4, false)]) rfl (caps := #[.pointer (some ⟨b_p1, 0, none⟩), .pointer (some ⟨b_p2, 0, none⟩)]) fn_13_YHb1 rfl rfl rfl rfl rfl (by decide) rfl rfl (fun D1 hS => have hq := c_hub_Hub_Send_1 hx3 hS; hq) ?_; clear Z a; intro vv a w3 D2 hr hF2 Z
    obtain ⟨rfl, I3, K⟩ := hr
    have H : Hf I D w I3 w3 [OElink_Link b1 x0.1, BxC b_p1 9 [.string p1], BxC b_p2 25 [.int .i64 x0.2], BxC b_h 48 [.pointer (some ⟨b1, 0, none⟩), v2, v3, v4, .bool h.made], PtC OElink_Link v2 (h.l.getD 1 none), PtC OElink_Link v3 (h.l.getD 2 none), PtC OElink_Link v4 (h.l.getD 3 none)] := hF2 K
    clear hF2 K
    refine s_end Z [] rfl ?_; clear Z; intro Z
    refine p_then (wp_seq (f_region Z ?_)); clear Z; intro Z
    refine s_runk tHb1 Z 1 rfl rfl ?_; clear Z a; intro a Z
    refine s_end Z [6] rfl ?_; clear Z; intro Z
    refine p_then (wp_ret ?_)
    replace H : Hf I D w I3 w3 [PtC OElink_Link (.pointer (some ⟨b1, 0, none⟩)) (some x0.1), BxC b_p1 9 [.string p1], BxC b_p2 25 [.int .i64 x0.2], BxC b_h 48 [.pointer (some ⟨b1, 0, none⟩), v2, v3, v4, .bool h.made], PtC OElink_Link v2 (h.l.getD 1 none), PtC OElink_Link v3 (h.l.getD 2 none), PtC OElink_Link v4 (h.l.getD 3 none)] := H.mkS (K := OElink_Link) 0 rfl
    replace H : Hf I D w I3 w3 [OEhub_Hub b_h ({ h with l := [some x0.1, (h.l.getD 1 none), (h.l.getD 2 none), (h.l.getD 3 none)] } : Ehub_Hub), BxC b_p1 9 [.string p1], BxC b_p2 25 [.int .i64 x0.2]] := H.shutX (.pointer (some ⟨b1, 0, none⟩), v2, v3, v4) [(3, false), (0, false), (2, false), (2, false), (2, false)] rfl
    obtain rfl := some_in hF
    exact f_ret Z (run_results1 rfl Z rfl) ⟨rfl, I3, (H.sub [(0, false), (0, false), (0, false)] rfl).eq rfl⟩
 replace hF := ite_f hi1 hF
 refine bsplit (id == 1) (fun hi2 => ?_) (fun hi2 => ?_)
 ·replace hF := ite_t hi2 hF
  obtain ⟨n0_3, hx4, hF⟩ := bnd_in hF
  refine f_region Z ?_; clear Z; intro Z
  refine s_runk tHb1 Z 1 rfl rfl ?_; clear Z a; intro a Z
  refine h_call Z H (js := [(0, false)]) rfl (caps := #[]) fn_16_YHb1 rfl rfl rfl rfl rfl (by decide) rfl rfl (fun D1 hS => have hq := c_hub_Hub_none hx4 hS; hq) ?_; clear Z a; intro vv a w4 D2 hr hF2 Z
  obtain ⟨rfl, I4, K⟩ := hr
  have H : Hf I D w I4 w4 [OEhub_Hub b_h h, BxC b_p1 9 [.string p1], BxC b_p2 25 [.int .i64 p2]] := hF2 K
  clear hF2 K
  refine s_runk tHb1 Z 1 rfl rfl ?_; clear Z a; intro a Z
  refine g_ob Z (p := (!n0_3)) (v := .int .i64 id) (S' := [(1, .int .i64 id)]) rfl rfl rfl (wantB_f _) rfl (by decide) (fun hp hS => hS.sub (ts := [1]) rfl) (fun hp => Ob_c tHb1 rfl) ?_; clear Z a; intro a Z
  refine g_ob Z (p := (!n0_3)) (v := .bool (decide (id < 0))) (S' := [(10, .int .i64 id)]) rfl rfl rfl (wantB_f _) rfl (by decide) (fun hp hS => (hS.conv (t := 10) rfl (cond_t hp)).sub (ts := [10]) rfl) (fun hp => Ob_c tHb1 rfl) ?_; clear Z a; intro a Z
  refine s_ob Z (v := .bool (n0_3 || (decide (id < 0)))) rfl rfl (by decide) rfl (Ob_pick rfl rfl rfl rfl (pick_or _ _)) ?_; clear Z a; intro a Z
  refine s_runk tHb1 Z 1 rfl rfl ?_; clear Z a; intro a Z
  refine g_ob Z (p := (!(n0_3 || (decide (id < 0))))) (v := .int .i64 id) (S' := [(1, .int .i64 id)]) rfl rfl rfl (wantB_f _) rfl (by decide) (fun hp hS => hS.sub (ts := [1]) rfl) (fun hp => Ob_c tHb1 rfl) ?_; clear Z a; intro a Z
  refine g_ob Z (p := (!(n0_3 || (decide (id < 0))))) (v := .bool (decide (id ≥ 4))) (S' := [(14, .int .i64 id)]) rfl rfl rfl (wantB_f _) rfl (by decide) (fun hp hS => (hS.conv (t := 14) rfl (cond_t hp)).sub (ts := [14]) rfl) (fun hp => Ob_c tHb1 rfl) ?_; clear Z a; intro a Z
  refine s_ob Z (v := .bool ((n0_3 || (decide (id < 0))) || (decide (id ≥ 4)))) rfl rfl (by decide) rfl (Ob_pick rfl rfl rfl rfl (pick_or _ _)) ?_; clear Z a; intro a Z
  refine s_runk tHb1 Z 1 rfl rfl ?_; clear Z a; intro a Z
  refine g_ob Z (p := (!((n0_3 || (decide (id < 0))) || (decide (id ≥ 4))))) (v := .pointer (some ⟨b_h, 0, none⟩)) (S' := [(0, .pointer (some ⟨b_h, 0, none⟩))]) rfl rfl rfl (wantB_f _) rfl (by decide) (fun hp hS => hS.sub (ts := [0]) rfl) (fun hp => Ob_c tHb1 rfl) ?_; clear Z a; intro a Z
  refine g_ob Z (p := (!((n0_3 || (decide (id < 0))) || (decide (id ≥ 4))))) (v := .int .i64 id) (S' := [(1, .int .i64 id)]) rfl rfl rfl (wantB_f _) rfl (by decide) (fun hp hS => hS.sub (ts := [1]) rfl) (fun hp => Ob_c tHb1 rfl) ?_; clear Z a; intro a Z
  refine g_ob Z (p := (!((n0_3 || (decide (id < 0))) || (decide (id ≥ 4))))) (v := .pointer (some ⟨b_h, 0, none⟩)) (S' := [(18, .pointer (some ⟨b_h, 0, none⟩))]) rfl rfl rfl (wantB_f _) rfl (by decide) (fun hp hS => (hS.conv (t := 18) rfl (cond_t hp)).sub (ts := [18]) rfl) (fun hp => Ob_c tHb1 rfl) ?_; clear Z a; intro a Z
  refine g_ob Z (p := (!((n0_3 || (decide (id < 0))) || (decide (id ≥ 4))))) (v := .pointer (some ⟨b_h, 0, none⟩)) (S' := [(20, .pointer (some ⟨b_h, 0, none⟩))]) rfl rfl rfl (wantB_f _) rfl (by decide) (fun hp hS => (hS.conv (t := 20) rfl (cond_t hp)).sub (ts := [20]) rfl) (fun hp => Ob_c tHb1 rfl) ?_; clear Z a; intro a Z
  refine g_ob Z (p := (!((n0_3 || (decide (id < 0))) || (decide (id ≥ 4))))) (v := .pointer (some ⟨b_h, 1, none⟩)) (S' := [(21, .pointer (some ⟨b_h, 0, none⟩)), (19, .int .i64 id)]) rfl rfl rfl (wantB_f _) rfl (by decide) (fun hp hS => ((hS.conv (t := 21) rfl (cond_t hp)).conv (t := 19) rfl (cond_t hp)).sub (ts := [21, 19]) rfl) (fun hp => Ob_apix (m := 1) 1 rfl rfl rfl Try.underlying46 (by kernel_rfl) (eq_of_beq hi2) (by decide)) ?_; clear Z a; intro a Z
  obtain ⟨⟨v5, v6, v7, v8⟩, H⟩ := H.openX 0 rfl
  replace H : Hf I D w I4 w4 [BxC b_h 48 [v5, v6, v7, v8, .bool h.made], PtC OElink_Link v5 (h.l.getD 0 none), PtC OElink_Link v6 (h.l.getD 1 none), PtC OElink_Link v7 (h.l.getD 2 none), PtC OElink_Link v8 (h.l.getD 3 none), BxC b_p1 9 [.string p1], BxC b_p2 25 [.int .i64 p2]] := H
  refine g_ob Z (p := (!((n0_3 || (decide (id < 0))) || (decide (id ≥ 4))))) (v := v6) (S' := [(22, .pointer (some ⟨b_h, 1, none⟩))]) rfl rfl rfl (wantB_f _) rfl (by decide) (fun hp hS => (hS.conv (t := 22) rfl (cond_t hp)).sub (ts := [22]) rfl) (fun hp => Ob_load tHb1 rfl rfl rfl ((H.bx 0 rfl).cell 1 rfl)) ?_; clear Z a; intro a Z
  refine g_ob Z (p := (!((n0_3 || (decide (id < 0))) || (decide (id ≥ 4))))) (v := .bool ((h.l.getD 1 none).isNone)) (S' := [(23, v6)]) rfl rfl rfl (wantB_f _) rfl (by decide) (fun hp hS => (hS.conv (t := 23) rfl (cond_t hp)).sub (ts := [23]) rfl) (fun hp => Ob_popt (q := (h.l.getD 1 none)) rfl rfl rfl Try.underlying45 (H.optI 2 rfl) (.inl ⟨rfl, rfl⟩)) ?_; clear Z a; intro a Z
  refine s_ob Z (v := .bool (((n0_3 || (decide (id < 0))) || (decide (id ≥ 4))) || ((h.l.getD 1 none).isNone))) rfl rfl (by decide) rfl (Ob_pick rfl rfl rfl rfl (pick_or _ _)) ?_; clear Z a; intro a Z
  refine s_end Z [0, 1, 2, 25] rfl ?_; clear Z; intro Z
  refine p_then ?_
  refine f_cond Z rfl (fun hc2 => ?_) (fun hc2 => ?_)
  ·replace hF := ite_t hc2 hF
   refine wp_seq (f_region Z ?_); clear Z; intro Z
   refine s_runk tHb1 Z 1 rfl rfl ?_; clear Z a; intro a Z
   refine s_end Z [6] rfl ?_; clear Z; intro Z
   refine p_then (wp_ret ?_)
   refine p_then_r ?_
   replace H : Hf I D w I4 w4 [OEhub_Hub b_h h, BxC b_p1 9 [.string p1], BxC b_p2 25 [.int .i64 p2]] := H.shutX (v5, v6, v7, v8) [(0, false), (0, false), (0, false), (0, false), (0, false)] rfl
   obtain rfl := some_in hF
   exact f_ret Z (run_results1 rfl Z rfl) ⟨rfl, I4, (H.sub [(0, false), (0, false), (0, false)] rfl).eq rfl⟩
  ·replace hF := ite_f hc2 hF
   refine wp_skip ?_
   refine p_then (wp_seq ?_)
   rcases optE_in hF with ⟨ho2, hF⟩ | ⟨x_2, ho2, hF⟩
   ·obtain ⟨hv, H⟩ := H.optN 2 rfl ho2
    subst hv
    replace H : Hf I D w I4 w4 [BxC b_h 48 [v5, .pointer none, v7, v8, .bool h.made], PtC OElink_Link v5 (h.l.getD 0 none), PtC OElink_Link v7 (h.l.getD 2 none), PtC OElink_Link v8 (h.l.getD 3 none), BxC b_p1 9 [.string p1], BxC b_p2 25 [.int .i64 p2]] := H
    obtain ⟨n0_4, hx5, hF⟩ := bnd_in hF
    refine f_region Z ?_; clear Z; intro Z
    refine s_runk tHb1 Z 5 rfl rfl ?_; clear Z a; intro a Z
    refine s_ob Z (v := .pointer (some ⟨b_h, 1, none⟩)) rfl rfl (by decide) rfl (Ob_apix (m := 1) 1 rfl rfl rfl Try.underlying46 (by kernel_rfl) (eq_of_beq hi2) (by decide)) ?_; clear Z a; intro a Z
    refine s_ob Z (v := .pointer none) rfl rfl (by decide) rfl (Ob_load tHb1 rfl rfl rfl ((H.bx 0 rfl).cell 1 rfl)) ?_; clear Z a; intro a Z
    refine h_call Z H (js := [(4, false), (4, false)]) rfl (caps := #[.pointer (some ⟨b_p1, 0, none⟩), .pointer (some ⟨b_p2, 0, none⟩)]) fn_13_YHb1 rfl rfl rfl rfl rfl (by decide) rfl rfl (fun D1 hS => have hq := c_hub_Hub_Send_1_nil hx5 hS; hq) ?_; clear Z a; intro vv a w5 D2 hr hF2 Z
    obtain ⟨rfl, I5, K⟩ := hr
    have H : Hf I D w I5 w5 [BxC b_p1 9 [.string p1], BxC b_p2 25 [.int .i64 n0_4], BxC b_h 48 [v5, .pointer none, v7, v8, .bool h.made], PtC OElink_Link v5 (h.l.getD 0 none), PtC OElink_Link v7 (h.l.getD 2 none), PtC OElink_Link v8 (h.l.getD 3 none)] := hF2 K
    clear hF2 K
    refine s_end Z [] rfl ?_; clear Z; intro Z
    refine p_then (wp_seq (f_region Z ?_)); clear Z; intro Z
    refine s_runk tHb1 Z 1 rfl rfl ?_; clear Z a; intro a Z
    refine s_end Z [6] rfl ?_; clear Z; intro Z
    refine p_then (wp_ret ?_)
    replace H : Hf I D w I5 w5 [PtC OElink_Link (.pointer none) none, BxC b_p1 9 [.string p1], BxC b_p2 25 [.int .i64 n0_4], BxC b_h 48 [v5, .pointer none, v7, v8, .bool h.made], PtC OElink_Link v5 (h.l.getD 0 none), PtC OElink_Link v7 (h.l.getD 2 none), PtC OElink_Link v8 (h.l.getD 3 none)] := H.mkN OElink_Link
    replace H : Hf I D w I5 w5 [OEhub_Hub b_h ({ h with l := [(h.l.getD 0 none), none, (h.l.getD 2 none), (h.l.getD 3 none)] } : Ehub_Hub), BxC b_p1 9 [.string p1], BxC b_p2 25 [.int .i64 n0_4]] := H.shutX (v5, .pointer none, v7, v8) [(3, false), (3, false), (0, false), (2, false), (2, false)] rfl
    obtain rfl := some_in hF
    exact f_ret Z (run_results1 rfl Z rfl) ⟨rfl, I5, (H.sub [(0, false), (0, false), (0, false)] rfl).eq rfl⟩
   ·obtain ⟨b2, hv, H⟩ := H.optS 2 rfl ho2
    subst hv
    replace H : Hf I D w I4 w4 [OElink_Link b2 x_2, BxC b_h 48 [v5, .pointer (some ⟨b2, 0, none⟩), v7, v8, .bool h.made], PtC OElink_Link v5 (h.l.getD 0 none), PtC OElink_Link v7 (h.l.getD 2 none), PtC OElink_Link v8 (h.l.getD 3 none), BxC b_p1 9 [.string p1], BxC b_p2 25 [.int .i64 p2]] := H
    obtain ⟨x0_2, hx6, hF⟩ := bnd_in hF
    refine f_region Z ?_; clear Z; intro Z
    refine s_runk tHb1 Z 5 rfl rfl ?_; clear Z a; intro a Z
    refine s_ob Z (v := .pointer (some ⟨b_h, 1, none⟩)) rfl rfl (by decide) rfl (Ob_apix (m := 1) 1 rfl rfl rfl Try.underlying46 (by kernel_rfl) (eq_of_beq hi2) (by decide)) ?_; clear Z a; intro a Z
    refine s_ob Z (v := .pointer (some ⟨b2, 0, none⟩)) rfl rfl (by decide) rfl (Ob_load tHb1 rfl rfl rfl ((H.bx 1 rfl).cell 1 rfl)) ?_; clear Z a; intro a Z
    refine h_call Z H (js := [(0, false), (4, false), (4, false)]) rfl (caps := #[.pointer (some ⟨b_p1, 0, none⟩), .pointer (some ⟨b_p2, 0, none⟩)]) fn_13_YHb1 rfl rfl rfl rfl rfl (by decide) rfl rfl (fun D1 hS => have hq := c_hub_Hub_Send_1 hx6 hS; hq) ?_; clear Z a; intro vv a w6 D2 hr hF2 Z
    obtain ⟨rfl, I6, K⟩ := hr
    have H : Hf I D w I6 w6 [OElink_Link b2 x0_2.1, BxC b_p1 9 [.string p1], BxC b_p2 25 [.int .i64 x0_2.2], BxC b_h 48 [v5, .pointer (some ⟨b2, 0, none⟩), v7, v8, .bool h.made], PtC OElink_Link v5 (h.l.getD 0 none), PtC OElink_Link v7 (h.l.getD 2 none), PtC OElink_Link v8 (h.l.getD 3 none)] := hF2 K
    clear hF2 K
    refine s_end Z [] rfl ?_; clear Z; intro Z
    refine p_then (wp_seq (f_region Z ?_)); clear Z; intro Z
    refine s_runk tHb1 Z 1 rfl rfl ?_; clear Z a; intro a Z
    refine s_end Z [6] rfl ?_; clear Z; intro Z
    refine p_then (wp_ret ?_)
    replace H : Hf I D w I6 w6 [PtC OElink_Link (.pointer (some ⟨b2, 0, none⟩)) (some x0_2.1), BxC b_p1 9 [.string p1], BxC b_p2 25 [.int .i64 x0_2.2], BxC b_h 48 [v5, .pointer (some ⟨b2, 0, none⟩), v7, v8, .bool h.made], PtC OElink_Link v5 (h.l.getD 0 none), PtC OElink_Link v7 (h.l.getD 2 none), PtC OElink_Link v8 (h.l.getD 3 none)] := H.mkS (K := OElink_Link) 0 rfl
    replace H : Hf I D w I6 w6 [OEhub_Hub b_h ({ h with l := [(h.l.getD 0 none), some x0_2.1, (h.l.getD 2 none), (h.l.getD 3 none)] } : Ehub_Hub), BxC b_p1 9 [.string p1], BxC b_p2 25 [.int .i64 x0_2.2]] := H.shutX (v5, .pointer (some ⟨b2, 0, none⟩), v7, v8) [(3, false), (3, false), (0, false), (2, false), (2, false)] rfl
    obtain rfl := some_in hF
    exact f_ret Z (run_results1 rfl Z rfl) ⟨rfl, I6, (H.sub [(0, false), (0, false), (0, false)] rfl).eq rfl⟩
 replace hF := ite_f hi2 hF
 refine bsplit (id == 2) (fun hi3 => ?_) (fun hi3 => ?_)
 ·replace hF := ite_t hi3 hF
  obtain ⟨n0_5, hx7, hF⟩ := bnd_in hF
  refine f_region Z ?_; clear Z; intro Z
  refine s_runk tHb1 Z 1 rfl rfl ?_; clear Z a; intro a Z
  refine h_call Z H (js := [(0, false)]) rfl (caps := #[]) fn_16_YHb1 rfl rfl rfl rfl rfl (by decide) rfl rfl (fun D1 hS => have hq := c_hub_Hub_none hx7 hS; hq) ?_; clear Z a; intro vv a w7 D2 hr hF2 Z
  obtain ⟨rfl, I7, K⟩ := hr
  have H : Hf I D w I7 w7 [OEhub_Hub b_h h, BxC b_p1 9 [.string p1], BxC b_p2 25 [.int .i64 p2]] := hF2 K
  clear hF2 K
  refine s_runk tHb1 Z 1 rfl rfl ?_; clear Z a; intro a Z
  refine g_ob Z (p := (!n0_5)) (v := .int .i64 id) (S' := [(1, .int .i64 id)]) rfl rfl rfl (wantB_f _) rfl (by decide) (fun hp hS => hS.sub (ts := [1]) rfl) (fun hp => Ob_c tHb1 rfl) ?_; clear Z a; intro a Z
  refine g_ob Z (p := (!n0_5)) (v := .bool (decide (id < 0))) (S' := [(10, .int .i64 id)]) rfl rfl rfl (wantB_f _) rfl (by decide) (fun hp hS => (hS.conv (t := 10) rfl (cond_t hp)).sub (ts := [10]) rfl) (fun hp => Ob_c tHb1 rfl) ?_; clear Z a; intro a Z
  refine s_ob Z (v := .bool (n0_5 || (decide (id < 0)))) rfl rfl (by decide) rfl (Ob_pick rfl rfl rfl rfl (pick_or _ _)) ?_; clear Z a; intro a Z
  refine s_runk tHb1 Z 1 rfl rfl ?_; clear Z a; intro a Z
  refine g_ob Z (p := (!(n0_5 || (decide (id < 0))))) (v := .int .i64 id) (S' := [(1, .int .i64 id)]) rfl rfl rfl (wantB_f _) rfl (by decide) (fun hp hS => hS.sub (ts := [1]) rfl) (fun hp => Ob_c tHb1 rfl) ?_; clear Z a; intro a Z
  refine g_ob Z (p := (!(n0_5 || (decide (id < 0))))) (v := .bool (decide (id ≥ 4))) (S' := [(14, .int .i64 id)]) rfl rfl rfl (wantB_f _) rfl (by decide) (fun hp hS => (hS.conv (t := 14) rfl (cond_t hp)).sub (ts := [14]) rfl) (fun hp => Ob_c tHb1 rfl) ?_; clear Z a; intro a Z
  refine s_ob Z (v := .bool ((n0_5 || (decide (id < 0))) || (decide (id ≥ 4)))) rfl rfl (by decide) rfl (Ob_pick rfl rfl rfl rfl (pick_or _ _)) ?_; clear Z a; intro a Z
  refine s_runk tHb1 Z 1 rfl rfl ?_; clear Z a; intro a Z
  refine g_ob Z (p := (!((n0_5 || (decide (id < 0))) || (decide (id ≥ 4))))) (v := .pointer (some ⟨b_h, 0, none⟩)) (S' := [(0, .pointer (some ⟨b_h, 0, none⟩))]) rfl rfl rfl (wantB_f _) rfl (by decide) (fun hp hS => hS.sub (ts := [0]) rfl) (fun hp => Ob_c tHb1 rfl) ?_; clear Z a; intro a Z
  refine g_ob Z (p := (!((n0_5 || (decide (id < 0))) || (decide (id ≥ 4))))) (v := .int .i64 id) (S' := [(1, .int .i64 id)]) rfl rfl rfl (wantB_f _) rfl (by decide) (fun hp hS => hS.sub (ts := [1]) rfl) (fun hp => Ob_c tHb1 rfl) ?_; clear Z a; intro a Z
  refine g_ob Z (p := (!((n0_5 || (decide (id < 0))) || (decide (id ≥ 4))))) (v := .pointer (some ⟨b_h, 0, none⟩)) (S' := [(18, .pointer (some ⟨b_h, 0, none⟩))]) rfl rfl rfl (wantB_f _) rfl (by decide) (fun hp hS => (hS.conv (t := 18) rfl (cond_t hp)).sub (ts := [18]) rfl) (fun hp => Ob_c tHb1 rfl) ?_; clear Z a; intro a Z
  refine g_ob Z (p := (!((n0_5 || (decide (id < 0))) || (decide (id ≥ 4))))) (v := .pointer (some ⟨b_h, 0, none⟩)) (S' := [(20, .pointer (some ⟨b_h, 0, none⟩))]) rfl rfl rfl (wantB_f _) rfl (by decide) (fun hp hS => (hS.conv (t := 20) rfl (cond_t hp)).sub (ts := [20]) rfl) (fun hp => Ob_c tHb1 rfl) ?_; clear Z a; intro a Z
  refine g_ob Z (p := (!((n0_5 || (decide (id < 0))) || (decide (id ≥ 4))))) (v := .pointer (some ⟨b_h, 2, none⟩)) (S' := [(21, .pointer (some ⟨b_h, 0, none⟩)), (19, .int .i64 id)]) rfl rfl rfl (wantB_f _) rfl (by decide) (fun hp hS => ((hS.conv (t := 21) rfl (cond_t hp)).conv (t := 19) rfl (cond_t hp)).sub (ts := [21, 19]) rfl) (fun hp => Ob_apix (m := 1) 2 rfl rfl rfl Try.underlying46 (by kernel_rfl) (eq_of_beq hi3) (by decide)) ?_; clear Z a; intro a Z
  obtain ⟨⟨v9, v10, v11, v12⟩, H⟩ := H.openX 0 rfl
  replace H : Hf I D w I7 w7 [BxC b_h 48 [v9, v10, v11, v12, .bool h.made], PtC OElink_Link v9 (h.l.getD 0 none), PtC OElink_Link v10 (h.l.getD 1 none), PtC OElink_Link v11 (h.l.getD 2 none), PtC OElink_Link v12 (h.l.getD 3 none), BxC b_p1 9 [.string p1], BxC b_p2 25 [.int .i64 p2]] := H
  refine g_ob Z (p := (!((n0_5 || (decide (id < 0))) || (decide (id ≥ 4))))) (v := v11) (S' := [(22, .pointer (some ⟨b_h, 2, none⟩))]) rfl rfl rfl (wantB_f _) rfl (by decide) (fun hp hS => (hS.conv (t := 22) rfl (cond_t hp)).sub (ts := [22]) rfl) (fun hp => Ob_load tHb1 rfl rfl rfl ((H.bx 0 rfl).cell 2 rfl)) ?_; clear Z a; intro a Z
  refine g_ob Z (p := (!((n0_5 || (decide (id < 0))) || (decide (id ≥ 4))))) (v := .bool ((h.l.getD 2 none).isNone)) (S' := [(23, v11)]) rfl rfl rfl (wantB_f _) rfl (by decide) (fun hp hS => (hS.conv (t := 23) rfl (cond_t hp)).sub (ts := [23]) rfl) (fun hp => Ob_popt (q := (h.l.getD 2 none)) rfl rfl rfl Try.underlying45 (H.optI 3 rfl) (.inl ⟨rfl, rfl⟩)) ?_; clear Z a; intro a Z
  refine s_ob Z (v := .bool (((n0_5 || (decide (id < 0))) || (decide (id ≥ 4))) || ((h.l.getD 2 none).isNone))) rfl rfl (by decide) rfl (Ob_pick rfl rfl rfl rfl (pick_or _ _)) ?_; clear Z a; intro a Z
  refine s_end Z [0, 1, 2, 25] rfl ?_; clear Z; intro Z
  refine p_then ?_
  refine f_cond Z rfl (fun hc3 => ?_) (fun hc3 => ?_)
  ·replace hF := ite_t hc3 hF
   refine wp_seq (f_region Z ?_); clear Z; intro Z
   refine s_runk tHb1 Z 1 rfl rfl ?_; clear Z a; intro a Z
   refine s_end Z [6] rfl ?_; clear Z; intro Z
   refine p_then (wp_ret ?_)
   refine p_then_r ?_
   replace H : Hf I D w I7 w7 [OEhub_Hub b_h h, BxC b_p1 9 [.string p1], BxC b_p2 25 [.int .i64 p2]] := H.shutX (v9, v10, v11, v12) [(0, false), (0, false), (0, false), (0, false), (0, false)] rfl
   obtain rfl := some_in hF
   exact f_ret Z (run_results1 rfl Z rfl) ⟨rfl, I7, (H.sub [(0, false), (0, false), (0, false)] rfl).eq rfl⟩
  ·replace hF := ite_f hc3 hF
   refine wp_skip ?_
   refine p_then (wp_seq ?_)
   rcases optE_in hF with ⟨ho3, hF⟩ | ⟨x_3, ho3, hF⟩
   ·obtain ⟨hv, H⟩ := H.optN 3 rfl ho3
    subst hv
    replace H : Hf I D w I7 w7 [BxC b_h 48 [v9, v10, .pointer none, v12, .bool h.made], PtC OElink_Link v9 (h.l.getD 0 none), PtC OElink_Link v10 (h.l.getD 1 none), PtC OElink_Link v12 (h.l.getD 3 none), BxC b_p1 9 [.string p1], BxC b_p2 25 [.int .i64 p2]] := H
    obtain ⟨n0_6, hx8, hF⟩ := bnd_in hF
    refine f_region Z ?_; clear Z; intro Z
    refine s_runk tHb1 Z 5 rfl rfl ?_; clear Z a; intro a Z
    refine s_ob Z (v := .pointer (some ⟨b_h, 2, none⟩)) rfl rfl (by decide) rfl (Ob_apix (m := 1) 2 rfl rfl rfl Try.underlying46 (by kernel_rfl) (eq_of_beq hi3) (by decide)) ?_; clear Z a; intro a Z
    refine s_ob Z (v := .pointer none) rfl rfl (by decide) rfl (Ob_load tHb1 rfl rfl rfl ((H.bx 0 rfl).cell 2 rfl)) ?_; clear Z a; intro a Z
    refine h_call Z H (js := [(4, false), (4, false)]) rfl (caps := #[.pointer (some ⟨b_p1, 0, none⟩), .pointer (some ⟨b_p2, 0, none⟩)]) fn_13_YHb1 rfl rfl rfl rfl rfl (by decide) rfl rfl (fun D1 hS => have hq := c_hub_Hub_Send_1_nil hx8 hS; hq) ?_; clear Z a; intro vv a w8 D2 hr hF2 Z
    obtain ⟨rfl, I8, K⟩ := hr
    have H : Hf I D w I8 w8 [BxC b_p1 9 [.string p1], BxC b_p2 25 [.int .i64 n0_6], BxC b_h 48 [v9, v10, .pointer none, v12, .bool h.made], PtC OElink_Link v9 (h.l.getD 0 none), PtC OElink_Link v10 (h.l.getD 1 none), PtC OElink_Link v12 (h.l.getD 3 none)] := hF2 K
    clear hF2 K
    refine s_end Z [] rfl ?_; clear Z; intro Z
    refine p_then (wp_seq (f_region Z ?_)); clear Z; intro Z
    refine s_runk tHb1 Z 1 rfl rfl ?_; clear Z a; intro a Z
    refine s_end Z [6] rfl ?_; clear Z; intro Z
    refine p_then (wp_ret ?_)
    replace H : Hf I D w I8 w8 [PtC OElink_Link (.pointer none) none, BxC b_p1 9 [.string p1], BxC b_p2 25 [.int .i64 n0_6], BxC b_h 48 [v9, v10, .pointer none, v12, .bool h.made], PtC OElink_Link v9 (h.l.getD 0 none), PtC OElink_Link v10 (h.l.getD 1 none), PtC OElink_Link v12 (h.l.getD 3 none)] := H.mkN OElink_Link
    replace H : Hf I D w I8 w8 [OEhub_Hub b_h ({ h with l := [(h.l.getD 0 none), (h.l.getD 1 none), none, (h.l.getD 3 none)] } : Ehub_Hub), BxC b_p1 9 [.string p1], BxC b_p2 25 [.int .i64 n0_6]] := H.shutX (v9, v10, .pointer none, v12) [(3, false), (3, false), (3, false), (0, false), (2, false)] rfl
    obtain rfl := some_in hF
    exact f_ret Z (run_results1 rfl Z rfl) ⟨rfl, I8, (H.sub [(0, false), (0, false), (0, false)] rfl).eq rfl⟩
   ·obtain ⟨b3, hv, H⟩ := H.optS 3 rfl ho3
    subst hv
    replace H : Hf I D w I7 w7 [OElink_Link b3 x_3, BxC b_h 48 [v9, v10, .pointer (some ⟨b3, 0, none⟩), v12, .bool h.made], PtC OElink_Link v9 (h.l.getD 0 none), PtC OElink_Link v10 (h.l.getD 1 none), PtC OElink_Link v12 (h.l.getD 3 none), BxC b_p1 9 [.string p1], BxC b_p2 25 [.int .i64 p2]] := H
    obtain ⟨x0_3, hx9, hF⟩ := bnd_in hF
    refine f_region Z ?_; clear Z; intro Z
    refine s_runk tHb1 Z 5 rfl rfl ?_; clear Z a; intro a Z
    refine s_ob Z (v := .pointer (some ⟨b_h, 2, none⟩)) rfl rfl (by decide) rfl (Ob_apix (m := 1) 2 rfl rfl rfl Try.underlying46 (by kernel_rfl) (eq_of_beq hi3) (by decide)) ?_; clear Z a; intro a Z
    refine s_ob Z (v := .pointer (some ⟨b3, 0, none⟩)) rfl rfl (by decide) rfl (Ob_load tHb1 rfl rfl rfl ((H.bx 1 rfl).cell 2 rfl)) ?_; clear Z a; intro a Z
    refine h_call Z H (js := [(0, false), (4, false), (4, false)]) rfl (caps := #[.pointer (some ⟨b_p1, 0, none⟩), .pointer (some ⟨b_p2, 0, none⟩)]) fn_13_YHb1 rfl rfl rfl rfl rfl (by decide) rfl rfl (fun D1 hS => have hq := c_hub_Hub_Send_1 hx9 hS; hq) ?_; clear Z a; intro vv a w9 D2 hr hF2 Z
    obtain ⟨rfl, I9, K⟩ := hr
    have H : Hf I D w I9 w9 [OElink_Link b3 x0_3.1, BxC b_p1 9 [.string p1], BxC b_p2 25 [.int .i64 x0_3.2], BxC b_h 48 [v9, v10, .pointer (some ⟨b3, 0, none⟩), v12, .bool h.made], PtC OElink_Link v9 (h.l.getD 0 none), PtC OElink_Link v10 (h.l.getD 1 none), PtC OElink_Link v12 (h.l.getD 3 none)] := hF2 K
    clear hF2 K
    refine s_end Z [] rfl ?_; clear Z; intro Z
    refine p_then (wp_seq (f_region Z ?_)); clear Z; intro Z
    refine s_runk tHb1 Z 1 rfl rfl ?_; clear Z a; intro a Z
    refine s_end Z [6] rfl ?_; clear Z; intro Z
    refine p_then (wp_ret ?_)
    replace H : Hf I D w I9 w9 [PtC OElink_Link (.pointer (some ⟨b3, 0, none⟩)) (some x0_3.1), BxC b_p1 9 [.string p1], BxC b_p2 25 [.int .i64 x0_3.2], BxC b_h 48 [v9, v10, .pointer (some ⟨b3, 0, none⟩), v12, .bool h.made], PtC OElink_Link v9 (h.l.getD 0 none), PtC OElink_Link v10 (h.l.getD 1 none), PtC OElink_Link v12 (h.l.getD 3 none)] := H.mkS (K := OElink_Link) 0 rfl
    replace H : Hf I D w I9 w9 [OEhub_Hub b_h ({ h with l := [(h.l.getD 0 none), (h.l.getD 1 none), some x0_3.1, (h.l.getD 3 none)] } : Ehub_Hub), BxC b_p1 9 [.string p1], BxC b_p2 25 [.int .i64 x0_3.2]] := H.shutX (v9, v10, .pointer (some ⟨b3, 0, none⟩), v12) [(3, false), (3, false), (3, false), (0, false), (2, false)] rfl
    obtain rfl := some_in hF
    exact f_ret Z (run_results1 rfl Z rfl) ⟨rfl, I9, (H.sub [(0, false), (0, false), (0, false)] rfl).eq rfl⟩
 replace hF := ite_f hi3 hF
 refine bsplit (id == 3) (fun hi4 => ?_) (fun hi4 => ?_)
 ·replace hF := ite_t hi4 hF
  obtain ⟨n0_7, hx10, hF⟩ := bnd_in hF
  refine f_region Z ?_; clear Z; intro Z
  refine s_runk tHb1 Z 1 rfl rfl ?_; clear Z a; intro a Z
  refine h_call Z H (js := [(0, false)]) rfl (caps := #[]) fn_16_YHb1 rfl rfl rfl rfl rfl (by decide) rfl rfl (fun D1 hS => have hq := c_hub_Hub_none hx10 hS; hq) ?_; clear Z a; intro vv a w10 D2 hr hF2 Z
  obtain ⟨rfl, I10, K⟩ := hr
  have H : Hf I D w I10 w10 [OEhub_Hub b_h h, BxC b_p1 9 [.string p1], BxC b_p2 25 [.int .i64 p2]] := hF2 K
  clear hF2 K
  refine s_runk tHb1 Z 1 rfl rfl ?_; clear Z a; intro a Z
  refine g_ob Z (p := (!n0_7)) (v := .int .i64 id) (S' := [(1, .int .i64 id)]) rfl rfl rfl (wantB_f _) rfl (by decide) (fun hp hS => hS.sub (ts := [1]) rfl) (fun hp => Ob_c tHb1 rfl) ?_; clear Z a; intro a Z
  refine g_ob Z (p := (!n0_7)) (v := .bool (decide (id < 0))) (S' := [(10, .int .i64 id)]) rfl rfl rfl (wantB_f _) rfl (by decide) (fun hp hS => (hS.conv (t := 10) rfl (cond_t hp)).sub (ts := [10]) rfl) (fun hp => Ob_c tHb1 rfl) ?_; clear Z a; intro a Z
  refine s_ob Z (v := .bool (n0_7 || (decide (id < 0)))) rfl rfl (by decide) rfl (Ob_pick rfl rfl rfl rfl (pick_or _ _)) ?_; clear Z a; intro a Z
  refine s_runk tHb1 Z 1 rfl rfl ?_; clear Z a; intro a Z
  refine g_ob Z (p := (!(n0_7 || (decide (id < 0))))) (v := .int .i64 id) (S' := [(1, .int .i64 id)]) rfl rfl rfl (wantB_f _) rfl (by decide) (fun hp hS => hS.sub (ts := [1]) rfl) (fun hp => Ob_c tHb1 rfl) ?_; clear Z a; intro a Z
  refine g_ob Z (p := (!(n0_7 || (decide (id < 0))))) (v := .bool (decide (id ≥ 4))) (S' := [(14, .int .i64 id)]) rfl rfl rfl (wantB_f _) rfl (by decide) (fun hp hS => (hS.conv (t := 14) rfl (cond_t hp)).sub (ts := [14]) rfl) (fun hp => Ob_c tHb1 rfl) ?_; clear Z a; intro a Z
  refine s_ob Z (v := .bool ((n0_7 || (decide (id < 0))) || (decide (id ≥ 4)))) rfl rfl (by decide) rfl (Ob_pick rfl rfl rfl rfl (pick_or _ _)) ?_; clear Z a; intro a Z
  refine s_runk tHb1 Z 1 rfl rfl ?_; clear Z a; intro a Z
  refine g_ob Z (p := (!((n0_7 || (decide (id < 0))) || (decide (id ≥ 4))))) (v := .pointer (some ⟨b_h, 0, none⟩)) (S' := [(0, .pointer (some ⟨b_h, 0, none⟩))]) rfl rfl rfl (wantB_f _) rfl (by decide) (fun hp hS => hS.sub (ts := [0]) rfl) (fun hp => Ob_c tHb1 rfl) ?_; clear Z a; intro a Z
  refine g_ob Z (p := (!((n0_7 || (decide (id < 0))) || (decide (id ≥ 4))))) (v := .int .i64 id) (S' := [(1, .int .i64 id)]) rfl rfl rfl (wantB_f _) rfl (by decide) (fun hp hS => hS.sub (ts := [1]) rfl) (fun hp => Ob_c tHb1 rfl) ?_; clear Z a; intro a Z
  refine g_ob Z (p := (!((n0_7 || (decide (id < 0))) || (decide (id ≥ 4))))) (v := .pointer (some ⟨b_h, 0, none⟩)) (S' := [(18, .pointer (some ⟨b_h, 0, none⟩))]) rfl rfl rfl (wantB_f _) rfl (by decide) (fun hp hS => (hS.conv (t := 18) rfl (cond_t hp)).sub (ts := [18]) rfl) (fun hp => Ob_c tHb1 rfl) ?_; clear Z a; intro a Z
  refine g_ob Z (p := (!((n0_7 || (decide (id < 0))) || (decide (id ≥ 4))))) (v := .pointer (some ⟨b_h, 0, none⟩)) (S' := [(20, .pointer (some ⟨b_h, 0, none⟩))]) rfl rfl rfl (wantB_f _) rfl (by decide) (fun hp hS => (hS.conv (t := 20) rfl (cond_t hp)).sub (ts := [20]) rfl) (fun hp => Ob_c tHb1 rfl) ?_; clear Z a; intro a Z
  refine g_ob Z (p := (!((n0_7 || (decide (id < 0))) || (decide (id ≥ 4))))) (v := .pointer (some ⟨b_h, 3, none⟩)) (S' := [(21, .pointer (some ⟨b_h, 0, none⟩)), (19, .int .i64 id)]) rfl rfl rfl (wantB_f _) rfl (by decide) (fun hp hS => ((hS.conv (t := 21) rfl (cond_t hp)).conv (t := 19) rfl (cond_t hp)).sub (ts := [21, 19]) rfl) (fun hp => Ob_apix (m := 1) 3 rfl rfl rfl Try.underlying46 (by kernel_rfl) (eq_of_beq hi4) (by decide)) ?_; clear Z a; intro a Z
  obtain ⟨⟨v13, v14, v15, v16⟩, H⟩ := H.openX 0 rfl
  replace H : Hf I D w I10 w10 [BxC b_h 48 [v13, v14, v15, v16, .bool h.made], PtC OElink_Link v13 (h.l.getD 0 none), PtC OElink_Link v14 (h.l.getD 1 none), PtC OElink_Link v15 (h.l.getD 2 none), PtC OElink_Link v16 (h.l.getD 3 none), BxC b_p1 9 [.string p1], BxC b_p2 25 [.int .i64 p2]] := H
  refine g_ob Z (p := (!((n0_7 || (decide (id < 0))) || (decide (id ≥ 4))))) (v := v16) (S' := [(22, .pointer (some ⟨b_h, 3, none⟩))]) rfl rfl rfl (wantB_f _) rfl (by decide) (fun hp hS => (hS.conv (t := 22) rfl (cond_t hp)).sub (ts := [22]) rfl) (fun hp => Ob_load tHb1 rfl rfl rfl ((H.bx 0 rfl).cell 3 rfl)) ?_; clear Z a; intro a Z
  refine g_ob Z (p := (!((n0_7 || (decide (id < 0))) || (decide (id ≥ 4))))) (v := .bool ((h.l.getD 3 none).isNone)) (S' := [(23, v16)]) rfl rfl rfl (wantB_f _) rfl (by decide) (fun hp hS => (hS.conv (t := 23) rfl (cond_t hp)).sub (ts := [23]) rfl) (fun hp => Ob_popt (q := (h.l.getD 3 none)) rfl rfl rfl Try.underlying45 (H.optI 4 rfl) (.inl ⟨rfl, rfl⟩)) ?_; clear Z a; intro a Z
  refine s_ob Z (v := .bool (((n0_7 || (decide (id < 0))) || (decide (id ≥ 4))) || ((h.l.getD 3 none).isNone))) rfl rfl (by decide) rfl (Ob_pick rfl rfl rfl rfl (pick_or _ _)) ?_; clear Z a; intro a Z
  refine s_end Z [0, 1, 2, 25] rfl ?_; clear Z; intro Z
  refine p_then ?_
  refine f_cond Z rfl (fun hc4 => ?_) (fun hc4 => ?_)
  ·replace hF := ite_t hc4 hF
   refine wp_seq (f_region Z ?_); clear Z; intro Z
   refine s_runk tHb1 Z 1 rfl rfl ?_; clear Z a; intro a Z
   refine s_end Z [6] rfl ?_; clear Z; intro Z
   refine p_then (wp_ret ?_)
   refine p_then_r ?_
   replace H : Hf I D w I10 w10 [OEhub_Hub b_h h, BxC b_p1 9 [.string p1], BxC b_p2 25 [.int .i64 p2]] := H.shutX (v13, v14, v15, v16) [(0, false), (0, false), (0, false), (0, false), (0, false)] rfl
   obtain rfl := some_in hF
   exact f_ret Z (run_results1 rfl Z rfl) ⟨rfl, I10, (H.sub [(0, false), (0, false), (0, false)] rfl).eq rfl⟩
  ·replace hF := ite_f hc4 hF
   refine wp_skip ?_
   refine p_then (wp_seq ?_)
   rcases optE_in hF with ⟨ho4, hF⟩ | ⟨x_4, ho4, hF⟩
   ·obtain ⟨hv, H⟩ := H.optN 4 rfl ho4
    subst hv
    replace H : Hf I D w I10 w10 [BxC b_h 48 [v13, v14, v15, .pointer none, .bool h.made], PtC OElink_Link v13 (h.l.getD 0 none), PtC OElink_Link v14 (h.l.getD 1 none), PtC OElink_Link v15 (h.l.getD 2 none), BxC b_p1 9 [.string p1], BxC b_p2 25 [.int .i64 p2]] := H
    obtain ⟨n0_8, hx11, hF⟩ := bnd_in hF
    refine f_region Z ?_; clear Z; intro Z
    refine s_runk tHb1 Z 5 rfl rfl ?_; clear Z a; intro a Z
    refine s_ob Z (v := .pointer (some ⟨b_h, 3, none⟩)) rfl rfl (by decide) rfl (Ob_apix (m := 1) 3 rfl rfl rfl Try.underlying46 (by kernel_rfl) (eq_of_beq hi4) (by decide)) ?_; clear Z a; intro a Z
    refine s_ob Z (v := .pointer none) rfl rfl (by decide) rfl (Ob_load tHb1 rfl rfl rfl ((H.bx 0 rfl).cell 3 rfl)) ?_; clear Z a; intro a Z
    refine h_call Z H (js := [(4, false), (4, false)]) rfl (caps := #[.pointer (some ⟨b_p1, 0, none⟩), .pointer (some ⟨b_p2, 0, none⟩)]) fn_13_YHb1 rfl rfl rfl rfl rfl (by decide) rfl rfl (fun D1 hS => have hq := c_hub_Hub_Send_1_nil hx11 hS; hq) ?_; clear Z a; intro vv a w11 D2 hr hF2 Z
    obtain ⟨rfl, I11, K⟩ := hr
    have H : Hf I D w I11 w11 [BxC b_p1 9 [.string p1], BxC b_p2 25 [.int .i64 n0_8], BxC b_h 48 [v13, v14, v15, .pointer none, .bool h.made], PtC OElink_Link v13 (h.l.getD 0 none), PtC OElink_Link v14 (h.l.getD 1 none), PtC OElink_Link v15 (h.l.getD 2 none)] := hF2 K
    clear hF2 K
    refine s_end Z [] rfl ?_; clear Z; intro Z
    refine p_then (wp_seq (f_region Z ?_)); clear Z; intro Z
    refine s_runk tHb1 Z 1 rfl rfl ?_; clear Z a; intro a Z
    refine s_end Z [6] rfl ?_; clear Z; intro Z
    refine p_then (wp_ret ?_)
    replace H : Hf I D w I11 w11 [PtC OElink_Link (.pointer none) none, BxC b_p1 9 [.string p1], BxC b_p2 25 [.int .i64 n0_8], BxC b_h 48 [v13, v14, v15, .pointer none, .bool h.made], PtC OElink_Link v13 (h.l.getD 0 none), PtC OElink_Link v14 (h.l.getD 1 none), PtC OElink_Link v15 (h.l.getD 2 none)] := H.mkN OElink_Link
    replace H : Hf I D w I11 w11 [OEhub_Hub b_h ({ h with l := [(h.l.getD 0 none), (h.l.getD 1 none), (h.l.getD 2 none), none] } : Ehub_Hub), BxC b_p1 9 [.string p1], BxC b_p2 25 [.int .i64 n0_8]] := H.shutX (v13, v14, v15, .pointer none) [(3, false), (3, false), (3, false), (3, false), (0, false)] rfl
    obtain rfl := some_in hF
    exact f_ret Z (run_results1 rfl Z rfl) ⟨rfl, I11, (H.sub [(0, false), (0, false), (0, false)] rfl).eq rfl⟩
   ·obtain ⟨b4, hv, H⟩ := H.optS 4 rfl ho4
    subst hv
    replace H : Hf I D w I10 w10 [OElink_Link b4 x_4, BxC b_h 48 [v13, v14, v15, .pointer (some ⟨b4, 0, none⟩), .bool h.made], PtC OElink_Link v13 (h.l.getD 0 none), PtC OElink_Link v14 (h.l.getD 1 none), PtC OElink_Link v15 (h.l.getD 2 none), BxC b_p1 9 [.string p1], BxC b_p2 25 [.int .i64 p2]] := H
    obtain ⟨x0_4, hx12, hF⟩ := bnd_in hF
    refine f_region Z ?_; clear Z; intro Z
    refine s_runk tHb1 Z 5 rfl rfl ?_; clear Z a; intro a Z
    refine s_ob Z (v := .pointer (some ⟨b_h, 3, none⟩)) rfl rfl (by decide) rfl (Ob_apix (m := 1) 3 rfl rfl rfl Try.underlying46 (by kernel_rfl) (eq_of_beq hi4) (by decide)) ?_; clear Z a; intro a Z
    refine s_ob Z (v := .pointer (some ⟨b4, 0, none⟩)) rfl rfl (by decide) rfl (Ob_load tHb1 rfl rfl rfl ((H.bx 1 rfl).cell 3 rfl)) ?_; clear Z a; intro a Z
    refine h_call Z H (js := [(0, false), (4, false), (4, false)]) rfl (caps := #[.pointer (some ⟨b_p1, 0, none⟩), .pointer (some ⟨b_p2, 0, none⟩)]) fn_13_YHb1 rfl rfl rfl rfl rfl (by decide) rfl rfl (fun D1 hS => have hq := c_hub_Hub_Send_1 hx12 hS; hq) ?_; clear Z a; intro vv a w12 D2 hr hF2 Z
    obtain ⟨rfl, I12, K⟩ := hr
    have H : Hf I D w I12 w12 [OElink_Link b4 x0_4.1, BxC b_p1 9 [.string p1], BxC b_p2 25 [.int .i64 x0_4.2], BxC b_h 48 [v13, v14, v15, .pointer (some ⟨b4, 0, none⟩), .bool h.made], PtC OElink_Link v13 (h.l.getD 0 none), PtC OElink_Link v14 (h.l.getD 1 none), PtC OElink_Link v15 (h.l.getD 2 none)] := hF2 K
    clear hF2 K
    refine s_end Z [] rfl ?_; clear Z; intro Z
    refine p_then (wp_seq (f_region Z ?_)); clear Z; intro Z
    refine s_runk tHb1 Z 1 rfl rfl ?_; clear Z a; intro a Z
    refine s_end Z [6] rfl ?_; clear Z; intro Z
    refine p_then (wp_ret ?_)
    replace H : Hf I D w I12 w12 [PtC OElink_Link (.pointer (some ⟨b4, 0, none⟩)) (some x0_4.1), BxC b_p1 9 [.string p1], BxC b_p2 25 [.int .i64 x0_4.2], BxC b_h 48 [v13, v14, v15, .pointer (some ⟨b4, 0, none⟩), .bool h.made], PtC OElink_Link v13 (h.l.getD 0 none), PtC OElink_Link v14 (h.l.getD 1 none), PtC OElink_Link v15 (h.l.getD 2 none)] := H.mkS (K := OElink_Link) 0 rfl
    replace H : Hf I D w I12 w12 [OEhub_Hub b_h ({ h with l := [(h.l.getD 0 none), (h.l.getD 1 none), (h.l.getD 2 none), some x0_4.1] } : Ehub_Hub), BxC b_p1 9 [.string p1], BxC b_p2 25 [.int .i64 x0_4.2]] := H.shutX (v13, v14, v15, .pointer (some ⟨b4, 0, none⟩)) [(3, false), (3, false), (3, false), (3, false), (0, false)] rfl
    obtain rfl := some_in hF
    exact f_ret Z (run_results1 rfl Z rfl) ⟨rfl, I12, (H.sub [(0, false), (0, false), (0, false)] rfl).eq rfl⟩
 replace hF := ite_f hi4 hF
 obtain ⟨n0_9, hx13, hF⟩ := bnd_in hF
 obtain ⟨hg1, hF⟩ := chk_in hF
 refine f_region Z ?_; clear Z; intro Z
 refine s_runk tHb1 Z 1 rfl rfl ?_; clear Z a; intro a Z
 refine h_call Z H (js := [(0, false)]) rfl (caps := #[]) fn_16_YHb1 rfl rfl rfl rfl rfl (by decide) rfl rfl (fun D1 hS => have hq := c_hub_Hub_none hx13 hS; hq) ?_; clear Z a; intro vv a w13 D2 hr hF2 Z
 obtain ⟨rfl, I13, K⟩ := hr
 have H : Hf I D w I13 w13 [OEhub_Hub b_h h, BxC b_p1 9 [.string p1], BxC b_p2 25 [.int .i64 p2]] := hF2 K
 clear hF2 K
 refine s_runk tHb1 Z 1 rfl rfl ?_; clear Z a; intro a Z
 refine g_ob Z (p := (!n0_9)) (v := .int .i64 id) (S' := [(1, .int .i64 id)]) rfl rfl rfl (wantB_f _) rfl (by decide) (fun hp hS => hS.sub (ts := [1]) rfl) (fun hp => Ob_c tHb1 rfl) ?_; clear Z a; intro a Z
 refine g_ob Z (p := (!n0_9)) (v := .bool (decide (id < 0))) (S' := [(10, .int .i64 id)]) rfl rfl rfl (wantB_f _) rfl (by decide) (fun hp hS => (hS.conv (t := 10) rfl (cond_t hp)).sub (ts := [10]) rfl) (fun hp => Ob_c tHb1 rfl) ?_; clear Z a; intro a Z
 refine s_ob Z (v := .bool (n0_9 || (decide (id < 0)))) rfl rfl (by decide) rfl (Ob_pick rfl rfl rfl rfl (pick_or _ _)) ?_; clear Z a; intro a Z
 refine s_runk tHb1 Z 1 rfl rfl ?_; clear Z a; intro a Z
 refine g_ob Z (p := (!(n0_9 || (decide (id < 0))))) (v := .int .i64 id) (S' := [(1, .int .i64 id)]) rfl rfl rfl (wantB_f _) rfl (by decide) (fun hp hS => hS.sub (ts := [1]) rfl) (fun hp => Ob_c tHb1 rfl) ?_; clear Z a; intro a Z
 refine g_ob Z (p := (!(n0_9 || (decide (id < 0))))) (v := .bool (decide (id ≥ 4))) (S' := [(14, .int .i64 id)]) rfl rfl rfl (wantB_f _) rfl (by decide) (fun hp hS => (hS.conv (t := 14) rfl (cond_t hp)).sub (ts := [14]) rfl) (fun hp => Ob_c tHb1 rfl) ?_; clear Z a; intro a Z
 refine s_ob Z (v := .bool ((n0_9 || (decide (id < 0))) || (decide (id ≥ 4)))) rfl rfl (by decide) rfl (Ob_pick rfl rfl rfl rfl (pick_or _ _)) ?_; clear Z a; intro a Z
 refine s_runk tHb1 Z 1 rfl rfl ?_; clear Z a; intro a Z
 refine g_ob Z (p := (!((n0_9 || (decide (id < 0))) || (decide (id ≥ 4))))) (v := .pointer (some ⟨b_h, 0, none⟩)) (S' := [(0, .pointer (some ⟨b_h, 0, none⟩))]) rfl rfl rfl (wantB_f _) rfl (by decide) (fun hp hS => hS.sub (ts := [0]) rfl) (fun hp => Ob_c tHb1 rfl) ?_; clear Z a; intro a Z
 refine g_ob Z (p := (!((n0_9 || (decide (id < 0))) || (decide (id ≥ 4))))) (v := .int .i64 id) (S' := [(1, .int .i64 id)]) rfl rfl rfl (wantB_f _) rfl (by decide) (fun hp hS => hS.sub (ts := [1]) rfl) (fun hp => Ob_c tHb1 rfl) ?_; clear Z a; intro a Z
 refine g_ob Z (p := (!((n0_9 || (decide (id < 0))) || (decide (id ≥ 4))))) (v := .pointer (some ⟨b_h, 0, none⟩)) (S' := [(18, .pointer (some ⟨b_h, 0, none⟩))]) rfl rfl rfl (wantB_f _) rfl (by decide) (fun hp hS => (hS.conv (t := 18) rfl (cond_t hp)).sub (ts := [18]) rfl) (fun hp => Ob_c tHb1 rfl) ?_; clear Z a; intro a Z
 refine g_ob Z (p := (!((n0_9 || (decide (id < 0))) || (decide (id ≥ 4))))) (v := .pointer (some ⟨b_h, 0, none⟩)) (S' := [(20, .pointer (some ⟨b_h, 0, none⟩))]) rfl rfl rfl (wantB_f _) rfl (by decide) (fun hp hS => (hS.conv (t := 20) rfl (cond_t hp)).sub (ts := [20]) rfl) (fun hp => Ob_c tHb1 rfl) ?_; clear Z a; intro a Z
 refine g_ob Z (p := (!((n0_9 || (decide (id < 0))) || (decide (id ≥ 4))))) (v := .pointer (some ⟨b_h, 0, none⟩)) (S' := [(21, .pointer (some ⟨b_h, 0, none⟩)), (19, .int .i64 id)]) rfl rfl rfl (wantB_f _) rfl (by decide) (fun hp hS => ((hS.conv (t := 21) rfl (cond_t hp)).conv (t := 19) rfl (cond_t hp)).sub (ts := [21, 19]) rfl) (fun hp => (False.elim (hg1 hp))) ?_; clear Z a; intro a Z
 obtain ⟨⟨v17, v18, v19, v20⟩, H⟩ := H.openX 0 rfl
 replace H : Hf I D w I13 w13 [BxC b_h 48 [v17, v18, v19, v20, .bool h.made], PtC OElink_Link v17 (h.l.getD 0 none), PtC OElink_Link v18 (h.l.getD 1 none), PtC OElink_Link v19 (h.l.getD 2 none), PtC OElink_Link v20 (h.l.getD 3 none), BxC b_p1 9 [.string p1], BxC b_p2 25 [.int .i64 p2]] := H
 refine g_ob Z (p := (!((n0_9 || (decide (id < 0))) || (decide (id ≥ 4))))) (v := v17) (S' := [(22, .pointer (some ⟨b_h, 0, none⟩))]) rfl rfl rfl (wantB_f _) rfl (by decide) (fun hp hS => (hS.conv (t := 22) rfl (cond_t hp)).sub (ts := [22]) rfl) (fun hp => Ob_load tHb1 rfl rfl rfl ((H.bx 0 rfl).cell 0 rfl)) ?_; clear Z a; intro a Z
 refine g_ob Z (p := (!((n0_9 || (decide (id < 0))) || (decide (id ≥ 4))))) (v := .bool ((h.l.getD 0 none).isNone)) (S' := [(23, v17)]) rfl rfl rfl (wantB_f _) rfl (by decide) (fun hp hS => (hS.conv (t := 23) rfl (cond_t hp)).sub (ts := [23]) rfl) (fun hp => Ob_popt (q := (h.l.getD 0 none)) rfl rfl rfl Try.underlying45 (H.optI 1 rfl) (.inl ⟨rfl, rfl⟩)) ?_; clear Z a; intro a Z
 refine s_ob Z (v := .bool (((n0_9 || (decide (id < 0))) || (decide (id ≥ 4))) || ((h.l.getD 0 none).isNone))) rfl rfl (by decide) rfl (Ob_pick rfl rfl rfl rfl (pick_or _ _)) ?_; clear Z a; intro a Z
 refine s_end Z [0, 1, 2, 25] rfl ?_; clear Z; intro Z
 refine p_then ?_
 refine f_cond Z rfl (fun hc5 => ?_) (fun hc5 => ?_)
 ·replace hF := ite_t hc5 hF
  refine wp_seq (f_region Z ?_); clear Z; intro Z
  refine s_runk tHb1 Z 1 rfl rfl ?_; clear Z a; intro a Z
  refine s_end Z [6] rfl ?_; clear Z; intro Z
  refine p_then (wp_ret ?_)
  refine p_then_r ?_
  replace H : Hf I D w I13 w13 [OEhub_Hub b_h h, BxC b_p1 9 [.string p1], BxC b_p2 25 [.int .i64 p2]] := H.shutX (v17, v18, v19, v20) [(0, false), (0, false), (0, false), (0, false), (0, false)] rfl
  obtain rfl := some_in hF
  exact f_ret Z (run_results1 rfl Z rfl) ⟨rfl, I13, (H.sub [(0, false), (0, false), (0, false)] rfl).eq rfl⟩
 ·replace hF := ite_f hc5 hF
  refine wp_skip ?_
  refine p_then (wp_seq ?_)
  cases hF

def F_hub_Hub_Send (h : Ehub_Hub) (to_ : Int) (s0 : ByteArray) : Option (Int × Ehub_Hub) := (F_hub_Hub_with__hub_Hub_Send_1 h to_ s0 0).bind fun x0 => (if (!x0.1) = true then ((F_hub_Hub_nobody x0.2.1).bind fun n0 => (some (n0, x0.2.1))) else (some (x0.2.2, x0.2.1)))

set_option maxHeartbeats 1000000 in
theorem c_hub_Hub_Send {I D : Dm} {b_h : Nat} {h : Ehub_Hub} {to_ : Int} {s0 : ByteArray} {w : World} {rr : Int × Ehub_Hub} (hF : F_hub_Hub_Send h to_ s0 = some rr) (H : St I D w [OEhub_Hub b_h h]) :
  Calls Try.prog 5 #[.pointer (some ⟨b_h, 0, none⟩), .int .i64 to_, .string s0] w (Ret fun vv w' => vv = .int .i64 rr.1 ∧ ∃ I', Hf I D w I' w' [OEhub_Hub b_h rr.2]) := by
 replace H := H.hf
 unfold F_hub_Hub_Send at hF
 refine f_enter 15 Try.func5 rfl rfl (Nat.le_of_ble_eq_true rfl) fun a Z => ?_
 replace Z := Z.sub (ts := [0, 1, 2]) rfl
 refine wp_seq (f_region Z ?_); clear Z; intro Z
 refine h_boxv Z H (cl := [.string s0]) rfl rfl rfl (by decide) rfl rfl rfl ?_; clear Z a H; intro a w1 b1 H Z
 refine h_alloc Z H (cl := [.int .i64 0]) (z := .int .i64 0) rfl rfl rfl (by decide) rfl (by kernel_rfl) rfl ?_; clear Z a H; intro a w2 b2 H Z
 refine s_end Z [0, 1, 5, 6] rfl ?_; clear Z; intro Z
 refine p_then (wp_seq ?_)
 refine wp_seq ?_
 obtain ⟨x0, hx1, hF⟩ := bnd_in hF
 refine f_region Z ?_; clear Z; intro Z
 refine s_runk tHb1 Z 3 rfl rfl ?_; clear Z a; intro a Z
 refine h_call Z H (js := [(2, false), (1, false), (0, false)]) rfl (caps := #[]) fn_12_YHb1 rfl rfl rfl rfl rfl (by decide) rfl rfl (fun D1 hS => have hq := c_hub_Hub_with__hub_Hub_Send_1 hx1 hS; hq) ?_; clear Z a; intro vv a w3 D2 hr hF2 Z
 obtain ⟨rfl, I1, K⟩ := hr
 have H : Hf I D w I1 w3 [OEhub_Hub b_h x0.2.1, BxC b1 9 [.string s0], BxC b2 25 [.int .i64 x0.2.2]] := hF2 K
 clear hF2 K
 refine s_runk tHb1 Z 1 rfl rfl ?_; clear Z a; intro a Z
 refine s_end Z [0, 6, 11] rfl ?_; clear Z; intro Z
 refine p_then ?_
 refine f_cond Z rfl (fun hc1 => ?_) (fun hc1 => ?_)
 ·replace hF := ite_t hc1 hF
  refine wp_seq ?_
  obtain ⟨n0, hx2, hF⟩ := bnd_in hF
  refine f_region Z ?_; clear Z; intro Z
  refine s_runk tHb1 Z 1 rfl rfl ?_; clear Z a; intro a Z
  refine h_call Z H (js := [(0, false)]) rfl (caps := #[]) fn_15_YHb1 rfl rfl rfl rfl rfl (by decide) rfl rfl (fun D1 hS => have hq := c_hub_Hub_nobody hx2 hS; hq) ?_; clear Z a; intro vv a w4 D2 hr hF2 Z
  obtain ⟨rfl, I2, K⟩ := hr
  have H : Hf I D w I2 w4 [OEhub_Hub b_h x0.2.1, BxC b1 9 [.string s0], BxC b2 25 [.int .i64 x0.2.2]] := hF2 K
  clear hF2 K
  refine h_store tHb1 Z H 2 rfl rfl rfl rfl rfl rfl rfl rfl rfl (one_cons rfl one_nil) (Nat.le_of_ble_eq_true rfl) rfl ?_; clear H; intro w5 H
  dsimp only [List.eraseIdx] at H
  refine s_end Z [6] rfl ?_; clear Z; intro Z
  refine p_then (wp_ret ?_)
  refine p_then_r ?_
  obtain rfl := some_in hF
  exact f_ret Z (run_resultsC rfl Z rfl (run_loadVar_one tHb1 rfl ((H.bx 0 rfl).cell 0 rfl))) ⟨rfl, I2, (H.sub [(1, false)] rfl).eq rfl⟩
 ·replace hF := ite_f hc1 hF
  refine wp_skip ?_
  refine p_then (wp_seq (f_region Z ?_)); clear Z; intro Z
  refine s_ob Z (v := .int .i64 x0.2.2) rfl rfl (by decide) rfl (Ob_load tHb1 rfl rfl rfl ((H.bx 2 rfl).cell 0 rfl)) ?_; clear Z a; intro a Z
  refine h_store tHb1 Z H 2 rfl rfl rfl rfl rfl rfl rfl rfl rfl (one_cons rfl one_nil) (Nat.le_of_ble_eq_true rfl) rfl ?_; clear H; intro w6 H
  dsimp only [List.eraseIdx] at H
  refine s_end Z [6] rfl ?_; clear Z; intro Z
  refine p_then (wp_ret ?_)
  obtain rfl := some_in hF
  exact f_ret Z (run_resultsC rfl Z rfl (run_loadVar_one tHb1 rfl ((H.bx 0 rfl).cell 0 rfl))) ⟨rfl, I1, (H.sub [(1, false)] rfl).eq rfl⟩

def F_link_Link_Waiting_nil : Option Int := (F_link_Link_none_nil).bind fun n0 => (if (n0) = true then (some 0) else (none))

set_option maxHeartbeats 1000000 in
theorem c_link_Link_Waiting_nil {I D : Dm} {w : World} {rr : Int} (hF : F_link_Link_Waiting_nil = some rr) (H : St I D w []) :
  Calls Try.prog 23 #[.pointer none] w (Ret fun vv w' => vv = .int .i64 rr ∧ ∃ I', Hf I D w I' w' []) := by
 replace H := H.hf
 unfold F_link_Link_Waiting_nil at hF
 refine f_enter 11 Try.func23 rfl rfl (Nat.le_of_ble_eq_true rfl) fun a Z => ?_
 replace Z := Z.sub (ts := [0]) rfl
 refine wp_seq (f_region Z ?_); clear Z; intro Z
 refine s_runk tHb1 Z 1 rfl rfl ?_; clear Z a; intro a Z
 refine s_end Z [0] rfl ?_; clear Z; intro Z
 refine p_then (wp_seq ?_)
 refine wp_seq ?_
 obtain ⟨n0, hx1, hF⟩ := bnd_in hF
 refine f_region Z ?_; clear Z; intro Z
 refine s_runk tHb1 Z 1 rfl rfl ?_; clear Z a; intro a Z
 refine h_call Z H (js := []) rfl (caps := #[]) fn_24_YHb1 rfl rfl rfl rfl rfl (by decide) rfl rfl (fun D1 hS => have hq := c_link_Link_none_nil hx1 hS; hq) ?_; clear Z a; intro vv a w1 D2 hr hF2 Z
 obtain ⟨rfl, I1, K⟩ := hr
 have H : Hf I D w I1 w1 [] := hF2 K
 clear hF2 K
 refine s_end Z [0, 4] rfl ?_; clear Z; intro Z
 refine p_then ?_
 refine f_cond Z rfl (fun hc1 => ?_) (fun hc1 => ?_)
 ·replace hF := ite_t hc1 hF
  refine wp_seq (f_region Z ?_); clear Z; intro Z
  refine s_runk tHb1 Z 1 rfl rfl ?_; clear Z a; intro a Z
  refine s_end Z [2] rfl ?_; clear Z; intro Z
  refine p_then (wp_ret ?_)
  refine p_then_r ?_
  obtain rfl := some_in hF
  exact f_ret Z (run_results1 rfl Z rfl) ⟨rfl, I1, (H.sub [] rfl).eq rfl⟩
 ·replace hF := ite_f hc1 hF
  refine wp_skip ?_
  refine p_then (wp_seq ?_)
  cases hF

def F_hub_Hub_Waiting_1_nil (p1 : Int) : Option Int := (F_link_Link_Waiting_nil).bind fun n0 => (some n0)

set_option maxHeartbeats 1000000 in
theorem c_hub_Hub_Waiting_1_nil {I D : Dm} {b_p1 : Nat} {p1 : Int} {w : World} {rr : Int} (hF : F_hub_Hub_Waiting_1_nil p1 = some rr) (H : St I D w [BxC b_p1 3 [.int .i64 p1]]) :
  Calls Try.prog 22 #[.pointer none, .pointer (some ⟨b_p1, 0, none⟩)] w (Ret fun vv w' => vv = .tuple #[] ∧ ∃ I', Hf I D w I' w' [BxC b_p1 3 [.int .i64 rr]]) := by
 replace H := H.hf
 unfold F_hub_Hub_Waiting_1_nil at hF
 refine f_enter 5 Try.func22 rfl rfl (Nat.le_of_ble_eq_true rfl) fun a Z => ?_
 replace Z := Z.sub (ts := [0, 1]) rfl
 obtain ⟨n0, hx1, hF⟩ := bnd_in hF
 refine f_region Z ?_; clear Z; intro Z
 refine s_runk tHb1 Z 1 rfl rfl ?_; clear Z a; intro a Z
 refine h_call Z H (js := []) rfl (caps := #[]) fn_23_YHb1 rfl rfl rfl rfl rfl (by decide) rfl rfl (fun D1 hS => have hq := c_link_Link_Waiting_nil hx1 hS; hq) ?_; clear Z a; intro vv a w1 D2 hr hF2 Z
 obtain ⟨rfl, I1, K⟩ := hr
 have H : Hf I D w I1 w1 [BxC b_p1 3 [.int .i64 p1]] := hF2 K
 clear hF2 K
 refine h_store tHb1 Z H 0 rfl rfl rfl rfl rfl rfl rfl rfl rfl (one_cons rfl one_nil) (Nat.le_of_ble_eq_true rfl) rfl ?_; clear H; intro w2 H
 dsimp only [List.eraseIdx] at H
 refine s_end Z [] rfl ?_; clear Z; intro Z
 obtain rfl := some_in hF
 exact f_fall Z (run_results0 rfl) ⟨rfl, I1, (H.sub [(0, false)] rfl).eq rfl⟩

def F_hub_Hub_Waiting_1 (l : Elink_Link) (p1 : Int) : Option Int := (F_link_Link_Waiting l).bind fun w0 => (some w0)

set_option maxHeartbeats 1000000 in
theorem c_hub_Hub_Waiting_1 {I D : Dm} {b_l : Nat} {l : Elink_Link} {b_p1 : Nat} {p1 : Int} {w : World} {rr : Int} (hF : F_hub_Hub_Waiting_1 l p1 = some rr) (H : St I D w [OElink_Link b_l l, BxC b_p1 3 [.int .i64 p1]]) :
  Calls Try.prog 22 #[.pointer (some ⟨b_l, 0, none⟩), .pointer (some ⟨b_p1, 0, none⟩)] w (Ret fun vv w' => vv = .tuple #[] ∧ ∃ I', Hf I D w I' w' [OElink_Link b_l l, BxC b_p1 3 [.int .i64 rr]]) := by
 replace H := H.hf
 unfold F_hub_Hub_Waiting_1 at hF
 refine f_enter 5 Try.func22 rfl rfl (Nat.le_of_ble_eq_true rfl) fun a Z => ?_
 replace Z := Z.sub (ts := [0, 1]) rfl
 obtain ⟨w0, hx1, hF⟩ := bnd_in hF
 refine f_region Z ?_; clear Z; intro Z
 refine s_runk tHb1 Z 1 rfl rfl ?_; clear Z a; intro a Z
 refine h_call Z H (js := [(0, false)]) rfl (caps := #[]) fn_23_YHb1 rfl rfl rfl rfl rfl (by decide) rfl rfl (fun D1 hS => have hq := c_link_Link_Waiting hx1 hS; hq) ?_; clear Z a; intro vv a w1 D2 hr hF2 Z
 obtain ⟨rfl, I1, K⟩ := hr
 have H : Hf I D w I1 w1 [OElink_Link b_l l, BxC b_p1 3 [.int .i64 p1]] := hF2 K
 clear hF2 K
 refine h_store tHb1 Z H 1 rfl rfl rfl rfl rfl rfl rfl rfl rfl (one_cons rfl one_nil) (Nat.le_of_ble_eq_true rfl) rfl ?_; clear H; intro w2 H
 dsimp only [List.eraseIdx] at H
 refine s_end Z [] rfl ?_; clear Z; intro Z
 obtain rfl := some_in hF
 exact f_fall Z (run_results0 rfl) ⟨rfl, I1, (H.sub [(1, false), (0, false)] rfl).eq rfl⟩

def F_hub_Hub_with__hub_Hub_Waiting_1 (h : Ehub_Hub) (id : Int) (p1 : Int) : Option (Bool × Ehub_Hub × Int) := if (id == 0) = true then ((F_hub_Hub_none h).bind fun n0 => (if (((n0 || (decide (id < 0))) || (decide (id ≥ 4))) || ((h.l.getD 0 none).isNone)) = true then (some (false, h, p1)) else (optE (h.l.getD 0 none) ((F_hub_Hub_Waiting_1_nil p1).bind fun n0_2 => (some (true, ({ h with l := [none, (h.l.getD 1 none), (h.l.getD 2 none), (h.l.getD 3 none)] } : Ehub_Hub), n0_2))) (fun x => (F_hub_Hub_Waiting_1 x p1).bind fun x0 => (some (true, ({ h with l := [some x, (h.l.getD 1 none), (h.l.getD 2 none), (h.l.getD 3 none)] } : Ehub_Hub), x0)))))) else if (id == 1) = true then ((F_hub_Hub_none h).bind fun n0_3 => (if (((n0_3 || (decide (id < 0))) || (decide (id ≥ 4))) || ((h.l.getD 1 none).isNone)) = true then (some (false, h, p1)) else (optE (h.l.getD 1 none) ((F_hub_Hub_Waiting_1_nil p1).bind fun n0_4 => (some (true, ({ h with l := [(h.l.getD 0 none), none, (h.l.getD 2 none), (h.l.getD 3 none)] } : Ehub_Hub), n0_4))) (fun x_2 => (F_hub_Hub_Waiting_1 x_2 p1).bind fun x0_2 => (some (true, ({ h with l := [(h.l.getD 0 none), some x_2, (h.l.getD 2 none), (h.l.getD 3 none)] } : Ehub_Hub), x0_2)))))) else if (id == 2) = true then ((F_hub_Hub_none h).bind fun n0_5 => (if (((n0_5 || (decide (id < 0))) || (decide (id ≥ 4))) || ((h.l.getD 2 none).isNone)) = true then (some (false, h, p1)) else (optE (h.l.getD 2 none) ((F_hub_Hub_Waiting_1_nil p1).bind fun n0_6 => (some (true, ({ h with l := [(h.l.getD 0 none), (h.l.getD 1 none), none, (h.l.getD 3 none)] } : Ehub_Hub), n0_6))) (fun x_3 => (F_hub_Hub_Waiting_1 x_3 p1).bind fun x0_3 => (some (true, ({ h with l := [(h.l.getD 0 none), (h.l.getD 1 none), some x_3, (h.l.getD 3 none)] } : Ehub_Hub), x0_3)))))) else if (id == 3) = true then ((F_hub_Hub_none h).bind fun n0_7 => (if (((n0_7 || (decide (id < 0))) || (decide (id ≥ 4))) || ((h.l.getD 3 none).isNone)) = true then (some (false, h, p1)) else (optE (h.l.getD 3 none) ((F_hub_Hub_Waiting_1_nil p1).bind fun n0_8 => (some (true, ({ h with l := [(h.l.getD 0 none), (h.l.getD 1 none), (h.l.getD 2 none), none] } : Ehub_Hub), n0_8))) (fun x_4 => (F_hub_Hub_Waiting_1 x_4 p1).bind fun x0_4 => (some (true, ({ h with l := [(h.l.getD 0 none), (h.l.getD 1 none), (h.l.getD 2 none), some x_4] } : Ehub_Hub), x0_4)))))) else ((F_hub_Hub_none h).bind fun n0_9 => (chk ((!((n0_9 || (decide (id < 0))) || (decide (id ≥ 4)))) = true → False) (if (((n0_9 || (decide (id < 0))) || (decide (id ≥ 4))) || ((h.l.getD 0 none).isNone)) = true then (some (false, h, p1)) else (none))))

set_option maxHeartbeats 1000000 in
theorem c_hub_Hub_with__hub_Hub_Waiting_1 {I D : Dm} {b_h : Nat} {h : Ehub_Hub} {id : Int} {b_p1 : Nat} {p1 : Int} {w : World} {rr : Bool × Ehub_Hub × Int} (hF : F_hub_Hub_with__hub_Hub_Waiting_1 h id p1 = some rr) (H : St I D w [OEhub_Hub b_h h, BxC b_p1 3 [.int .i64 p1]]) :
  Calls Try.prog 12 #[.pointer (some ⟨b_h, 0, none⟩), .int .i64 id, .func (.func 22) #[] #[.pointer (some ⟨b_p1, 0, none⟩)]] w (Ret fun vv w' => vv = .bool rr.1 ∧ ∃ I', Hf I D w I' w' [OEhub_Hub b_h rr.2.1, BxC b_p1 3 [.int .i64 rr.2.2]]) := by
 replace H := H.hf
 unfold F_hub_Hub_with__hub_Hub_Waiting_1 at hF
 refine f_enter 34 Try.func12 rfl rfl (Nat.le_of_ble_eq_true rfl) fun a Z => ?_
 replace Z := Z.sub (ts := [0, 1, 2]) rfl
 refine wp_seq (f_region Z ?_); clear Z; intro Z
 refine s_runk tHb1 Z 1 rfl rfl ?_; clear Z a; intro a Z
 refine s_end Z [0, 1, 2] rfl ?_; clear Z; intro Z
 refine p_then (wp_seq ?_)
 refine wp_seq ?_
 refine bsplit (id == 0) (fun hi1 => ?_) (fun hi1 => ?_)
 ·replace hF := ite_t hi1 hF
  obtain ⟨n0, hx1, hF⟩ := bnd_in hF
  refine f_region Z ?_; clear Z; intro Z
  refine s_runk tHb1 Z 1 rfl rfl ?_; clear Z a; intro a Z
  refine h_call Z H (js := [(0, false)]) rfl (caps := #[]) fn_16_YHb1 rfl rfl rfl rfl rfl (by decide) rfl rfl (fun D1 hS => have hq := c_hub_Hub_none hx1 hS; hq) ?_; clear Z a; intro vv a w1 D2 hr hF2 Z
  obtain ⟨rfl, I1, K⟩ := hr
  have H : Hf I D w I1 w1 [OEhub_Hub b_h h, BxC b_p1 3 [.int .i64 p1]] := hF2 K
  clear hF2 K
  refine s_runk tHb1 Z 1 rfl rfl ?_; clear Z a; intro a Z
  refine g_ob Z (p := (!n0)) (v := .int .i64 id) (S' := [(1, .int .i64 id)]) rfl rfl rfl (wantB_f _) rfl (by decide) (fun hp hS => hS.sub (ts := [1]) rfl) (fun hp => Ob_c tHb1 rfl) ?_; clear Z a; intro a Z
  refine g_ob Z (p := (!n0)) (v := .bool (decide (id < 0))) (S' := [(10, .int .i64 id)]) rfl rfl rfl (wantB_f _) rfl (by decide) (fun hp hS => (hS.conv (t := 10) rfl (cond_t hp)).sub (ts := [10]) rfl) (fun hp => Ob_c tHb1 rfl) ?_; clear Z a; intro a Z
  refine s_ob Z (v := .bool (n0 || (decide (id < 0)))) rfl rfl (by decide) rfl (Ob_pick rfl rfl rfl rfl (pick_or _ _)) ?_; clear Z a; intro a Z
  refine s_runk tHb1 Z 1 rfl rfl ?_; clear Z a; intro a Z
  refine g_ob Z (p := (!(n0 || (decide (id < 0))))) (v := .int .i64 id) (S' := [(1, .int .i64 id)]) rfl rfl rfl (wantB_f _) rfl (by decide) (fun hp hS => hS.sub (ts := [1]) rfl) (fun hp => Ob_c tHb1 rfl) ?_; clear Z a; intro a Z
  refine g_ob Z (p := (!(n0 || (decide (id < 0))))) (v := .bool (decide (id ≥ 4))) (S' := [(14, .int .i64 id)]) rfl rfl rfl (wantB_f _) rfl (by decide) (fun hp hS => (hS.conv (t := 14) rfl (cond_t hp)).sub (ts := [14]) rfl) (fun hp => Ob_c tHb1 rfl) ?_; clear Z a; intro a Z
  refine s_ob Z (v := .bool ((n0 || (decide (id < 0))) || (decide (id ≥ 4)))) rfl rfl (by decide) rfl (Ob_pick rfl rfl rfl rfl (pick_or _ _)) ?_; clear Z a; intro a Z
  refine s_runk tHb1 Z 1 rfl rfl ?_; clear Z a; intro a Z
  refine g_ob Z (p := (!((n0 || (decide (id < 0))) || (decide (id ≥ 4))))) (v := .pointer (some ⟨b_h, 0, none⟩)) (S' := [(0, .pointer (some ⟨b_h, 0, none⟩))]) rfl rfl rfl (wantB_f _) rfl (by decide) (fun hp hS => hS.sub (ts := [0]) rfl) (fun hp => Ob_c tHb1 rfl) ?_; clear Z a; intro a Z
  refine g_ob Z (p := (!((n0 || (decide (id < 0))) || (decide (id ≥ 4))))) (v := .int .i64 id) (S' := [(1, .int .i64 id)]) rfl rfl rfl (wantB_f _) rfl (by decide) (fun hp hS => hS.sub (ts := [1]) rfl) (fun hp => Ob_c tHb1 rfl) ?_; clear Z a; intro a Z
  refine g_ob Z (p := (!((n0 || (decide (id < 0))) || (decide (id ≥ 4))))) (v := .pointer (some ⟨b_h, 0, none⟩)) (S' := [(18, .pointer (some ⟨b_h, 0, none⟩))]) rfl rfl rfl (wantB_f _) rfl (by decide) (fun hp hS => (hS.conv (t := 18) rfl (cond_t hp)).sub (ts := [18]) rfl) (fun hp => Ob_c tHb1 rfl) ?_; clear Z a; intro a Z
  refine g_ob Z (p := (!((n0 || (decide (id < 0))) || (decide (id ≥ 4))))) (v := .pointer (some ⟨b_h, 0, none⟩)) (S' := [(20, .pointer (some ⟨b_h, 0, none⟩))]) rfl rfl rfl (wantB_f _) rfl (by decide) (fun hp hS => (hS.conv (t := 20) rfl (cond_t hp)).sub (ts := [20]) rfl) (fun hp => Ob_c tHb1 rfl) ?_; clear Z a; intro a Z
  refine g_ob Z (p := (!((n0 || (decide (id < 0))) || (decide (id ≥ 4))))) (v := .pointer (some ⟨b_h, 0, none⟩)) (S' := [(21, .pointer (some ⟨b_h, 0, none⟩)), (19, .int .i64 id)]) rfl rfl rfl (wantB_f _) rfl (by decide) (fun hp hS => ((hS.conv (t := 21) rfl (cond_t hp)).conv (t := 19) rfl (cond_t hp)).sub (ts := [21, 19]) rfl) (fun hp => Ob_apix (m := 1) 0 rfl rfl rfl Try.underlying46 (by kernel_rfl) (eq_of_beq hi1) (by decide)) ?_; clear Z a; intro a Z
  obtain ⟨⟨v1, v2, v3, v4⟩, H⟩ := H.openX 0 rfl
  replace H : Hf I D w I1 w1 [BxC b_h 48 [v1, v2, v3, v4, .bool h.made], PtC OElink_Link v1 (h.l.getD 0 none), PtC OElink_Link v2 (h.l.getD 1 none), PtC OElink_Link v3 (h.l.getD 2 none), PtC OElink_Link v4 (h.l.getD 3 none), BxC b_p1 3 [.int .i64 p1]] := H
  refine g_ob Z (p := (!((n0 || (decide (id < 0))) || (decide (id ≥ 4))))) (v := v1) (S' := [(22, .pointer (some ⟨b_h, 0, none⟩))]) rfl rfl rfl (wantB_f _) rfl (by decide) (fun hp hS => (hS.conv (t := 22) rfl (cond_t hp)).sub (ts := [22]) rfl) (fun hp => Ob_load tHb1 rfl rfl rfl ((H.bx 0 rfl).cell 0 rfl)) ?_; clear Z a; intro a Z
  refine g_ob Z (p := (!((n0 || (decide (id < 0))) || (decide (id ≥ 4))))) (v := .bool ((h.l.getD 0 none).isNone)) (S' := [(23, v1)]) rfl rfl rfl (wantB_f _) rfl (by decide) (fun hp hS => (hS.conv (t := 23) rfl (cond_t hp)).sub (ts := [23]) rfl) (fun hp => Ob_popt (q := (h.l.getD 0 none)) rfl rfl rfl Try.underlying45 (H.optI 1 rfl) (.inl ⟨rfl, rfl⟩)) ?_; clear Z a; intro a Z
  refine s_ob Z (v := .bool (((n0 || (decide (id < 0))) || (decide (id ≥ 4))) || ((h.l.getD 0 none).isNone))) rfl rfl (by decide) rfl (Ob_pick rfl rfl rfl rfl (pick_or _ _)) ?_; clear Z a; intro a Z
  refine s_end Z [0, 1, 2, 25] rfl ?_; clear Z; intro Z
  refine p_then ?_
  refine f_cond Z rfl (fun hc1 => ?_) (fun hc1 => ?_)
  ·replace hF := ite_t hc1 hF
   refine wp_seq (f_region Z ?_); clear Z; intro Z
   refine s_runk tHb1 Z 1 rfl rfl ?_; clear Z a; intro a Z
   refine s_end Z [6] rfl ?_; clear Z; intro Z
   refine p_then (wp_ret ?_)
   refine p_then_r ?_
   replace H : Hf I D w I1 w1 [OEhub_Hub b_h h, BxC b_p1 3 [.int .i64 p1]] := H.shutX (v1, v2, v3, v4) [(0, false), (0, false), (0, false), (0, false), (0, false)] rfl
   obtain rfl := some_in hF
   exact f_ret Z (run_results1 rfl Z rfl) ⟨rfl, I1, (H.sub [(0, false), (0, false)] rfl).eq rfl⟩
  ·replace hF := ite_f hc1 hF
   refine wp_skip ?_
   refine p_then (wp_seq ?_)
   rcases optE_in hF with ⟨ho1, hF⟩ | ⟨x, ho1, hF⟩
   ·obtain ⟨hv, H⟩ := H.optN 1 rfl ho1
    subst hv
    replace H : Hf I D w I1 w1 [BxC b_h 48 [.pointer none, v2, v3, v4, .bool h.made], PtC OElink_Link v2 (h.l.getD 1 none), PtC OElink_Link v3 (h.l.getD 2 none), PtC OElink_Link v4 (h.l.getD 3 none), BxC b_p1 3 [.int .i64 p1]] := H
    obtain ⟨n0_2, hx2, hF⟩ := bnd_in hF
    refine f_region Z ?_; clear Z; intro Z
    refine s_runk tHb1 Z 5 rfl rfl ?_; clear Z a; intro a Z
    refine s_ob Z (v := .pointer (some ⟨b_h, 0, none⟩)) rfl rfl (by decide) rfl (Ob_apix (m := 1) 0 rfl rfl rfl Try.underlying46 (by kernel_rfl) (eq_of_beq hi1) (by decide)) ?_; clear Z a; intro a Z
    refine s_ob Z (v := .pointer none) rfl rfl (by decide) rfl (Ob_load tHb1 rfl rfl rfl ((H.bx 0 rfl).cell 0 rfl)) ?_; clear Z a; intro a Z
    refine h_call Z H (js := [(4, false)]) rfl (caps := #[.pointer (some ⟨b_p1, 0, none⟩)]) fn_22_YHb1 rfl rfl rfl rfl rfl (by decide) rfl rfl (fun D1 hS => have hq := c_hub_Hub_Waiting_1_nil hx2 hS; hq) ?_; clear Z a; intro vv a w2 D2 hr hF2 Z
    obtain ⟨rfl, I2, K⟩ := hr
    have H : Hf I D w I2 w2 [BxC b_p1 3 [.int .i64 n0_2], BxC b_h 48 [.pointer none, v2, v3, v4, .bool h.made], PtC OElink_Link v2 (h.l.getD 1 none), PtC OElink_Link v3 (h.l.getD 2 none), PtC OElink_Link v4 (h.l.getD 3 none)] := hF2 K
    clear hF2 K
    refine s_end Z [] rfl ?_; clear Z; intro Z
    refine p_then (wp_seq (f_region Z ?_)); clear Z; intro Z
    refine s_runk tHb1 Z 1 rfl rfl ?_; clear Z a; intro a Z
    refine s_end Z [6] rfl ?_; clear Z; intro Z
    refine p_then (wp_ret ?_)
    replace H : Hf I D w I2 w2 [PtC OElink_Link (.pointer none) none, BxC b_p1 3 [.int .i64 n0_2], BxC b_h 48 [.pointer none, v2, v3, v4, .bool h.made], PtC OElink_Link v2 (h.l.getD 1 none), PtC OElink_Link v3 (h.l.getD 2 none), PtC OElink_Link v4 (h.l.getD 3 none)] := H.mkN OElink_Link
    replace H : Hf I D w I2 w2 [OEhub_Hub b_h ({ h with l := [none, (h.l.getD 1 none), (h.l.getD 2 none), (h.l.getD 3 none)] } : Ehub_Hub), BxC b_p1 3 [.int .i64 n0_2]] := H.shutX (.pointer none, v2, v3, v4) [(2, false), (0, false), (1, false), (1, false), (1, false)] rfl
    obtain rfl := some_in hF
    exact f_ret Z (run_results1 rfl Z rfl) ⟨rfl, I2, (H.sub [(0, false), (0, false)] rfl).eq rfl⟩
   ·obtain ⟨b1, hv, H⟩ := H.optS 1 rfl ho1
    subst hv
    replace H : Hf I D w I1 w1 [OElink_Link b1 x, BxC b_h 48 [.pointer (some ⟨b1, 0, none⟩), v2, v3, v4, .bool h.made], PtC OElink_Link v2 (h.l.getD 1 none), PtC OElink_Link v3 (h.l.getD 2 none), PtC OElink_Link v4 (h.l.getD 3 none), BxC b_p1 3 [.int .i64 p1]] := H
    obtain ⟨x0, hx3, hF⟩ := bnd_in hF
    refine f_region Z ?_; clear Z; intro Z
    refine s_runk tHb1 Z 5 rfl rfl ?_; clear Z a; intro a Z
    refine s_ob Z (v := .pointer (some ⟨b_h, 0, none⟩)) rfl rfl (by decide) rfl (Ob_apix (m := 1) 0 rfl rfl rfl Try.underlying46 (by kernel_rfl) (eq_of_beq hi1) (by decide)) ?_; clear Z a; intro a Z
    refine s_ob Z (v := .pointer (some ⟨b1, 0, none⟩)) rfl rfl (by decide) rfl (Ob_load tHb1 rfl rfl rfl ((H.bx 1 rfl).cell 0 rfl)) ?_; clear Z a; intro a Z
    refine h_call Z H (js := [(0, false), (4, false)]) rfl (caps := #[.pointer (some ⟨b_p1, 0, none⟩)]) fn_22_YHb1 rfl rfl rfl rfl rfl (by decide) rfl rfl (fun D1 hS => have hq := c_hub_Hub_Waiting_1 hx3 hS; hq) ?_; clear Z a; intro vv a w3 D2 hr hF2 Z
    obtain ⟨rfl, I3, K⟩ := hr
    have H : Hf I D w I3 w3 [OElink_Link b1 x, BxC b_p1 3 [.int .i64 x0], BxC b_h 48 [.pointer (some ⟨b1, 0, none⟩), v2, v3, v4, .bool h.made], PtC OElink_Link v2 (h.l.getD 1 none), PtC OElink_Link v3 (h.l.getD 2 none), PtC OElink_Link v4 (h.l.getD 3 none)] := hF2 K
    clear hF2 K
    refine s_end Z [] rfl ?_; clear Z; intro Z
    refine p_then (wp_seq (f_region Z ?_)); clear Z; intro Z
    refine s_runk tHb1 Z 1 rfl rfl ?_; clear Z a; intro a Z
    refine s_end Z [6] rfl ?_; clear Z; intro Z
    refine p_then (wp_ret ?_)
    replace H : Hf I D w I3 w3 [PtC OElink_Link (.pointer (some ⟨b1, 0, none⟩)) (some x), BxC b_p1 3 [.int .i64 x0], BxC b_h 48 [.pointer (some ⟨b1, 0, none⟩), v2, v3, v4, .bool h.made], PtC OElink_Link v2 (h.l.getD 1 none), PtC OElink_Link v3 (h.l.getD 2 none), PtC OElink_Link v4 (h.l.getD 3 none)] := H.mkS (K := OElink_Link) 0 rfl
    replace H : Hf I D w I3 w3 [OEhub_Hub b_h ({ h with l := [some x, (h.l.getD 1 none), (h.l.getD 2 none), (h.l.getD 3 none)] } : Ehub_Hub), BxC b_p1 3 [.int .i64 x0]] := H.shutX (.pointer (some ⟨b1, 0, none⟩), v2, v3, v4) [(2, false), (0, false), (1, false), (1, false), (1, false)] rfl
    obtain rfl := some_in hF
    exact f_ret Z (run_results1 rfl Z rfl) ⟨rfl, I3, (H.sub [(0, false), (0, false)] rfl).eq rfl⟩
 replace hF := ite_f hi1 hF
 refine bsplit (id == 1) (fun hi2 => ?_) (fun hi2 => ?_)
 ·replace hF := ite_t hi2 hF
  obtain ⟨n0_3, hx4, hF⟩ := bnd_in hF
  refine f_region Z ?_; clear Z; intro Z
  refine s_runk tHb1 Z 1 rfl rfl ?_; clear Z a; intro a Z
  refine h_call Z H (js := [(0, false)]) rfl (caps := #[]) fn_16_YHb1 rfl rfl rfl rfl rfl (by decide) rfl rfl (fun D1 hS => have hq := c_hub_Hub_none hx4 hS; hq) ?_; clear Z a; intro vv a w4 D2 hr hF2 Z
  obtain ⟨rfl, I4, K⟩ := hr
  have H : Hf I D w I4 w4 [OEhub_Hub b_h h, BxC b_p1 3 [.int .i64 p1]] := hF2 K
  clear hF2 K
  refine s_runk tHb1 Z 1 rfl rfl ?_; clear Z a; intro a Z
  refine g_ob Z (p := (!n0_3)) (v := .int .i64 id) (S' := [(1, .int .i64 id)]) rfl rfl rfl (wantB_f _) rfl (by decide) (fun hp hS => hS.sub (ts := [1]) rfl) (fun hp => Ob_c tHb1 rfl) ?_; clear Z a; intro a Z
  refine g_ob Z (p := (!n0_3)) (v := .bool (decide (id < 0))) (S' := [(10, .int .i64 id)]) rfl rfl rfl (wantB_f _) rfl (by decide) (fun hp hS => (hS.conv (t := 10) rfl (cond_t hp)).sub (ts := [10]) rfl) (fun hp => Ob_c tHb1 rfl) ?_; clear Z a; intro a Z
  refine s_ob Z (v := .bool (n0_3 || (decide (id < 0)))) rfl rfl (by decide) rfl (Ob_pick rfl rfl rfl rfl (pick_or _ _)) ?_; clear Z a; intro a Z
  refine s_runk tHb1 Z 1 rfl rfl ?_; clear Z a; intro a Z
  refine g_ob Z (p := (!(n0_3 || (decide (id < 0))))) (v := .int .i64 id) (S' := [(1, .int .i64 id)]) rfl rfl rfl (wantB_f _) rfl (by decide) (fun hp hS => hS.sub (ts := [1]) rfl) (fun hp => Ob_c tHb1 rfl) ?_; clear Z a; intro a Z
  refine g_ob Z (p := (!(n0_3 || (decide (id < 0))))) (v := .bool (decide (id ≥ 4))) (S' := [(14, .int .i64 id)]) rfl rfl rfl (wantB_f _) rfl (by decide) (fun hp hS => (hS.conv (t := 14) rfl (cond_t hp)).sub (ts := [14]) rfl) (fun hp => Ob_c tHb1 rfl) ?_; clear Z a; intro a Z
  refine s_ob Z (v := .bool ((n0_3 || (decide (id < 0))) || (decide (id ≥ 4)))) rfl rfl (by decide) rfl (Ob_pick rfl rfl rfl rfl (pick_or _ _)) ?_; clear Z a; intro a Z
  refine s_runk tHb1 Z 1 rfl rfl ?_; clear Z a; intro a Z
  refine g_ob Z (p := (!((n0_3 || (decide (id < 0))) || (decide (id ≥ 4))))) (v := .pointer (some ⟨b_h, 0, none⟩)) (S' := [(0, .pointer (some ⟨b_h, 0, none⟩))]) rfl rfl rfl (wantB_f _) rfl (by decide) (fun hp hS => hS.sub (ts := [0]) rfl) (fun hp => Ob_c tHb1 rfl) ?_; clear Z a; intro a Z
  refine g_ob Z (p := (!((n0_3 || (decide (id < 0))) || (decide (id ≥ 4))))) (v := .int .i64 id) (S' := [(1, .int .i64 id)]) rfl rfl rfl (wantB_f _) rfl (by decide) (fun hp hS => hS.sub (ts := [1]) rfl) (fun hp => Ob_c tHb1 rfl) ?_; clear Z a; intro a Z
  refine g_ob Z (p := (!((n0_3 || (decide (id < 0))) || (decide (id ≥ 4))))) (v := .pointer (some ⟨b_h, 0, none⟩)) (S' := [(18, .pointer (some ⟨b_h, 0, none⟩))]) rfl rfl rfl (wantB_f _) rfl (by decide) (fun hp hS => (hS.conv (t := 18) rfl (cond_t hp)).sub (ts := [18]) rfl) (fun hp => Ob_c tHb1 rfl) ?_; clear Z a; intro a Z
  refine g_ob Z (p := (!((n0_3 || (decide (id < 0))) || (decide (id ≥ 4))))) (v := .pointer (some ⟨b_h, 0, none⟩)) (S' := [(20, .pointer (some ⟨b_h, 0, none⟩))]) rfl rfl rfl (wantB_f _) rfl (by decide) (fun hp hS => (hS.conv (t := 20) rfl (cond_t hp)).sub (ts := [20]) rfl) (fun hp => Ob_c tHb1 rfl) ?_; clear Z a; intro a Z
  refine g_ob Z (p := (!((n0_3 || (decide (id < 0))) || (decide (id ≥ 4))))) (v := .pointer (some ⟨b_h, 1, none⟩)) (S' := [(21, .pointer (some ⟨b_h, 0, none⟩)), (19, .int .i64 id)]) rfl rfl rfl (wantB_f _) rfl (by decide) (fun hp hS => ((hS.conv (t := 21) rfl (cond_t hp)).conv (t := 19) rfl (cond_t hp)).sub (ts := [21, 19]) rfl) (fun hp => Ob_apix (m := 1) 1 rfl rfl rfl Try.underlying46 (by kernel_rfl) (eq_of_beq hi2) (by decide)) ?_; clear Z a; intro a Z
  obtain ⟨⟨v5, v6, v7, v8⟩, H⟩ := H.openX 0 rfl
  replace H : Hf I D w I4 w4 [BxC b_h 48 [v5, v6, v7, v8, .bool h.made], PtC OElink_Link v5 (h.l.getD 0 none), PtC OElink_Link v6 (h.l.getD 1 none), PtC OElink_Link v7 (h.l.getD 2 none), PtC OElink_Link v8 (h.l.getD 3 none), BxC b_p1 3 [.int .i64 p1]] := H
  refine g_ob Z (p := (!((n0_3 || (decide (id < 0))) || (decide (id ≥ 4))))) (v := v6) (S' := [(22, .pointer (some ⟨b_h, 1, none⟩))]) rfl rfl rfl (wantB_f _) rfl (by decide) (fun hp hS => (hS.conv (t := 22) rfl (cond_t hp)).sub (ts := [22]) rfl) (fun hp => Ob_load tHb1 rfl rfl rfl ((H.bx 0 rfl).cell 1 rfl)) ?_; clear Z a; intro a Z
  refine g_ob Z (p := (!((n0_3 || (decide (id < 0))) || (decide (id ≥ 4))))) (v := .bool ((h.l.getD 1 none).isNone)) (S' := [(23, v6)]) rfl rfl rfl (wantB_f _) rfl (by decide) (fun hp hS => (hS.conv (t := 23) rfl (cond_t hp)).sub (ts := [23]) rfl) (fun hp => Ob_popt (q := (h.l.getD 1 none)) rfl rfl rfl Try.underlying45 (H.optI 2 rfl) (.inl ⟨rfl, rfl⟩)) ?_; clear Z a; intro a Z
  refine s_ob Z (v := .bool (((n0_3 || (decide (id < 0))) || (decide (id ≥ 4))) || ((h.l.getD 1 none).isNone))) rfl rfl (by decide) rfl (Ob_pick rfl rfl rfl rfl (pick_or _ _)) ?_; clear Z a; intro a Z
  refine s_end Z [0, 1, 2, 25] rfl ?_; clear Z; intro Z
  refine p_then ?_
  refine f_cond Z rfl (fun hc2 => ?_) (fun hc2 => ?_)
  ·replace hF := ite_t hc2 hF
   refine wp_seq (f_region Z ?_); clear Z; intro Z
   refine s_runk tHb1 Z 1 rfl rfl ?_; clear Z a; intro a Z
   refine s_end Z [6] rfl ?_; clear Z; intro Z
   refine p_then (wp_ret ?_)
   refine p_then_r ?_
   replace H : Hf I D w I4 w4 [OEhub_Hub b_h h, BxC b_p1 3 [.int .i64 p1]] := H.shutX (v5, v6, v7, v8) [(0, false), (0, false), (0, false), (0, false), (0, false)] rfl
   obtain rfl := some_in hF
   exact f_ret Z (run_results1 rfl Z rfl) ⟨rfl, I4, (H.sub [(0, false), (0, false)] rfl).eq rfl⟩
  ·replace hF := ite_f hc2 hF
   refine wp_skip ?_
   refine p_then (wp_seq ?_)
   rcases optE_in hF with ⟨ho2, hF⟩ | ⟨x_2, ho2, hF⟩
   ·obtain ⟨hv, H⟩ := H.optN 2 rfl ho2
    subst hv
    replace H : Hf I D w I4 w4 [BxC b_h 48 [v5, .pointer none, v7, v8, .bool h.made], PtC OElink_Link v5 (h.l.getD 0 none), PtC OElink_Link v7 (h.l.getD 2 none), PtC OElink_Link v8 (h.l.getD 3 none), BxC b_p1 3 [.int .i64 p1]] := H
    obtain ⟨n0_4, hx5, hF⟩ := bnd_in hF
    refine f_region Z ?_; clear Z; intro Z
    refine s_runk tHb1 Z 5 rfl rfl ?_; clear Z a; intro a Z
    refine s_ob Z (v := .pointer (some ⟨b_h, 1, none⟩)) rfl rfl (by decide) rfl (Ob_apix (m := 1) 1 rfl rfl rfl Try.underlying46 (by kernel_rfl) (eq_of_beq hi2) (by decide)) ?_; clear Z a; intro a Z
    refine s_ob Z (v := .pointer none) rfl rfl (by decide) rfl (Ob_load tHb1 rfl rfl rfl ((H.bx 0 rfl).cell 1 rfl)) ?_; clear Z a; intro a Z
    refine h_call Z H (js := [(4, false)]) rfl (caps := #[.pointer (some ⟨b_p1, 0, none⟩)]) fn_22_YHb1 rfl rfl rfl rfl rfl (by decide) rfl rfl (fun D1 hS => have hq := c_hub_Hub_Waiting_1_nil hx5 hS; hq) ?_; clear Z a; intro vv a w5 D2 hr hF2 Z
    obtain ⟨rfl, I5, K⟩ := hr
    have H : Hf I D w I5 w5 [BxC b_p1 3 [.int .i64 n0_4], BxC b_h 48 [v5, .pointer none, v7, v8, .bool h.made], PtC OElink_Link v5 (h.l.getD 0 none), PtC OElink_Link v7 (h.l.getD 2 none), PtC OElink_Link v8 (h.l.getD 3 none)] := hF2 K
    clear hF2 K
    refine s_end Z [] rfl ?_; clear Z; intro Z
    refine p_then (wp_seq (f_region Z ?_)); clear Z; intro Z
    refine s_runk tHb1 Z 1 rfl rfl ?_; clear Z a; intro a Z
    refine s_end Z [6] rfl ?_; clear Z; intro Z
    refine p_then (wp_ret ?_)
    replace H : Hf I D w I5 w5 [PtC OElink_Link (.pointer none) none, BxC b_p1 3 [.int .i64 n0_4], BxC b_h 48 [v5, .pointer none, v7, v8, .bool h.made], PtC OElink_Link v5 (h.l.getD 0 none), PtC OElink_Link v7 (h.l.getD 2 none), PtC OElink_Link v8 (h.l.getD 3 none)] := H.mkN OElink_Link
    replace H : Hf I D w I5 w5 [OEhub_Hub b_h ({ h with l := [(h.l.getD 0 none), none, (h.l.getD 2 none), (h.l.getD 3 none)] } : Ehub_Hub), BxC b_p1 3 [.int .i64 n0_4]] := H.shutX (v5, .pointer none, v7, v8) [(2, false), (2, false), (0, false), (1, false), (1, false)] rfl
    obtain rfl := some_in hF
    exact f_ret Z (run_results1 rfl Z rfl) ⟨rfl, I5, (H.sub [(0, false), (0, false)] rfl).eq rfl⟩
   ·obtain ⟨b2, hv, H⟩ := H.optS 2 rfl ho2
    subst hv
    replace H : Hf I D w I4 w4 [OElink_Link b2 x_2, BxC b_h 48 [v5, .pointer (some ⟨b2, 0, none⟩), v7, v8, .bool h.made], PtC OElink_Link v5 (h.l.getD 0 none), PtC OElink_Link v7 (h.l.getD 2 none), PtC OElink_Link v8 (h.l.getD 3 none), BxC b_p1 3 [.int .i64 p1]] := H
    obtain ⟨x0_2, hx6, hF⟩ := bnd_in hF
    refine f_region Z ?_; clear Z; intro Z
    refine s_runk tHb1 Z 5 rfl rfl ?_; clear Z a; intro a Z
    refine s_ob Z (v := .pointer (some ⟨b_h, 1, none⟩)) rfl rfl (by decide) rfl (Ob_apix (m := 1) 1 rfl rfl rfl Try.underlying46 (by kernel_rfl) (eq_of_beq hi2) (by decide)) ?_; clear Z a; intro a Z
    refine s_ob Z (v := .pointer (some ⟨b2, 0, none⟩)) rfl rfl (by decide) rfl (Ob_load tHb1 rfl rfl rfl ((H.bx 1 rfl).cell 1 rfl)) ?_; clear Z a; intro a Z
    refine h_call Z H (js := [(0, false), (4, false)]) rfl (caps := #[.pointer (some ⟨b_p1, 0, none⟩)]) fn_22_YHb1 rfl rfl rfl rfl rfl (by decide) rfl rfl (fun D1 hS => have hq := c_hub_Hub_Waiting_1 hx6 hS; hq) ?_; clear Z a; intro vv a w6 D2 hr hF2 Z
    obtain ⟨rfl, I6, K⟩ := hr
    have H : Hf I D w I6 w6 [OElink_Link b2 x_2, BxC b_p1 3 [.int .i64 x0_2], BxC b_h 48 [v5, .pointer (some ⟨b2, 0, none⟩), v7, v8, .bool h.made], PtC OElink_Link v5 (h.l.getD 0 none), PtC OElink_Link v7 (h.l.getD 2 none), PtC OElink_Link v8 (h.l.getD 3 none)] := hF2 K
    clear hF2 K
    refine s_end Z [] rfl ?_; clear Z; intro Z
    refine p_then (wp_seq (f_region Z ?_)); clear Z; intro Z
    refine s_runk tHb1 Z 1 rfl rfl ?_; clear Z a; intro a Z
    refine s_end Z [6] rfl ?_; clear Z; intro Z
    refine p_then (wp_ret ?_)
    replace H : Hf I D w I6 w6 [PtC OElink_Link (.pointer (some ⟨b2, 0, none⟩)) (some x_2), BxC b_p1 3 [.int .i64 x0_2], BxC b_h 48 [v5, .pointer (some ⟨b2, 0, none⟩), v7, v8, .bool h.made], PtC OElink_Link v5 (h.l.getD 0 none), PtC OElink_Link v7 (h.l.getD 2 none), PtC OElink_Link v8 (h.l.getD 3 none)] := H.mkS (K := OElink_Link) 0 rfl
    replace H : Hf I D w I6 w6 [OEhub_Hub b_h ({ h with l := [(h.l.getD 0 none), some x_2, (h.l.getD 2 none), (h.l.getD 3 none)] } : Ehub_Hub), BxC b_p1 3 [.int .i64 x0_2]] := H.shutX (v5, .pointer (some ⟨b2, 0, none⟩), v7, v8) [(2, false), (2, false), (0, false), (1, false), (1, false)] rfl
    obtain rfl := some_in hF
    exact f_ret Z (run_results1 rfl Z rfl) ⟨rfl, I6, (H.sub [(0, false), (0, false)] rfl).eq rfl⟩
 replace hF := ite_f hi2 hF
 refine bsplit (id == 2) (fun hi3 => ?_) (fun hi3 => ?_)
 ·replace hF := ite_t hi3 hF
  obtain ⟨n0_5, hx7, hF⟩ := bnd_in hF
  refine f_region Z ?_; clear Z; intro Z
  refine s_runk tHb1 Z 1 rfl rfl ?_; clear Z a; intro a Z
  refine h_call Z H (js := [(0, false)]) rfl (caps := #[]) fn_16_YHb1 rfl rfl rfl rfl rfl (by decide) rfl rfl (fun D1 hS => have hq := c_hub_Hub_none hx7 hS; hq) ?_; clear Z a; intro vv a w7 D2 hr hF2 Z
  obtain ⟨rfl, I7, K⟩ := hr
  have H : Hf I D w I7 w7 [OEhub_Hub b_h h, BxC b_p1 3 [.int .i64 p1]] := hF2 K
  clear hF2 K
  refine s_runk tHb1 Z 1 rfl rfl ?_; clear Z a; intro a Z
  refine g_ob Z (p := (!n0_5)) (v := .int .i64 id) (S' := [(1, .int .i64 id)]) rfl rfl rfl (wantB_f _) rfl (by decide) (fun hp hS => hS.sub (ts := [1]) rfl) (fun hp => Ob_c tHb1 rfl) ?_; clear Z a; intro a Z
  refine g_ob Z (p := (!n0_5)) (v := .bool (decide (id < 0))) (S' := [(10, .int .i64 id)]) rfl rfl rfl (wantB_f _) rfl (by decide) (fun hp hS => (hS.conv (t := 10) rfl (cond_t hp)).sub (ts := [10]) rfl) (fun hp => Ob_c tHb1 rfl) ?_; clear Z a; intro a Z
  refine s_ob Z (v := .bool (n0_5 || (decide (id < 0)))) rfl rfl (by decide) rfl (Ob_pick rfl rfl rfl rfl (pick_or _ _)) ?_; clear Z a; intro a Z
  refine s_runk tHb1 Z 1 rfl rfl ?_; clear Z a; intro a Z
  refine g_ob Z (p := (!(n0_5 || (decide (id < 0))))) (v := .int .i64 id) (S' := [(1, .int .i64 id)]) rfl rfl rfl (wantB_f _) rfl (by decide) (fun hp hS => hS.sub (ts := [1]) rfl) (fun hp => Ob_c tHb1 rfl) ?_; clear Z a; intro a Z
  refine g_ob Z (p := (!(n0_5 || (decide (id < 0))))) (v := .bool (decide (id ≥ 4))) (S' := [(14, .int .i64 id)]) rfl rfl rfl (wantB_f _) rfl (by decide) (fun hp hS => (hS.conv (t := 14) rfl (cond_t hp)).sub (ts := [14]) rfl) (fun hp => Ob_c tHb1 rfl) ?_; clear Z a; intro a Z
  refine s_ob Z (v := .bool ((n0_5 || (decide (id < 0))) || (decide (id ≥ 4)))) rfl rfl (by decide) rfl (Ob_pick rfl rfl rfl rfl (pick_or _ _)) ?_; clear Z a; intro a Z
  refine s_runk tHb1 Z 1 rfl rfl ?_; clear Z a; intro a Z
  refine g_ob Z (p := (!((n0_5 || (decide (id < 0))) || (decide (id ≥ 4))))) (v := .pointer (some ⟨b_h, 0, none⟩)) (S' := [(0, .pointer (some ⟨b_h, 0, none⟩))]) rfl rfl rfl (wantB_f _) rfl (by decide) (fun hp hS => hS.sub (ts := [0]) rfl) (fun hp => Ob_c tHb1 rfl) ?_; clear Z a; intro a Z
  refine g_ob Z (p := (!((n0_5 || (decide (id < 0))) || (decide (id ≥ 4))))) (v := .int .i64 id) (S' := [(1, .int .i64 id)]) rfl rfl rfl (wantB_f _) rfl (by decide) (fun hp hS => hS.sub (ts := [1]) rfl) (fun hp => Ob_c tHb1 rfl) ?_; clear Z a; intro a Z
  refine g_ob Z (p := (!((n0_5 || (decide (id < 0))) || (decide (id ≥ 4))))) (v := .pointer (some ⟨b_h, 0, none⟩)) (S' := [(18, .pointer (some ⟨b_h, 0, none⟩))]) rfl rfl rfl (wantB_f _) rfl (by decide) (fun hp hS => (hS.conv (t := 18) rfl (cond_t hp)).sub (ts := [18]) rfl) (fun hp => Ob_c tHb1 rfl) ?_; clear Z a; intro a Z
  refine g_ob Z (p := (!((n0_5 || (decide (id < 0))) || (decide (id ≥ 4))))) (v := .pointer (some ⟨b_h, 0, none⟩)) (S' := [(20, .pointer (some ⟨b_h, 0, none⟩))]) rfl rfl rfl (wantB_f _) rfl (by decide) (fun hp hS => (hS.conv (t := 20) rfl (cond_t hp)).sub (ts := [20]) rfl) (fun hp => Ob_c tHb1 rfl) ?_; clear Z a; intro a Z
  refine g_ob Z (p := (!((n0_5 || (decide (id < 0))) || (decide (id ≥ 4))))) (v := .pointer (some ⟨b_h, 2, none⟩)) (S' := [(21, .pointer (some ⟨b_h, 0, none⟩)), (19, .int .i64 id)]) rfl rfl rfl (wantB_f _) rfl (by decide) (fun hp hS => ((hS.conv (t := 21) rfl (cond_t hp)).conv (t := 19) rfl (cond_t hp)).sub (ts := [21, 19]) rfl) (fun hp => Ob_apix (m := 1) 2 rfl rfl rfl Try.underlying46 (by kernel_rfl) (eq_of_beq hi3) (by decide)) ?_; clear Z a; intro a Z
  obtain ⟨⟨v9, v10, v11, v12⟩, H⟩ := H.openX 0 rfl
  replace H : Hf I D w I7 w7 [BxC b_h 48 [v9, v10, v11, v12, .bool h.made], PtC OElink_Link v9 (h.l.getD 0 none), PtC OElink_Link v10 (h.l.getD 1 none), PtC OElink_Link v11 (h.l.getD 2 none), PtC OElink_Link v12 (h.l.getD 3 none), BxC b_p1 3 [.int .i64 p1]] := H
  refine g_ob Z (p := (!((n0_5 || (decide (id < 0))) || (decide (id ≥ 4))))) (v := v11) (S' := [(22, .pointer (some ⟨b_h, 2, none⟩))]) rfl rfl rfl (wantB_f _) rfl (by decide) (fun hp hS => (hS.conv (t := 22) rfl (cond_t hp)).sub (ts := [22]) rfl) (fun hp => Ob_load tHb1 rfl rfl rfl ((H.bx 0 rfl).cell 2 rfl)) ?_; clear Z a; intro a Z
  refine g_ob Z (p := (!((n0_5 || (decide (id < 0))) || (decide (id ≥ 4))))) (v := .bool ((h.l.getD 2 none).isNone)) (S' := [(23, v11)]) rfl rfl rfl (wantB_f _) rfl (by decide) (fun hp hS => (hS.conv (t := 23) rfl (cond_t hp)).sub (ts := [23]) rfl) (fun hp => Ob_popt (q := (h.l.getD 2 none)) rfl rfl rfl Try.underlying45 (H.optI 3 rfl) (.inl ⟨rfl, rfl⟩)) ?_; clear Z a; intro a Z
  refine s_ob Z (v := .bool (((n0_5 || (decide (id < 0))) || (decide (id ≥ 4))) || ((h.l.getD 2 none).isNone))) rfl rfl (by decide) rfl (Ob_pick rfl rfl rfl rfl (pick_or _ _)) ?_; clear Z a; intro a Z
  refine s_end Z [0, 1, 2, 25] rfl ?_; clear Z; intro Z
  refine p_then ?_
  refine f_cond Z rfl (fun hc3 => ?_) (fun hc3 => ?_)
  ·replace hF := ite_t hc3 hF
   refine wp_seq (f_region Z ?_); clear Z; intro Z
   refine s_runk tHb1 Z 1 rfl rfl ?_; clear Z a; intro a Z
   refine s_end Z [6] rfl ?_; clear Z; intro Z
   refine p_then (wp_ret ?_)
   refine p_then_r ?_
   replace H : Hf I D w I7 w7 [OEhub_Hub b_h h, BxC b_p1 3 [.int .i64 p1]] := H.shutX (v9, v10, v11, v12) [(0, false), (0, false), (0, false), (0, false), (0, false)] rfl
   obtain rfl := some_in hF
   exact f_ret Z (run_results1 rfl Z rfl) ⟨rfl, I7, (H.sub [(0, false), (0, false)] rfl).eq rfl⟩
  ·replace hF := ite_f hc3 hF
   refine wp_skip ?_
   refine p_then (wp_seq ?_)
   rcases optE_in hF with ⟨ho3, hF⟩ | ⟨x_3, ho3, hF⟩
   ·obtain ⟨hv, H⟩ := H.optN 3 rfl ho3
    subst hv
    replace H : Hf I D w I7 w7 [BxC b_h 48 [v9, v10, .pointer none, v12, .bool h.made], PtC OElink_Link v9 (h.l.getD 0 none), PtC OElink_Link v10 (h.l.getD 1 none), PtC OElink_Link v12 (h.l.getD 3 none), BxC b_p1 3 [.int .i64 p1]] := H
    obtain ⟨n0_6, hx8, hF⟩ := bnd_in hF
    refine f_region Z ?_; clear Z; intro Z
    refine s_runk tHb1 Z 5 rfl rfl ?_; clear Z a; intro a Z
    refine s_ob Z (v := .pointer (some ⟨b_h, 2, none⟩)) rfl rfl (by decide) rfl (Ob_apix (m := 1) 2 rfl rfl rfl Try.underlying46 (by kernel_rfl) (eq_of_beq hi3) (by decide)) ?_; clear Z a; intro a Z
    refine s_ob Z (v := .pointer none) rfl rfl (by decide) rfl (Ob_load tHb1 rfl rfl rfl ((H.bx 0 rfl).cell 2 rfl)) ?_; clear Z a; intro a Z
    refine h_call Z H (js := [(4, false)]) rfl (caps := #[.pointer (some ⟨b_p1, 0, none⟩)]) fn_22_YHb1 rfl rfl rfl rfl rfl (by decide) rfl rfl (fun D1 hS => have hq := c_hub_Hub_Waiting_1_nil hx8 hS; hq) ?_; clear Z a; intro vv a w8 D2 hr hF2 Z
    obtain ⟨rfl, I8, K⟩ := hr
    have H : Hf I D w I8 w8 [BxC b_p1 3 [.int .i64 n0_6], BxC b_h 48 [v9, v10, .pointer none, v12, .bool h.made], PtC OElink_Link v9 (h.l.getD 0 none), PtC OElink_Link v10 (h.l.getD 1 none), PtC OElink_Link v12 (h.l.getD 3 none)] := hF2 K
    clear hF2 K
    refine s_end Z [] rfl ?_; clear Z; intro Z
    refine p_then (wp_seq (f_region Z ?_)); clear Z; intro Z
    refine s_runk tHb1 Z 1 rfl rfl ?_; clear Z a; intro a Z
    refine s_end Z [6] rfl ?_; clear Z; intro Z
    refine p_then (wp_ret ?_)
    replace H : Hf I D w I8 w8 [PtC OElink_Link (.pointer none) none, BxC b_p1 3 [.int .i64 n0_6], BxC b_h 48 [v9, v10, .pointer none, v12, .bool h.made], PtC OElink_Link v9 (h.l.getD 0 none), PtC OElink_Link v10 (h.l.getD 1 none), PtC OElink_Link v12 (h.l.getD 3 none)] := H.mkN OElink_Link
    replace H : Hf I D w I8 w8 [OEhub_Hub b_h ({ h with l := [(h.l.getD 0 none), (h.l.getD 1 none), none, (h.l.getD 3 none)] } : Ehub_Hub), BxC b_p1 3 [.int .i64 n0_6]] := H.shutX (v9, v10, .pointer none, v12) [(2, false), (2, false), (2, false), (0, false), (1, false)] rfl
    obtain rfl := some_in hF
    exact f_ret Z (run_results1 rfl Z rfl) ⟨rfl, I8, (H.sub [(0, false), (0, false)] rfl).eq rfl⟩
   ·obtain ⟨b3, hv, H⟩ := H.optS 3 rfl ho3
    subst hv
    replace H : Hf I D w I7 w7 [OElink_Link b3 x_3, BxC b_h 48 [v9, v10, .pointer (some ⟨b3, 0, none⟩), v12, .bool h.made], PtC OElink_Link v9 (h.l.getD 0 none), PtC OElink_Link v10 (h.l.getD 1 none), PtC OElink_Link v12 (h.l.getD 3 none), BxC b_p1 3 [.int .i64 p1]] := H
    obtain ⟨x0_3, hx9, hF⟩ := bnd_in hF
    refine f_region Z ?_; clear Z; intro Z
    refine s_runk tHb1 Z 5 rfl rfl ?_; clear Z a; intro a Z
    refine s_ob Z (v := .pointer (some ⟨b_h, 2, none⟩)) rfl rfl (by decide) rfl (Ob_apix (m := 1) 2 rfl rfl rfl Try.underlying46 (by kernel_rfl) (eq_of_beq hi3) (by decide)) ?_; clear Z a; intro a Z
    refine s_ob Z (v := .pointer (some ⟨b3, 0, none⟩)) rfl rfl (by decide) rfl (Ob_load tHb1 rfl rfl rfl ((H.bx 1 rfl).cell 2 rfl)) ?_; clear Z a; intro a Z
    refine h_call Z H (js := [(0, false), (4, false)]) rfl (caps := #[.pointer (some ⟨b_p1, 0, none⟩)]) fn_22_YHb1 rfl rfl rfl rfl rfl (by decide) rfl rfl (fun D1 hS => have hq := c_hub_Hub_Waiting_1 hx9 hS; hq) ?_; clear Z a; intro vv a w9 D2 hr hF2 Z
    obtain ⟨rfl, I9, K⟩ := hr
    have H : Hf I D w I9 w9 [OElink_Link b3 x_3, BxC b_p1 3 [.int .i64 x0_3], BxC b_h 48 [v9, v10, .pointer (some ⟨b3, 0, none⟩), v12, .bool h.made], PtC OElink_Link v9 (h.l.getD 0 none), PtC OElink_Link v10 (h.l.getD 1 none), PtC OElink_Link v12 (h.l.getD 3 none)] := hF2 K
    clear hF2 K
    refine s_end Z [] rfl ?_; clear Z; intro Z
    refine p_then (wp_seq (f_region Z ?_)); clear Z; intro Z
    refine s_runk tHb1 Z 1 rfl rfl ?_; clear Z a; intro a Z
    refine s_end Z [6] rfl ?_; clear Z; intro Z
    refine p_then (wp_ret ?_)
    replace H : Hf I D w I9 w9 [PtC OElink_Link (.pointer (some ⟨b3, 0, none⟩)) (some x_3), BxC b_p1 3 [.int .i64 x0_3], BxC b_h 48 [v9, v10, .pointer (some ⟨b3, 0, none⟩), v12, .bool h.made], PtC OElink_Link v9 (h.l.getD 0 none), PtC OElink_Link v10 (h.l.getD 1 none), PtC OElink_Link v12 (h.l.getD 3 none)] := H.mkS (K := OElink_Link) 0 rfl
    replace H : Hf I D w I9 w9 [OEhub_Hub b_h ({ h with l := [(h.l.getD 0 none), (h.l.getD 1 none), some x_3, (h.l.getD 3 none)] } : Ehub_Hub), BxC b_p1 3 [.int .i64 x0_3]] := H.shutX (v9, v10, .pointer (some ⟨b3, 0, none⟩), v12) [(2, false), (2, false), (2, false), (0, false), (1, false)] rfl
    obtain rfl := some_in hF
    exact f_ret Z (run_results1 rfl Z rfl) ⟨rfl, I9, (H.sub [(0, false), (0, false)] rfl).eq rfl⟩
 replace hF := ite_f hi3 hF
 refine bsplit (id == 3) (fun hi4 => ?_) (fun hi4 => ?_)
 ·replace hF := ite_t hi4 hF
  obtain ⟨n0_7, hx10, hF⟩ := bnd_in hF
  refine f_region Z ?_; clear Z; intro Z
  refine s_runk tHb1 Z 1 rfl rfl ?_; clear Z a; intro a Z
  refine h_call Z H (js := [(0, false)]) rfl (caps := #[]) fn_16_YHb1 rfl rfl rfl rfl rfl (by decide) rfl rfl (fun D1 hS => have hq := c_hub_Hub_none hx10 hS; hq) ?_; clear Z a; intro vv a w10 D2 hr hF2 Z
  obtain ⟨rfl, I10, K⟩ := hr
  have H : Hf I D w I10 w10 [OEhub_Hub b_h h, BxC b_p1 3 [.int .i64 p1]] := hF2 K
  clear hF2 K
  refine s_runk tHb1 Z 1 rfl rfl ?_; clear Z a; intro a Z
  refine g_ob Z (p := (!n0_7)) (v := .int .i64 id) (S' := [(1, .int .i64 id)]) rfl rfl rfl (wantB_f _) rfl (by decide) (fun hp hS => hS.sub (ts := [1]) rfl) (fun hp => Ob_c tHb1 rfl) ?_; clear Z a; intro a Z
  refine g_ob Z (p := (!n0_7)) (v := .bool (decide (id < 0))) (S' := [(10, .int .i64 id)]) rfl rfl rfl (wantB_f _) rfl (by decide) (fun hp hS => (hS.conv (t := 10) rfl (cond_t hp)).sub (ts := [10]) rfl) (fun hp => Ob_c tHb1 rfl) ?_; clear Z a; intro a Z
  refine s_ob Z (v := .bool (n0_7 || (decide (id < 0)))) rfl rfl (by decide) rfl (Ob_pick rfl rfl rfl rfl (pick_or _ _)) ?_; clear Z a; intro a Z
  refine s_runk tHb1 Z 1 rfl rfl ?_; clear Z a; intro a Z
  refine g_ob Z (p := (!(n0_7 || (decide (id < 0))))) (v := .int .i64 id) (S' := [(1, .int .i64 id)]) rfl rfl rfl (wantB_f _) rfl (by decide) (fun hp hS => hS.sub (ts := [1]) rfl) (fun hp => Ob_c tHb1 rfl) ?_; clear Z a; intro a Z
  refine g_ob Z (p := (!(n0_7 || (decide (id < 0))))) (v := .bool (decide (id ≥ 4))) (S' := [(14, .int .i64 id)]) rfl rfl rfl (wantB_f _) rfl (by decide) (fun hp hS => (hS.conv (t := 14) rfl (cond_t hp)).sub (ts := [14]) rfl) (fun hp => Ob_c tHb1 rfl) ?_; clear Z a; intro a Z
  refine s_ob Z (v := .bool ((n0_7 || (decide (id < 0))) || (decide (id ≥ 4)))) rfl rfl (by decide) rfl (Ob_pick rfl rfl rfl rfl (pick_or _ _)) ?_; clear Z a; intro a Z
  refine s_runk tHb1 Z 1 rfl rfl ?_; clear Z a; intro a Z
  refine g_ob Z (p := (!((n0_7 || (decide (id < 0))) || (decide (id ≥ 4))))) (v := .pointer (some ⟨b_h, 0, none⟩)) (S' := [(0, .pointer (some ⟨b_h, 0, none⟩))]) rfl rfl rfl (wantB_f _) rfl (by decide) (fun hp hS => hS.sub (ts := [0]) rfl) (fun hp => Ob_c tHb1 rfl) ?_; clear Z a; intro a Z
  refine g_ob Z (p := (!((n0_7 || (decide (id < 0))) || (decide (id ≥ 4))))) (v := .int .i64 id) (S' := [(1, .int .i64 id)]) rfl rfl rfl (wantB_f _) rfl (by decide) (fun hp hS => hS.sub (ts := [1]) rfl) (fun hp => Ob_c tHb1 rfl) ?_; clear Z a; intro a Z
  refine g_ob Z (p := (!((n0_7 || (decide (id < 0))) || (decide (id ≥ 4))))) (v := .pointer (some ⟨b_h, 0, none⟩)) (S' := [(18, .pointer (some ⟨b_h, 0, none⟩))]) rfl rfl rfl (wantB_f _) rfl (by decide) (fun hp hS => (hS.conv (t := 18) rfl (cond_t hp)).sub (ts := [18]) rfl) (fun hp => Ob_c tHb1 rfl) ?_; clear Z a; intro a Z
  refine g_ob Z (p := (!((n0_7 || (decide (id < 0))) || (decide (id ≥ 4))))) (v := .pointer (some ⟨b_h, 0, none⟩)) (S' := [(20, .pointer (some ⟨b_h, 0, none⟩))]) rfl rfl rfl (wantB_f _) rfl (by decide) (fun hp hS => (hS.conv (t := 20) rfl (cond_t hp)).sub (ts := [20]) rfl) (fun hp => Ob_c tHb1 rfl) ?_; clear Z a; intro a Z
  refine g_ob Z (p := (!((n0_7 || (decide (id < 0))) || (decide (id ≥ 4))))) (v := .pointer (some ⟨b_h, 3, none⟩)) (S' := [(21, .pointer (some ⟨b_h, 0, none⟩)), (19, .int .i64 id)]) rfl rfl rfl (wantB_f _) rfl (by decide) (fun hp hS => ((hS.conv (t := 21) rfl (cond_t hp)).conv (t := 19) rfl (cond_t hp)).sub (ts := [21, 19]) rfl) (fun hp => Ob_apix (m := 1) 3 rfl rfl rfl Try.underlying46 (by kernel_rfl) (eq_of_beq hi4) (by decide)) ?_; clear Z a; intro a Z
  obtain ⟨⟨v13, v14, v15, v16⟩, H⟩ := H.openX 0 rfl
  replace H : Hf I D w I10 w10 [BxC b_h 48 [v13, v14, v15, v16, .bool h.made], PtC OElink_Link v13 (h.l.getD 0 none), PtC OElink_Link v14 (h.l.getD 1 none), PtC OElink_Link v15 (h.l.getD 2 none), PtC OElink_Link v16 (h.l.getD 3 none), BxC b_p1 3 [.int .i64 p1]] := H
  refine g_ob Z (p := (!((n0_7 || (decide (id < 0))) || (decide (id ≥ 4))))) (v := v16) (S' := [(22, .pointer (some ⟨b_h, 3, none⟩))]) rfl rfl rfl (wantB_f _) rfl (by decide) (fun hp hS => (hS.conv (t := 22) rfl (cond_t hp)).sub (ts := [22]) rfl) (fun hp => Ob_load tHb1 rfl rfl rfl ((H.bx 0 rfl).cell 3 rfl)) ?_; clear Z a; intro a Z
  refine g_ob Z (p := (!((n0_7 || (decide (id < 0))) || (decide (id ≥ 4))))) (v := .bool ((h.l.getD 3 none).isNone)) (S' := [(23, v16)]) rfl rfl rfl (wantB_f _) rfl (by decide) (fun hp hS => (hS.conv (t := 23) rfl (cond_t hp)).sub (ts := [23]) rfl) (fun hp => Ob_popt (q := (h.l.getD 3 none)) rfl rfl rfl Try.underlying45 (H.optI 4 rfl) (.inl ⟨rfl, rfl⟩)) ?_; clear Z a; intro a Z
  refine s_ob Z (v := .bool (((n0_7 || (decide (id < 0))) || (decide (id ≥ 4))) || ((h.l.getD 3 none).isNone))) rfl rfl (by decide) rfl (Ob_pick rfl rfl rfl rfl (pick_or _ _)) ?_; clear Z a; intro a Z
  refine s_end Z [0, 1, 2, 25] rfl ?_; clear Z; intro Z
  refine p_then ?_
  refine f_cond Z rfl (fun hc4 => ?_) (fun hc4 => ?_)
  ·replace hF := ite_t hc4 hF
   refine wp_seq (f_region Z ?_); clear Z; intro Z
   refine s_runk tHb1 Z 1 rfl rfl ?_; clear Z a; intro a Z
   refine s_end Z [6] rfl ?_; clear Z; intro Z
   refine p_then (wp_ret ?_)
   refine p_then_r ?_
   replace H : Hf I D w I10 w10 [OEhub_Hub b_h h, BxC b_p1 3 [.int .i64 p1]] := H.shutX (v13, v14, v15, v16) [(0, false), (0, false), (0, false), (0, false), (0, false)] rfl
   obtain rfl := some_in hF
   exact f_ret Z (run_results1 rfl Z rfl) ⟨rfl, I10, (H.sub [(0, false), (0, false)] rfl).eq rfl⟩
  ·replace hF := ite_f hc4 hF
   refine wp_skip ?_
   refine p_then (wp_seq ?_)
   rcases optE_in hF with ⟨ho4, hF⟩ | ⟨x_4, ho4, hF⟩
   ·obtain ⟨hv, H⟩ := H.optN 4 rfl ho4
    subst hv
    replace H : Hf I D w I10 w10 [BxC b_h 48 [v13, v14, v15, .pointer none, .bool h.made], PtC OElink_Link v13 (h.l.getD 0 none), PtC OElink_Link v14 (h.l.getD 1 none), PtC OElink_Link v15 (h.l.getD 2 none), BxC b_p1 3 [.int .i64 p1]] := H
    obtain ⟨n0_8, hx11, hF⟩ := bnd_in hF
    refine f_region Z ?_; clear Z; intro Z
    refine s_runk tHb1 Z 5 rfl rfl ?_; clear Z a; intro a Z
    refine s_ob Z (v := .pointer (some ⟨b_h, 3, none⟩)) rfl rfl (by decide) rfl (Ob_apix (m := 1) 3 rfl rfl rfl Try.underlying46 (by kernel_rfl) (eq_of_beq hi4) (by decide)) ?_; clear Z a; intro a Z
    refine s_ob Z (v := .pointer none) rfl rfl (by decide) rfl (Ob_load tHb1 rfl rfl rfl ((H.bx 0 rfl).cell 3 rfl)) ?_; clear Z a; intro a Z
    refine h_call Z H (js := [(4, false)]) rfl (caps := #[.pointer (some ⟨b_p1, 0, none⟩)]) fn_22_YHb1 rfl rfl rfl rfl rfl (by decide) rfl rfl (fun D1 hS => have hq := c_hub_Hub_Waiting_1_nil hx11 hS; hq) ?_; clear Z a; intro vv a w11 D2 hr hF2 Z
    obtain ⟨rfl, I11, K⟩ := hr
    have H : Hf I D w I11 w11 [BxC b_p1 3 [.int .i64 n0_8], BxC b_h 48 [v13, v14, v15, .pointer none, .bool h.made], PtC OElink_Link v13 (h.l.getD 0 none), PtC OElink_Link v14 (h.l.getD 1 none), PtC OElink_Link v15 (h.l.getD 2 none)] := hF2 K
    clear hF2 K
    refine s_end Z [] rfl ?_; clear Z; intro Z
    refine p_then (wp_seq (f_region Z ?_)); clear Z; intro Z
    refine s_runk tHb1 Z 1 rfl rfl ?_; clear Z a; intro a Z
    refine s_end Z [6] rfl ?_; clear Z; intro Z
    refine p_then (wp_ret ?_)
    replace H : Hf I D w I11 w11 [PtC OElink_Link (.pointer none) none, BxC b_p1 3 [.int .i64 n0_8], BxC b_h 48 [v13, v14, v15, .pointer none, .bool h.made], PtC OElink_Link v13 (h.l.getD 0 none), PtC OElink_Link v14 (h.l.getD 1 none), PtC OElink_Link v15 (h.l.getD 2 none)] := H.mkN OElink_Link
    replace H : Hf I D w I11 w11 [OEhub_Hub b_h ({ h with l := [(h.l.getD 0 none), (h.l.getD 1 none), (h.l.getD 2 none), none] } : Ehub_Hub), BxC b_p1 3 [.int .i64 n0_8]] := H.shutX (v13, v14, v15, .pointer none) [(2, false), (2, false), (2, false), (2, false), (0, false)] rfl
    obtain rfl := some_in hF
    exact f_ret Z (run_results1 rfl Z rfl) ⟨rfl, I11, (H.sub [(0, false), (0, false)] rfl).eq rfl⟩
   ·obtain ⟨b4, hv, H⟩ := H.optS 4 rfl ho4
    subst hv
    replace H : Hf I D w I10 w10 [OElink_Link b4 x_4, BxC b_h 48 [v13, v14, v15, .pointer (some ⟨b4, 0, none⟩), .bool h.made], PtC OElink_Link v13 (h.l.getD 0 none), PtC OElink_Link v14 (h.l.getD 1 none), PtC OElink_Link v15 (h.l.getD 2 none), BxC b_p1 3 [.int .i64 p1]] := H
    obtain ⟨x0_4, hx12, hF⟩ := bnd_in hF
    refine f_region Z ?_; clear Z; intro Z
    refine s_runk tHb1 Z 5 rfl rfl ?_; clear Z a; intro a Z
    refine s_ob Z (v := .pointer (some ⟨b_h, 3, none⟩)) rfl rfl (by decide) rfl (Ob_apix (m := 1) 3 rfl rfl rfl Try.underlying46 (by kernel_rfl) (eq_of_beq hi4) (by decide)) ?_; clear Z a; intro a Z
    refine s_ob Z (v := .pointer (some ⟨b4, 0, none⟩)) rfl rfl (by decide) rfl (Ob_load tHb1 rfl rfl rfl ((H.bx 1 rfl).cell 3 rfl)) ?_; clear Z a; intro a Z
    refine h_call Z H (js := [(0, false), (4, false)]) rfl (caps := #[.pointer (some ⟨b_p1, 0, none⟩)]) fn_22_YHb1 rfl rfl rfl rfl rfl (by decide) rfl rfl (fun D1 hS => have hq := c_hub_Hub_Waiting_1 hx12 hS; hq) ?_; clear Z a; intro vv a w12 D2 hr hF2 Z
    obtain ⟨rfl, I12, K⟩ := hr
    have H : Hf I D w I12 w12 [OElink_Link b4 x_4, BxC b_p1 3 [.int .i64 x0_4], BxC b_h 48 [v13, v14, v15, .pointer (some ⟨b4, 0, none⟩), .bool h.made], PtC OElink_Link v13 (h.l.getD 0 none), PtC OElink_Link v14 (h.l.getD 1 none), PtC OElink_Link v15 (h.l.getD 2 none)] := hF2 K
    clear hF2 K
    refine s_end Z [] rfl ?_; clear Z; intro Z
    refine p_then (wp_seq (f_region Z ?_)); clear Z; intro Z
    refine s_runk tHb1 Z 1 rfl rfl ?_; clear Z a; intro a Z
    refine s_end Z [6] rfl ?_; clear Z; intro Z
    refine p_then (wp_ret ?_)
    replace H : Hf I D w I12 w12 [PtC OElink_Link (.pointer (some ⟨b4, 0, none⟩)) (some x_4), BxC b_p1 3 [.int .i64 x0_4], BxC b_h 48 [v13, v14, v15, .pointer (some ⟨b4, 0, none⟩), .bool h.made], PtC OElink_Link v13 (h.l.getD 0 none), PtC OElink_Link v14 (h.l.getD 1 none), PtC OElink_Link v15 (h.l.getD 2 none)] := H.mkS (K := OElink_Link) 0 rfl
    replace H : Hf I D w I12 w12 [OEhub_Hub b_h ({ h with l := [(h.l.getD 0 none), (h.l.getD 1 none), (h.l.getD 2 none), some x_4] } : Ehub_Hub), BxC b_p1 3 [.int .i64 x0_4]] := H.shutX (v13, v14, v15, .pointer (some ⟨b4, 0, none⟩)) [(2, false), (2, false), (2, false), (2, false), (0, false)] rfl
    obtain rfl := some_in hF
    exact f_ret Z (run_results1 rfl Z rfl) ⟨rfl, I12, (H.sub [(0, false), (0, false)] rfl).eq rfl⟩
 replace hF := ite_f hi4 hF
 obtain ⟨n0_9, hx13, hF⟩ := bnd_in hF
 obtain ⟨hg1, hF⟩ := chk_in hF
 refine f_region Z ?_; clear Z; intro Z
 refine s_runk tHb1 Z 1 rfl rfl ?_; clear Z a; intro a Z
 refine h_call Z H (js := [(0, false)]) rfl (caps := #[]) fn_16_YHb1 rfl rfl rfl rfl rfl (by decide) rfl rfl (fun D1 hS => have hq := c_hub_Hub_none hx13 hS; hq) ?_; clear Z a; intro vv a w13 D2 hr hF2 Z
 obtain ⟨rfl, I13, K⟩ := hr
 have H : Hf I D w I13 w13 [OEhub_Hub b_h h, BxC b_p1 3 [.int .i64 p1]] := hF2 K
 clear hF2 K
 refine s_runk tHb1 Z 1 rfl rfl ?_; clear Z a; intro a Z
 refine g_ob Z (p := (!n0_9)) (v := .int .i64 id) (S' := [(1, .int .i64 id)]) rfl rfl rfl (wantB_f _) rfl (by decide) (fun hp hS => hS.sub (ts := [1]) rfl) (fun hp => Ob_c tHb1 rfl) ?_; clear Z a; intro a Z
 refine g_ob Z (p := (!n0_9)) (v := .bool (decide (id < 0))) (S' := [(10, .int .i64 id)]) rfl rfl rfl (wantB_f _) rfl (by decide) (fun hp hS => (hS.conv (t := 10) rfl (cond_t hp)).sub (ts := [10]) rfl) (fun hp => Ob_c tHb1 rfl) ?_; clear Z a; intro a Z
 refine s_ob Z (v := .bool (n0_9 || (decide (id < 0)))) rfl rfl (by decide) rfl (Ob_pick rfl rfl rfl rfl (pick_or _ _)) ?_; clear Z a; intro a Z
 refine s_runk tHb1 Z 1 rfl rfl ?_; clear Z a; intro a Z
 refine g_ob Z (p := (!(n0_9 || (decide (id < 0))))) (v := .int .i64 id) (S' := [(1, .int .i64 id)]) rfl rfl rfl (wantB_f _) rfl (by decide) (fun hp hS => hS.sub (ts := [1]) rfl) (fun hp => Ob_c tHb1 rfl) ?_; clear Z a; intro a Z
 refine g_ob Z (p := (!(n0_9 || (decide (id < 0))))) (v := .bool (decide (id ≥ 4))) (S' := [(14, .int .i64 id)]) rfl rfl rfl (wantB_f _) rfl (by decide) (fun hp hS => (hS.conv (t := 14) rfl (cond_t hp)).sub (ts := [14]) rfl) (fun hp => Ob_c tHb1 rfl) ?_; clear Z a; intro a Z
 refine s_ob Z (v := .bool ((n0_9 || (decide (id < 0))) || (decide (id ≥ 4)))) rfl rfl (by decide) rfl (Ob_pick rfl rfl rfl rfl (pick_or _ _)) ?_; clear Z a; intro a Z
 refine s_runk tHb1 Z 1 rfl rfl ?_; clear Z a; intro a Z
 refine g_ob Z (p := (!((n0_9 || (decide (id < 0))) || (decide (id ≥ 4))))) (v := .pointer (some ⟨b_h, 0, none⟩)) (S' := [(0, .pointer (some ⟨b_h, 0, none⟩))]) rfl rfl rfl (wantB_f _) rfl (by decide) (fun hp hS => hS.sub (ts := [0]) rfl) (fun hp => Ob_c tHb1 rfl) ?_; clear Z a; intro a Z
 refine g_ob Z (p := (!((n0_9 || (decide (id < 0))) || (decide (id ≥ 4))))) (v := .int .i64 id) (S' := [(1, .int .i64 id)]) rfl rfl rfl (wantB_f _) rfl (by decide) (fun hp hS => hS.sub (ts := [1]) rfl) (fun hp => Ob_c tHb1 rfl) ?_; clear Z a; intro a Z
 refine g_ob Z (p := (!((n0_9 || (decide (id < 0))) || (decide (id ≥ 4))))) (v := .pointer (some ⟨b_h, 0, none⟩)) (S' := [(18, .pointer (some ⟨b_h, 0, none⟩))]) rfl rfl rfl (wantB_f _) rfl (by decide) (fun hp hS => (hS.conv (t := 18) rfl (cond_t hp)).sub (ts := [18]) rfl) (fun hp => Ob_c tHb1 rfl) ?_; clear Z a; intro a Z
 refine g_ob Z (p := (!((n0_9 || (decide (id < 0))) || (decide (id ≥ 4))))) (v := .pointer (some ⟨b_h, 0, none⟩)) (S' := [(20, .pointer (some ⟨b_h, 0, none⟩))]) rfl rfl rfl (wantB_f _) rfl (by decide) (fun hp hS => (hS.conv (t := 20) rfl (cond_t hp)).sub (ts := [20]) rfl) (fun hp => Ob_c tHb1 rfl) ?_; clear Z a; intro a Z
 refine g_ob Z (p := (!((n0_9 || (decide (id < 0))) || (decide (id ≥ 4))))) (v := .pointer (some ⟨b_h, 0, none⟩)) (S' := [(21, .pointer (some ⟨b_h, 0, none⟩)), (19, .int .i64 id)]) rfl rfl rfl (wantB_f _) rfl (by decide) (fun hp hS => ((hS.conv (t := 21) rfl (cond_t hp)).conv (t := 19) rfl (cond_t hp)).sub (ts := [21, 19]) rfl) (fun hp => (False.elim (hg1 hp))) ?_; clear Z a; intro a Z
 obtain ⟨⟨v17, v18, v19, v20⟩, H⟩ := H.openX 0 rfl
 replace H : Hf I D w I13 w13 [BxC b_h 48 [v17, v18, v19, v20, .bool h.made], PtC OElink_Link v17 (h.l.getD 0 none), PtC OElink_Link v18 (h.l.getD 1 none), PtC OElink_Link v19 (h.l.getD 2 none), PtC OElink_Link v20 (h.l.getD 3 none), BxC b_p1 3 [.int .i64 p1]] := H
 refine g_ob Z (p := (!((n0_9 || (decide (id < 0))) || (decide (id ≥ 4))))) (v := v17) (S' := [(22, .pointer (some ⟨b_h, 0, none⟩))]) rfl rfl rfl (wantB_f _) rfl (by decide) (fun hp hS => (hS.conv (t := 22) rfl (cond_t hp)).sub (ts := [22]) rfl) (fun hp => Ob_load tHb1 rfl rfl rfl ((H.bx 0 rfl).cell 0 rfl)) ?_; clear Z a; intro a Z
 refine g_ob Z (p := (!((n0_9 || (decide (id < 0))) || (decide (id ≥ 4))))) (v := .bool ((h.l.getD 0 none).isNone)) (S' := [(23, v17)]) rfl rfl rfl (wantB_f _) rfl (by decide) (fun hp hS => (hS.conv (t := 23) rfl (cond_t hp)).sub (ts := [23]) rfl) (fun hp => Ob_popt (q := (h.l.getD 0 none)) rfl rfl rfl Try.underlying45 (H.optI 1 rfl) (.inl ⟨rfl, rfl⟩)) ?_; clear Z a; intro a Z
 refine s_ob Z (v := .bool (((n0_9 || (decide (id < 0))) || (decide (id ≥ 4))) || ((h.l.getD 0 none).isNone))) rfl rfl (by decide) rfl (Ob_pick rfl rfl rfl rfl (pick_or _ _)) ?_; clear Z a; intro a Z
 refine s_end Z [0, 1, 2, 25] rfl ?_; clear Z; intro Z
 refine p_then ?_
 refine f_cond Z rfl (fun hc5 => ?_) (fun hc5 => ?_)
 ·replace hF := ite_t hc5 hF
  refine wp_seq (f_region Z ?_); clear Z; intro Z
  refine s_runk tHb1 Z 1 rfl rfl ?_; clear Z a; intro a Z
  refine s_end Z [6] rfl ?_; clear Z; intro Z
  refine p_then (wp_ret ?_)
  refine p_then_r ?_
  replace H : Hf I D w I13 w13 [OEhub_Hub b_h h, BxC b_p1 3 [.int .i64 p1]] := H.shutX (v17, v18, v19, v20) [(0, false), (0, false), (0, false), (0, false), (0, false)] rfl
  obtain rfl := some_in hF
  exact f_ret Z (run_results1 rfl Z rfl) ⟨rfl, I13, (H.sub [(0, false), (0, false)] rfl).eq rfl⟩
 ·replace hF := ite_f hc5 hF
  refine wp_skip ?_
  refine p_then (wp_seq ?_)
  cases hF

def F_hub_Hub_Waiting (h : Ehub_Hub) (to_ : Int) : Option (Int × Ehub_Hub) := (F_hub_Hub_with__hub_Hub_Waiting_1 h to_ 0).bind fun x0 => (some (x0.2.2, x0.2.1))

set_option maxHeartbeats 1000000 in
theorem c_hub_Hub_Waiting {I D : Dm} {b_h : Nat} {h : Ehub_Hub} {to_ : Int} {w : World} {rr : Int × Ehub_Hub} (hF : F_hub_Hub_Waiting h to_ = some rr) (H : St I D w [OEhub_Hub b_h h]) :
  Calls Try.prog 9 #[.pointer (some ⟨b_h, 0, none⟩), .int .i64 to_] w (Ret fun vv w' => vv = .int .i64 rr.1 ∧ ∃ I', Hf I D w I' w' [OEhub_Hub b_h rr.2]) := by
 replace H := H.hf
 unfold F_hub_Hub_Waiting at hF
 refine f_enter 10 Try.func9 rfl rfl (Nat.le_of_ble_eq_true rfl) fun a Z => ?_
 replace Z := Z.sub (ts := [0, 1]) rfl
 refine wp_seq (f_region Z ?_); clear Z; intro Z
 refine h_alloc Z H (cl := [.int .i64 0]) (z := .int .i64 0) rfl rfl rfl (by decide) rfl (by kernel_rfl) rfl ?_; clear Z a H; intro a w1 b1 H Z
 refine s_end Z [0, 1, 4] rfl ?_; clear Z; intro Z
 refine p_then (wp_seq ?_)
 obtain ⟨x0, hx1, hF⟩ := bnd_in hF
 refine f_region Z ?_; clear Z; intro Z
 refine s_runk tHb1 Z 3 rfl rfl ?_; clear Z a; intro a Z
 refine h_call Z H (js := [(1, false), (0, false)]) rfl (caps := #[]) fn_12_YHb1 rfl rfl rfl rfl rfl (by decide) rfl rfl (fun D1 hS => have hq := c_hub_Hub_with__hub_Hub_Waiting_1 hx1 hS; hq) ?_; clear Z a; intro vv a w2 D2 hr hF2 Z
 obtain ⟨rfl, I1, K⟩ := hr
 have H : Hf I D w I1 w2 [OEhub_Hub b_h x0.2.1, BxC b1 3 [.int .i64 x0.2.2]] := hF2 K
 clear hF2 K
 refine s_end Z [4] rfl ?_; clear Z; intro Z
 refine p_then (wp_seq (f_region Z ?_)); clear Z; intro Z
 refine s_ob Z (v := .int .i64 x0.2.2) rfl rfl (by decide) rfl (Ob_load tHb1 rfl rfl rfl ((H.bx 1 rfl).cell 0 rfl)) ?_; clear Z a; intro a Z
 refine h_store tHb1 Z H 1 rfl rfl rfl rfl rfl rfl rfl rfl rfl (one_cons rfl one_nil) (Nat.le_of_ble_eq_true rfl) rfl ?_; clear H; intro w3 H
 dsimp only [List.eraseIdx] at H
 refine s_end Z [4] rfl ?_; clear Z; intro Z
 refine p_then (wp_ret ?_)
 obtain rfl := some_in hF
 exact f_ret Z (run_resultsC rfl Z rfl (run_loadVar_one tHb1 rfl ((H.bx 0 rfl).cell 0 rfl))) ⟨rfl, I1, (H.sub [(1, false)] rfl).eq rfl⟩

def F_link_Link_In_nil (s0 : ESeg) : Option ((List ByteArray) × Int) := (F_link_Link_none_nil).bind fun n0 => (if (n0) = true then (some (([] : List ByteArray), 8)) else ((F_link_may s0).bind fun m => (if (!m) = true then (some (([] : List ByteArray), 1)) else (none))))

set_option maxHeartbeats 1000000 in
theorem c_link_Link_In_nil {I D : Dm} {s0 : ESeg} {w : World} {rr : (List ByteArray) × Int} (hF : F_link_Link_In_nil s0 = some rr) (H : St I D w []) :
  Calls Try.prog 21 #[.pointer none, .agg #[.int .i64 s0.boot, .int .i64 s0.stream, .int .i64 s0.seq, .int .i64 s0.ackBoot, .int .i64 s0.ackStream, .int .i64 s0.ackSeq, .bool s0.has, .string s0.body]] w (Ret fun vv w' => ∃ q1 : Value, vv = .tuple #[q1, .int .i64 rr.2] ∧ ∃ I', Hf I D w I' w' [SlC NS q1 rr.1]) := by
 replace H := H.hf
 unfold F_link_Link_In_nil at hF
 refine f_enter 89 Try.func21 rfl rfl (Nat.le_of_ble_eq_true rfl) fun a Z => ?_
 replace Z := Z.sub (ts := [0, 1]) rfl
 refine wp_seq (f_region Z ?_); clear Z; intro Z
 refine h_boxv Z H (cl := [.int .i64 s0.boot, .int .i64 s0.stream, .int .i64 s0.seq, .int .i64 s0.ackBoot, .int .i64 s0.ackStream, .int .i64 s0.ackSeq, .bool s0.has, .string s0.body]) rfl rfl rfl (by decide) rfl rfl rfl ?_; clear Z a H; intro a w1 b1 H Z
 refine s_runk tHb1 Z 2 rfl rfl ?_; clear Z a; intro a Z
 refine s_end Z [0, 3] rfl ?_; clear Z; intro Z
 refine p_then (wp_seq ?_)
 refine wp_block ?_
 refine wp_seq ?_
 obtain ⟨n0, hx1, hF⟩ := bnd_in hF
 refine f_region Z ?_; clear Z; intro Z
 refine s_runk tHb1 Z 1 rfl rfl ?_; clear Z a; intro a Z
 refine h_call Z H (js := []) rfl (caps := #[]) fn_24_YHb1 rfl rfl rfl rfl rfl (by decide) rfl rfl (fun D1 hS => have hq := c_link_Link_none_nil hx1 hS; hq) ?_; clear Z a; intro vv a w2 D2 hr hF2 Z
 obtain ⟨rfl, I1, K⟩ := hr
 have H : Hf I D w I1 w2 [BxC b1 58 (cESeg s0)] := hF2 K
 clear hF2 K
 refine s_runk tHb1 Z 1 rfl rfl ?_; clear Z a; intro a Z
 refine s_end Z [0, 3, 7] rfl ?_; clear Z; intro Z
 refine p_then ?_
 refine f_cond Z rfl (fun hc1 => ?_) (fun hc1 => ?_)
 ·replace hF := ite_t hc1 hF
  refine wp_seq (f_region Z ?_); clear Z; intro Z
  refine s_runk tHb1 Z 2 rfl rfl ?_; clear Z a; intro a Z
  refine s_end Z [4, 5] rfl ?_; clear Z; intro Z
  refine p_then (wp_ret ?_)
  refine p_blk_r ?_
  refine p_then_r ?_
  replace H : Hf I D w I1 w2 [SlC NS (.slice none 0 0) ([] : List ByteArray), BxC b1 58 (cESeg s0)] := H.slNil NS
  obtain rfl := some_in hF
  exact f_ret Z (run_results2 rfl Z rfl rfl) ⟨.slice none 0 0, rfl, I1, (H.sub [(0, true)] rfl).eq rfl⟩
 ·replace hF := ite_f hc1 hF
  refine wp_seq ?_
  obtain ⟨m, hx2, hF⟩ := bnd_in hF
  refine f_region Z ?_; clear Z; intro Z
  refine s_ob Z (v := .agg #[.int .i64 s0.boot, .int .i64 s0.stream, .int .i64 s0.seq, .int .i64 s0.ackBoot, .int .i64 s0.ackStream, .int .i64 s0.ackSeq, .bool s0.has, .string s0.body]) rfl rfl (by decide) rfl (Ob_loads tHb1 rfl rfl rfl ((H.bx 0 rfl).part 0 rfl)) ?_; clear Z a; intro a Z
  refine h_call Z H (js := []) rfl (caps := #[]) fn_38_YHb1 rfl rfl rfl rfl rfl (by decide) rfl rfl (fun D1 hS => have hq := c_link_may hx2 hS; hq) ?_; clear Z a; intro vv a w3 D2 hr hF2 Z
  obtain ⟨rfl, I2, K⟩ := hr
  have H : Hf I D w I2 w3 [BxC b1 58 (cESeg s0)] := hF2 K
  clear hF2 K
  refine s_runk tHb1 Z 2 rfl rfl ?_; clear Z a; intro a Z
  refine s_end Z [0, 3, 10] rfl ?_; clear Z; intro Z
  refine p_then ?_
  refine f_cond Z rfl (fun hc2 => ?_) (fun hc2 => ?_)
  ·replace hF := ite_t hc2 hF
   refine wp_seq (f_region Z ?_); clear Z; intro Z
   refine s_runk tHb1 Z 2 rfl rfl ?_; clear Z a; intro a Z
   refine s_end Z [4, 5] rfl ?_; clear Z; intro Z
   refine p_then (wp_ret ?_)
   refine p_blk_r ?_
   refine p_then_r ?_
   replace H : Hf I D w I2 w3 [SlC NS (.slice none 0 0) ([] : List ByteArray), BxC b1 58 (cESeg s0)] := H.slNil NS
   obtain rfl := some_in hF
   exact f_ret Z (run_results2 rfl Z rfl rfl) ⟨.slice none 0 0, rfl, I2, (H.sub [(0, true)] rfl).eq rfl⟩
  ·replace hF := ite_f hc2 hF
   refine wp_seq ?_
   cases hF

def F_hub_Hub_In_1_nil (p1 : ByteArray) (p2 : Int) (p3 : List ByteArray) : Option (Int × (List ByteArray)) := (F_link_Of p1).bind fun o => (if (o.2 != 0) = true then (some (o.2, p3)) else ((F_link_Link_In_nil o.1).bind fun n0 => (some (n0.2, n0.1))))

set_option maxHeartbeats 1000000 in
theorem c_hub_Hub_In_1_nil {I D : Dm} {b_p1 : Nat} {p1 : ByteArray} {b_p2 : Nat} {p2 : Int} {b_p3 : Nat} {p3 : List ByteArray} {v1_p3 : Value} {w : World} {rr : Int × (List ByteArray)} (hF : F_hub_Hub_In_1_nil p1 p2 p3 = some rr) (H : St I D w [BxC b_p1 9 [.string p1], BxC b_p2 25 [.int .i64 p2], BxC b_p3 28 [v1_p3], SlC NS v1_p3 p3]) :
  Calls Try.prog 19 #[.pointer none, .pointer (some ⟨b_p1, 0, none⟩), .pointer (some ⟨b_p2, 0, none⟩), .pointer (some ⟨b_p3, 0, none⟩)] w (Ret fun vv w' => ∃ q1 : Value, vv = .tuple #[] ∧ ∃ I', Hf I D w I' w' [BxC b_p1 9 [.string p1], BxC b_p2 25 [.int .i64 rr.1], BxC b_p3 28 [q1], SlC NS q1 rr.2]) := by
 replace H := H.hf
 unfold F_hub_Hub_In_1_nil at hF
 refine f_enter 21 Try.func19 rfl rfl (Nat.le_of_ble_eq_true rfl) fun a Z => ?_
 replace Z := Z.sub (ts := [0, 1, 2, 3]) rfl
 refine wp_seq ?_
 obtain ⟨o, hx1, hF⟩ := bnd_in hF
 refine f_region Z ?_; clear Z; intro Z
 refine s_ob Z (v := .string p1) rfl rfl (by decide) rfl (Ob_load tHb1 rfl rfl rfl ((H.bx 0 rfl).cell 0 rfl)) ?_; clear Z a; intro a Z
 refine h_call Z H (js := []) rfl (caps := #[]) fn_20_YHb1 rfl rfl rfl rfl rfl (by decide) rfl rfl (fun D1 hS => have hq := c_link_Of hx1 hS; hq) ?_; clear Z a; intro vv a w1 D2 hr hF2 Z
 obtain ⟨rfl, I1, K⟩ := hr
 have H : Hf I D w I1 w1 [BxC b_p1 9 [.string p1], BxC b_p2 25 [.int .i64 p2], BxC b_p3 28 [v1_p3], SlC NS v1_p3 p3] := hF2 K
 clear hF2 K
 refine s_runk tHb1 Z 3 rfl rfl ?_; clear Z a; intro a Z
 refine h_alloc Z H (cl := [.int .i64 0, .int .i64 0, .int .i64 0, .int .i64 0, .int .i64 0, .int .i64 0, .bool false, .string ByteArray.empty]) (z := .agg #[.int .i64 0, .int .i64 0, .int .i64 0, .int .i64 0, .int .i64 0, .int .i64 0, .bool false, .string ByteArray.empty]) rfl rfl rfl (by decide) rfl (by kernel_rfl) rfl ?_; clear Z a H; intro a w2 b1 H Z
 refine h_store tHb1 Z H 0 rfl rfl rfl rfl rfl rfl rfl rfl rfl (one_cons rfl (one_cons rfl (one_cons rfl (one_cons rfl (one_cons rfl (one_cons rfl (one_cons rfl (one_cons rfl one_nil)))))))) (Nat.le_of_ble_eq_true rfl) rfl ?_; clear H; intro w3 H
 dsimp only [List.eraseIdx] at H
 refine s_runk tHb1 Z 1 rfl rfl ?_; clear Z a; intro a Z
 refine s_end Z [0, 2, 3, 5, 6] rfl ?_; clear Z; intro Z
 refine p_then (wp_seq ?_)
 refine wp_seq (f_region Z ?_); clear Z; intro Z
 refine s_runk tHb1 Z 2 rfl rfl ?_; clear Z a; intro a Z
 refine s_end Z [0, 2, 3, 5, 6, 13] rfl ?_; clear Z; intro Z
 refine p_then ?_
 refine f_cond Z rfl (fun hc1 => ?_) (fun hc1 => ?_)
 ·replace hF := ite_t hc1 hF
  refine wp_seq (f_region Z ?_); clear Z; intro Z
  refine s_runk tHb1 Z 1 rfl rfl ?_; clear Z a; intro a Z
  refine h_store tHb1 Z H 2 rfl rfl rfl rfl rfl rfl rfl rfl rfl (one_cons rfl one_nil) (Nat.le_of_ble_eq_true rfl) rfl ?_; clear H; intro w4 H
  dsimp only [List.eraseIdx] at H
  refine s_end Z [] rfl ?_; clear Z; intro Z
  refine p_then (wp_ret ?_)
  refine p_then_r ?_
  obtain rfl := some_in hF
  exact f_ret Z (run_results0 rfl) ⟨v1_p3, rfl, I1, (H.sub [(2, false), (0, false), (1, false), (1, true)] rfl).eq rfl⟩
 ·replace hF := ite_f hc1 hF
  refine wp_skip ?_
  refine p_then ?_
  obtain ⟨n0, hx2, hF⟩ := bnd_in hF
  refine f_region Z ?_; clear Z; intro Z
  refine s_runk tHb1 Z 1 rfl rfl ?_; clear Z a; intro a Z
  refine s_ob Z (v := .agg #[.int .i64 o.1.boot, .int .i64 o.1.stream, .int .i64 o.1.seq, .int .i64 o.1.ackBoot, .int .i64 o.1.ackStream, .int .i64 o.1.ackSeq, .bool o.1.has, .string o.1.body]) rfl rfl (by decide) rfl (Ob_loads tHb1 rfl rfl rfl ((H.bx 0 rfl).part 0 rfl)) ?_; clear Z a; intro a Z
  refine h_call Z H (js := []) rfl (caps := #[]) fn_21_YHb1 rfl rfl rfl rfl rfl (by decide) rfl rfl (fun D1 hS => have hq := c_link_Link_In_nil hx2 hS; hq) ?_; clear Z a; intro vv a w5 D2 hr hF2 Z
  obtain ⟨q1, rfl, I2, K⟩ := hr
  have H : Hf I D w I2 w5 [SlC NS q1 n0.1, BxC b1 58 (cESeg o.1), BxC b_p1 9 [.string p1], BxC b_p2 25 [.int .i64 p2], BxC b_p3 28 [v1_p3], SlC NS v1_p3 p3] := hF2 K
  clear hF2 K
  refine s_runk tHb1 Z 3 rfl rfl ?_; clear Z a; intro a Z
  refine h_store tHb1 Z H 4 rfl rfl rfl rfl rfl rfl (slS.cells (H.slshape 0 rfl)) rfl rfl (one_cons (slS.one (H.slshape 0 rfl)) one_nil) (Nat.le_of_ble_eq_true rfl) rfl ?_; clear H; intro w6 H
  dsimp only [List.eraseIdx] at H
  refine h_store tHb1 Z H 4 rfl rfl rfl rfl rfl rfl rfl rfl rfl (one_cons rfl one_nil) (Nat.le_of_ble_eq_true rfl) rfl ?_; clear H; intro w7 H
  dsimp only [List.eraseIdx] at H
  refine s_end Z [] rfl ?_; clear Z; intro Z
  obtain rfl := some_in hF
  exact f_fall Z (run_results0 rfl) ⟨q1, rfl, I2, (H.sub [(4, false), (0, false), (0, false), (0, true)] rfl).eq rfl⟩

def F_hub_Hub_In_1 (l : Elink_Link) (p1 : ByteArray) (p2 : Int) (p3 : List ByteArray) : Option (Elink_Link × Int × (List ByteArray)) := (F_link_Of p1).bind fun o => (if (o.2 != 0) = true then (some (l, o.2, p3)) else ((F_link_Link_In l o.1).bind fun i => (some (i.2.2, i.2.1, i.1))))

set_option maxHeartbeats 1000000 in
theorem c_hub_Hub_In_1 {I D : Dm} {b_l : Nat} {l : Elink_Link} {b_p1 : Nat} {p1 : ByteArray} {b_p2 : Nat} {p2 : Int} {b_p3 : Nat} {p3 : List ByteArray} {v1_p3 : Value} {w : World} {rr : Elink_Link × Int × (List ByteArray)} (hF : F_hub_Hub_In_1 l p1 p2 p3 = some rr) (H : St I D w [OElink_Link b_l l, BxC b_p1 9 [.string p1], BxC b_p2 25 [.int .i64 p2], BxC b_p3 28 [v1_p3], SlC NS v1_p3 p3]) :
  Calls Try.prog 19 #[.pointer (some ⟨b_l, 0, none⟩), .pointer (some ⟨b_p1, 0, none⟩), .pointer (some ⟨b_p2, 0, none⟩), .pointer (some ⟨b_p3, 0, none⟩)] w (Ret fun vv w' => ∃ q1 : Value, vv = .tuple #[] ∧ ∃ I', Hf I D w I' w' [OElink_Link b_l rr.1, BxC b_p1 9 [.string p1], BxC b_p2 25 [.int .i64 rr.2.1], BxC b_p3 28 [q1], SlC NS q1 rr.2.2]) := by
 replace H := H.hf
 unfold F_hub_Hub_In_1 at hF
 refine f_enter 21 Try.func19 rfl rfl (Nat.le_of_ble_eq_true rfl) fun a Z => ?_
 replace Z := Z.sub (ts := [0, 1, 2, 3]) rfl
 refine wp_seq ?_
 obtain ⟨o, hx1, hF⟩ := bnd_in hF
 refine f_region Z ?_; clear Z; intro Z
 refine s_ob Z (v := .string p1) rfl rfl (by decide) rfl (Ob_load tHb1 rfl rfl rfl ((H.bx 1 rfl).cell 0 rfl)) ?_; clear Z a; intro a Z
 refine h_call Z H (js := []) rfl (caps := #[]) fn_20_YHb1 rfl rfl rfl rfl rfl (by decide) rfl rfl (fun D1 hS => have hq := c_link_Of hx1 hS; hq) ?_; clear Z a; intro vv a w1 D2 hr hF2 Z
 obtain ⟨rfl, I1, K⟩ := hr
 have H : Hf I D w I1 w1 [OElink_Link b_l l, BxC b_p1 9 [.string p1], BxC b_p2 25 [.int .i64 p2], BxC b_p3 28 [v1_p3], SlC NS v1_p3 p3] := hF2 K
 clear hF2 K
 refine s_runk tHb1 Z 3 rfl rfl ?_; clear Z a; intro a Z
 refine h_alloc Z H (cl := [.int .i64 0, .int .i64 0, .int .i64 0, .int .i64 0, .int .i64 0, .int .i64 0, .bool false, .string ByteArray.empty]) (z := .agg #[.int .i64 0, .int .i64 0, .int .i64 0, .int .i64 0, .int .i64 0, .int .i64 0, .bool false, .string ByteArray.empty]) rfl rfl rfl (by decide) rfl (by kernel_rfl) rfl ?_; clear Z a H; intro a w2 b1 H Z
 refine h_store tHb1 Z H 0 rfl rfl rfl rfl rfl rfl rfl rfl rfl (one_cons rfl (one_cons rfl (one_cons rfl (one_cons rfl (one_cons rfl (one_cons rfl (one_cons rfl (one_cons rfl one_nil)))))))) (Nat.le_of_ble_eq_true rfl) rfl ?_; clear H; intro w3 H
 dsimp only [List.eraseIdx] at H
 refine s_runk tHb1 Z 1 rfl rfl ?_; clear Z a; intro a Z
 refine s_end Z [0, 2, 3, 5, 6] rfl ?_; clear Z; intro Z
 refine p_then (wp_seq ?_)
 refine wp_seq (f_region Z ?_); clear Z; intro Z
 refine s_runk tHb1 Z 2 rfl rfl ?_; clear Z a; intro a Z
 refine s_end Z [0, 2, 3, 5, 6, 13] rfl ?_; clear Z; intro Z
 refine p_then ?_
 refine f_cond Z rfl (fun hc1 => ?_) (fun hc1 => ?_)
 ·replace hF := ite_t hc1 hF
  refine wp_seq (f_region Z ?_); clear Z; intro Z
  refine s_runk tHb1 Z 1 rfl rfl ?_; clear Z a; intro a Z
  refine h_store tHb1 Z H 3 rfl rfl rfl rfl rfl rfl rfl rfl rfl (one_cons rfl one_nil) (Nat.le_of_ble_eq_true rfl) rfl ?_; clear H; intro w4 H
  dsimp only [List.eraseIdx] at H
  refine s_end Z [] rfl ?_; clear Z; intro Z
  refine p_then (wp_ret ?_)
  refine p_then_r ?_
  obtain rfl := some_in hF
  exact f_ret Z (run_results0 rfl) ⟨v1_p3, rfl, I1, (H.sub [(2, false), (2, false), (0, false), (1, false), (1, true)] rfl).eq rfl⟩
 ·replace hF := ite_f hc1 hF
  refine wp_skip ?_
  refine p_then ?_
  obtain ⟨i, hx2, hF⟩ := bnd_in hF
  refine f_region Z ?_; clear Z; intro Z
  refine s_runk tHb1 Z 1 rfl rfl ?_; clear Z a; intro a Z
  refine s_ob Z (v := .agg #[.int .i64 o.1.boot, .int .i64 o.1.stream, .int .i64 o.1.seq, .int .i64 o.1.ackBoot, .int .i64 o.1.ackStream, .int .i64 o.1.ackSeq, .bool o.1.has, .string o.1.body]) rfl rfl (by decide) rfl (Ob_loads tHb1 rfl rfl rfl ((H.bx 0 rfl).part 0 rfl)) ?_; clear Z a; intro a Z
  refine h_call Z H (js := [(1, false)]) rfl (caps := #[]) fn_21_YHb1 rfl rfl rfl rfl rfl (by decide) rfl rfl (fun D1 hS => have hq := c_link_Link_In hx2 hS; hq) ?_; clear Z a; intro vv a w5 D2 hr hF2 Z
  obtain ⟨q1, rfl, I2, K⟩ := hr
  have H : Hf I D w I2 w5 [OElink_Link b_l i.2.2, SlC NS q1 i.1, BxC b1 58 (cESeg o.1), BxC b_p1 9 [.string p1], BxC b_p2 25 [.int .i64 p2], BxC b_p3 28 [v1_p3], SlC NS v1_p3 p3] := hF2 K
  clear hF2 K
  refine s_runk tHb1 Z 3 rfl rfl ?_; clear Z a; intro a Z
  refine h_store tHb1 Z H 5 rfl rfl rfl rfl rfl rfl (slS.cells (H.slshape 1 rfl)) rfl rfl (one_cons (slS.one (H.slshape 1 rfl)) one_nil) (Nat.le_of_ble_eq_true rfl) rfl ?_; clear H; intro w6 H
  dsimp only [List.eraseIdx] at H
  refine h_store tHb1 Z H 5 rfl rfl rfl rfl rfl rfl rfl rfl rfl (one_cons rfl one_nil) (Nat.le_of_ble_eq_true rfl) rfl ?_; clear H; intro w7 H
  dsimp only [List.eraseIdx] at H
  refine s_end Z [] rfl ?_; clear Z; intro Z
  obtain rfl := some_in hF
  exact f_fall Z (run_results0 rfl) ⟨q1, rfl, I2, (H.sub [(2, false), (4, false), (0, false), (0, false), (0, true)] rfl).eq rfl⟩

def F_hub_Hub_with__hub_Hub_In_1 (h : Ehub_Hub) (id : Int) (p1 : ByteArray) (p2 : Int) (p3 : List ByteArray) : Option (Bool × Ehub_Hub × Int × (List ByteArray)) := if (id == 0) = true then ((F_hub_Hub_none h).bind fun n0 => (if (((n0 || (decide (id < 0))) || (decide (id ≥ 4))) || ((h.l.getD 0 none).isNone)) = true then (some (false, h, p2, p3)) else (optE (h.l.getD 0 none) ((F_hub_Hub_In_1_nil p1 p2 p3).bind fun n0_2 => (some (true, ({ h with l := [none, (h.l.getD 1 none), (h.l.getD 2 none), (h.l.getD 3 none)] } : Ehub_Hub), n0_2.1, n0_2.2))) (fun x => (F_hub_Hub_In_1 x p1 p2 p3).bind fun x0 => (some (true, ({ h with l := [some x0.1, (h.l.getD 1 none), (h.l.getD 2 none), (h.l.getD 3 none)] } : Ehub_Hub), x0.2.1, x0.2.2)))))) else if (id == 1) = true then ((F_hub_Hub_none h).bind fun n0_3 => (if (((n0_3 || (decide (id < 0))) || (decide (id ≥ 4))) || ((h.l.getD 1 none).isNone)) = true then (some (false, h, p2, p3)) else (optE (h.l.getD 1 none) ((F_hub_Hub_In_1_nil p1 p2 p3).bind fun n0_4 => (some (true, ({ h with l := [(h.l.getD 0 none), none, (h.l.getD 2 none), (h.l.getD 3 none)] } : Ehub_Hub), n0_4.1, n0_4.2))) (fun x_2 => (F_hub_Hub_In_1 x_2 p1 p2 p3).bind fun x0_2 => (some (true, ({ h with l := [(h.l.getD 0 none), some x0_2.1, (h.l.getD 2 none), (h.l.getD 3 none)] } : Ehub_Hub), x0_2.2.1, x0_2.2.2)))))) else if (id == 2) = true then ((F_hub_Hub_none h).bind fun n0_5 => (if (((n0_5 || (decide (id < 0))) || (decide (id ≥ 4))) || ((h.l.getD 2 none).isNone)) = true then (some (false, h, p2, p3)) else (optE (h.l.getD 2 none) ((F_hub_Hub_In_1_nil p1 p2 p3).bind fun n0_6 => (some (true, ({ h with l := [(h.l.getD 0 none), (h.l.getD 1 none), none, (h.l.getD 3 none)] } : Ehub_Hub), n0_6.1, n0_6.2))) (fun x_3 => (F_hub_Hub_In_1 x_3 p1 p2 p3).bind fun x0_3 => (some (true, ({ h with l := [(h.l.getD 0 none), (h.l.getD 1 none), some x0_3.1, (h.l.getD 3 none)] } : Ehub_Hub), x0_3.2.1, x0_3.2.2)))))) else if (id == 3) = true then ((F_hub_Hub_none h).bind fun n0_7 => (if (((n0_7 || (decide (id < 0))) || (decide (id ≥ 4))) || ((h.l.getD 3 none).isNone)) = true then (some (false, h, p2, p3)) else (optE (h.l.getD 3 none) ((F_hub_Hub_In_1_nil p1 p2 p3).bind fun n0_8 => (some (true, ({ h with l := [(h.l.getD 0 none), (h.l.getD 1 none), (h.l.getD 2 none), none] } : Ehub_Hub), n0_8.1, n0_8.2))) (fun x_4 => (F_hub_Hub_In_1 x_4 p1 p2 p3).bind fun x0_4 => (some (true, ({ h with l := [(h.l.getD 0 none), (h.l.getD 1 none), (h.l.getD 2 none), some x0_4.1] } : Ehub_Hub), x0_4.2.1, x0_4.2.2)))))) else ((F_hub_Hub_none h).bind fun n0_9 => (chk ((!((n0_9 || (decide (id < 0))) || (decide (id ≥ 4)))) = true → False) (if (((n0_9 || (decide (id < 0))) || (decide (id ≥ 4))) || ((h.l.getD 0 none).isNone)) = true then (some (false, h, p2, p3)) else (none))))

set_option maxHeartbeats 1000000 in
theorem c_hub_Hub_with__hub_Hub_In_1 {I D : Dm} {b_h : Nat} {h : Ehub_Hub} {id : Int} {b_p1 : Nat} {p1 : ByteArray} {b_p2 : Nat} {p2 : Int} {b_p3 : Nat} {p3 : List ByteArray} {v1_p3 : Value} {w : World} {rr : Bool × Ehub_Hub × Int × (List ByteArray)} (hF : F_hub_Hub_with__hub_Hub_In_1 h id p1 p2 p3 = some rr) (H : St I D w [OEhub_Hub b_h h, BxC b_p1 9 [.string p1], BxC b_p2 25 [.int .i64 p2], BxC b_p3 28 [v1_p3], SlC NS v1_p3 p3]) :
  Calls Try.prog 12 #[.pointer (some ⟨b_h, 0, none⟩), .int .i64 id, .func (.func 19) #[] #[.pointer (some ⟨b_p1, 0, none⟩), .pointer (some ⟨b_p2, 0, none⟩), .pointer (some ⟨b_p3, 0, none⟩)]] w (Ret fun vv w' => ∃ q1 : Value, vv = .bool rr.1 ∧ ∃ I', Hf I D w I' w' [OEhub_Hub b_h rr.2.1, BxC b_p1 9 [.string p1], BxC b_p2 25 [.int .i64 rr.2.2.1], BxC b_p3 28 [q1], SlC NS q1 rr.2.2.2]) := by
 replace H := H.hf
 unfold F_hub_Hub_with__hub_Hub_In_1 at hF
 refine f_enter 34 Try.func12 rfl rfl (Nat.le_of_ble_eq_true rfl) fun a Z => ?_
 replace Z := Z.sub (ts := [0, 1, 2]) rfl
 refine wp_seq (f_region Z ?_); clear Z; intro Z
 refine s_runk tHb1 Z 1 rfl rfl ?_; clear Z a; intro a Z
 refine s_end Z [0, 1, 2] rfl ?_; clear Z; intro Z
 refine p_then (wp_seq ?_)
 refine wp_seq ?_
 refine bsplit (id == 0) (fun hi1 => ?_) (fun hi1 => ?_)
 ·replace hF := ite_t hi1 hF
  obtain ⟨n0, hx1, hF⟩ := bnd_in hF
  refine f_region Z ?_; clear Z; intro Z
  refine s_runk tHb1 Z 1 rfl rfl ?_; clear Z a; intro a Z
  refine h_call Z H (js := [(0, false)]) rfl (caps := #[]) fn_16_YHb1 rfl rfl rfl rfl rfl (by decide) rfl rfl (fun D1 hS => have hq := c_hub_Hub_none hx1 hS; hq) ?_; clear Z a; intro vv a w1 D2 hr hF2 Z
  obtain ⟨rfl, I1, K⟩ := hr
  have H : Hf I D w I1 w1 [OEhub_Hub b_h h, BxC b_p1 9 [.string p1], BxC b_p2 25 [.int .i64 p2], BxC b_p3 28 [v1_p3], SlC NS v1_p3 p3] := hF2 K
  clear hF2 K
  refine s_runk tHb1 Z 1 rfl rfl ?_; clear Z a; intro a Z
  refine g_ob Z (p := (!n0)) (v := .int .i64 id) (S' := [(1, .int .i64 id)]) rfl rfl rfl (wantB_f _) rfl (by decide) (fun hp hS => hS.sub (ts := [1]) rfl) (fun hp => Ob_c tHb1 rfl) ?_; clear Z a; intro a Z
  refine g_ob Z (p := (!n0)) (v := .bool (decide (id < 0))) (S' := [(10, .int .i64 id)]) rfl rfl rfl (wantB_f _) rfl (by decide) (fun hp hS => (hS.conv (t := 10) rfl (cond_t hp)).sub (ts := [10]) rfl) (fun hp => Ob_c tHb1 rfl) ?_; clear Z a; intro a Z
  refine s_ob Z (v := .bool (n0 || (decide (id < 0)))) rfl rfl (by decide) rfl (Ob_pick rfl rfl rfl rfl (pick_or _ _)) ?_; clear Z a; intro a Z
  refine s_runk tHb1 Z 1 rfl rfl ?_; clear Z a; intro a Z
  refine g_ob Z (p := (!(n0 || (decide (id < 0))))) (v := .int .i64 id) (S' := [(1, .int .i64 id)]) rfl rfl rfl (wantB_f _) rfl (by decide) (fun hp hS => hS.sub (ts := [1]) rfl) (fun hp => Ob_c tHb1 rfl) ?_; clear Z a; intro a Z
  refine g_ob Z (p := (!(n0 || (decide (id < 0))))) (v := .bool (decide (id ≥ 4))) (S' := [(14, .int .i64 id)]) rfl rfl rfl (wantB_f _) rfl (by decide) (fun hp hS => (hS.conv (t := 14) rfl (cond_t hp)).sub (ts := [14]) rfl) (fun hp => Ob_c tHb1 rfl) ?_; clear Z a; intro a Z
  refine s_ob Z (v := .bool ((n0 || (decide (id < 0))) || (decide (id ≥ 4)))) rfl rfl (by decide) rfl (Ob_pick rfl rfl rfl rfl (pick_or _ _)) ?_; clear Z a; intro a Z
  refine s_runk tHb1 Z 1 rfl rfl ?_; clear Z a; intro a Z
  refine g_ob Z (p := (!((n0 || (decide (id < 0))) || (decide (id ≥ 4))))) (v := .pointer (some ⟨b_h, 0, none⟩)) (S' := [(0, .pointer (some ⟨b_h, 0, none⟩))]) rfl rfl rfl (wantB_f _) rfl (by decide) (fun hp hS => hS.sub (ts := [0]) rfl) (fun hp => Ob_c tHb1 rfl) ?_; clear Z a; intro a Z
  refine g_ob Z (p := (!((n0 || (decide (id < 0))) || (decide (id ≥ 4))))) (v := .int .i64 id) (S' := [(1, .int .i64 id)]) rfl rfl rfl (wantB_f _) rfl (by decide) (fun hp hS => hS.sub (ts := [1]) rfl) (fun hp => Ob_c tHb1 rfl) ?_; clear Z a; intro a Z
  refine g_ob Z (p := (!((n0 || (decide (id < 0))) || (decide (id ≥ 4))))) (v := .pointer (some ⟨b_h, 0, none⟩)) (S' := [(18, .pointer (some ⟨b_h, 0, none⟩))]) rfl rfl rfl (wantB_f _) rfl (by decide) (fun hp hS => (hS.conv (t := 18) rfl (cond_t hp)).sub (ts := [18]) rfl) (fun hp => Ob_c tHb1 rfl) ?_; clear Z a; intro a Z
  refine g_ob Z (p := (!((n0 || (decide (id < 0))) || (decide (id ≥ 4))))) (v := .pointer (some ⟨b_h, 0, none⟩)) (S' := [(20, .pointer (some ⟨b_h, 0, none⟩))]) rfl rfl rfl (wantB_f _) rfl (by decide) (fun hp hS => (hS.conv (t := 20) rfl (cond_t hp)).sub (ts := [20]) rfl) (fun hp => Ob_c tHb1 rfl) ?_; clear Z a; intro a Z
  refine g_ob Z (p := (!((n0 || (decide (id < 0))) || (decide (id ≥ 4))))) (v := .pointer (some ⟨b_h, 0, none⟩)) (S' := [(21, .pointer (some ⟨b_h, 0, none⟩)), (19, .int .i64 id)]) rfl rfl rfl (wantB_f _) rfl (by decide) (fun hp hS => ((hS.conv (t := 21) rfl (cond_t hp)).conv (t := 19) rfl (cond_t hp)).sub (ts := [21, 19]) rfl) (fun hp => Ob_apix (m := 1) 0 rfl rfl rfl Try.underlying46 (by kernel_rfl) (eq_of_beq hi1) (by decide)) ?_; clear Z a; intro a Z
  obtain ⟨⟨v2, v3, v4, v5⟩, H⟩ := H.openX 0 rfl
  replace H : Hf I D w I1 w1 [BxC b_h 48 [v2, v3, v4, v5, .bool h.made], PtC OElink_Link v2 (h.l.getD 0 none), PtC OElink_Link v3 (h.l.getD 1 none), PtC OElink_Link v4 (h.l.getD 2 none), PtC OElink_Link v5 (h.l.getD 3 none), BxC b_p1 9 [.string p1], BxC b_p2 25 [.int .i64 p2], BxC b_p3 28 [v1_p3], SlC NS v1_p3 p3] := H
  refine g_ob Z (p := (!((n0 || (decide (id < 0))) || (decide (id ≥ 4))))) (v := v2) (S' := [(22, .pointer (some ⟨b_h, 0, none⟩))]) rfl rfl rfl (wantB_f _) rfl (by decide) (fun hp hS => (hS.conv (t := 22) rfl (cond_t hp)).sub (ts := [22]) rfl) (fun hp => Ob_load tHb1 rfl rfl rfl ((H.bx 0 rfl).cell 0 rfl)) ?_; clear Z a; intro a Z
  refine g_ob Z (p := (!((n0 || (decide (id < 0))) || (decide (id ≥ 4))))) (v := .bool ((h.l.getD 0 none).isNone)) (S' := [(23, v2)]) rfl rfl rfl (wantB_f _) rfl (by decide) (fun hp hS => (hS.conv (t := 23) rfl (cond_t hp)).sub (ts := [23]) rfl) (fun hp => Ob_popt (q := (h.l.getD 0 none)) rfl rfl rfl Try.underlying45 (H.optI 1 rfl) (.inl ⟨rfl, rfl⟩)) ?_; clear Z a; intro a Z
  refine s_ob Z (v := .bool (((n0 || (decide (id < 0))) || (decide (id ≥ 4))) || ((h.l.getD 0 none).isNone))) rfl rfl (by decide) rfl (Ob_pick rfl rfl rfl rfl (pick_or _ _)) ?_; clear Z a; intro a Z
  refine s_end Z [0, 1, 2, 25] rfl ?_; clear Z; intro Z
  refine p_then ?_
  refine f_cond Z rfl (fun hc1 => ?_) (fun hc1 => ?_)
  ·replace hF := ite_t hc1 hF
   refine wp_seq (f_region Z ?_); clear Z; intro Z
   refine s_runk tHb1 Z 1 rfl rfl ?_; clear Z a; intro a Z
   refine s_end Z [6] rfl ?_; clear Z; intro Z
   refine p_then (wp_ret ?_)
   refine p_then_r ?_
   replace H : Hf I D w I1 w1 [OEhub_Hub b_h h, BxC b_p1 9 [.string p1], BxC b_p2 25 [.int .i64 p2], BxC b_p3 28 [v1_p3], SlC NS v1_p3 p3] := H.shutX (v2, v3, v4, v5) [(0, false), (0, false), (0, false), (0, false), (0, false)] rfl
   obtain rfl := some_in hF
   exact f_ret Z (run_results1 rfl Z rfl) ⟨v1_p3, rfl, I1, (H.sub [(0, false), (0, false), (0, false), (0, false), (0, true)] rfl).eq rfl⟩
  ·replace hF := ite_f hc1 hF
   refine wp_skip ?_
   refine p_then (wp_seq ?_)
   rcases optE_in hF with ⟨ho1, hF⟩ | ⟨x, ho1, hF⟩
   ·obtain ⟨hv, H⟩ := H.optN 1 rfl ho1
    subst hv
    replace H : Hf I D w I1 w1 [BxC b_h 48 [.pointer none, v3, v4, v5, .bool h.made], PtC OElink_Link v3 (h.l.getD 1 none), PtC OElink_Link v4 (h.l.getD 2 none), PtC OElink_Link v5 (h.l.getD 3 none), BxC b_p1 9 [.string p1], BxC b_p2 25 [.int .i64 p2], BxC b_p3 28 [v1_p3], SlC NS v1_p3 p3] := H
    obtain ⟨n0_2, hx2, hF⟩ := bnd_in hF
    refine f_region Z ?_; clear Z; intro Z
    refine s_runk tHb1 Z 5 rfl rfl ?_; clear Z a; intro a Z
    refine s_ob Z (v := .pointer (some ⟨b_h, 0, none⟩)) rfl rfl (by decide) rfl (Ob_apix (m := 1) 0 rfl rfl rfl Try.underlying46 (by kernel_rfl) (eq_of_beq hi1) (by decide)) ?_; clear Z a; intro a Z
    refine s_ob Z (v := .pointer none) rfl rfl (by decide) rfl (Ob_load tHb1 rfl rfl rfl ((H.bx 0 rfl).cell 0 rfl)) ?_; clear Z a; intro a Z
    refine h_call Z H (js := [(4, false), (4, false), (4, false), (4, true)]) rfl (caps := #[.pointer (some ⟨b_p1, 0, none⟩), .pointer (some ⟨b_p2, 0, none⟩), .pointer (some ⟨b_p3, 0, none⟩)]) fn_19_YHb1 rfl rfl rfl rfl rfl (by decide) rfl rfl (fun D1 hS => have hq := c_hub_Hub_In_1_nil hx2 hS; hq) ?_; clear Z a; intro vv a w2 D2 hr hF2 Z
    obtain ⟨q1, rfl, I2, K⟩ := hr
    have H : Hf I D w I2 w2 [BxC b_p1 9 [.string p1], BxC b_p2 25 [.int .i64 n0_2.1], BxC b_p3 28 [q1], SlC NS q1 n0_2.2, BxC b_h 48 [.pointer none, v3, v4, v5, .bool h.made], PtC OElink_Link v3 (h.l.getD 1 none), PtC OElink_Link v4 (h.l.getD 2 none), PtC OElink_Link v5 (h.l.getD 3 none), SlC NS v1_p3 p3] := hF2 K
    clear hF2 K
    refine s_end Z [] rfl ?_; clear Z; intro Z
    refine p_then (wp_seq (f_region Z ?_)); clear Z; intro Z
    refine s_runk tHb1 Z 1 rfl rfl ?_; clear Z a; intro a Z
    refine s_end Z [6] rfl ?_; clear Z; intro Z
    refine p_then (wp_ret ?_)
    replace H : Hf I D w I2 w2 [PtC OElink_Link (.pointer none) none, BxC b_p1 9 [.string p1], BxC b_p2 25 [.int .i64 n0_2.1], BxC b_p3 28 [q1], SlC NS q1 n0_2.2, BxC b_h 48 [.pointer none, v3, v4, v5, .bool h.made], PtC OElink_Link v3 (h.l.getD 1 none), PtC OElink_Link v4 (h.l.getD 2 none), PtC OElink_Link v5 (h.l.getD 3 none), SlC NS v1_p3 p3] := H.mkN OElink_Link
    replace H : Hf I D w I2 w2 [OEhub_Hub b_h ({ h with l := [none, (h.l.getD 1 none), (h.l.getD 2 none), (h.l.getD 3 none)] } : Ehub_Hub), BxC b_p1 9 [.string p1], BxC b_p2 25 [.int .i64 n0_2.1], BxC b_p3 28 [q1], SlC NS q1 n0_2.2, SlC NS v1_p3 p3] := H.shutX (.pointer none, v3, v4, v5) [(5, false), (0, false), (4, false), (4, false), (4, false)] rfl
    obtain rfl := some_in hF
    exact f_ret Z (run_results1 rfl Z rfl) ⟨q1, rfl, I2, (H.sub [(0, false), (0, false), (0, false), (0, false), (0, true)] rfl).eq rfl⟩
   ·obtain ⟨b1, hv, H⟩ := H.optS 1 rfl ho1
    subst hv
    replace H : Hf I D w I1 w1 [OElink_Link b1 x, BxC b_h 48 [.pointer (some ⟨b1, 0, none⟩), v3, v4, v5, .bool h.made], PtC OElink_Link v3 (h.l.getD 1 none), PtC OElink_Link v4 (h.l.getD 2 none), PtC OElink_Link v5 (h.l.getD 3 none), BxC b_p1 9 [.string p1], BxC b_p2 25 [.int .i64 p2], BxC b_p3 28 [v1_p3], SlC NS v1_p3 p3] := H
    obtain ⟨x0, hx3, hF⟩ := bnd_in hF
    refine f_region Z ?_; clear Z; intro Z
    refine s_runk tHb1 Z 5 rfl rfl ?_; clear Z a; intro a Z
    refine s_ob Z (v := .pointer (some ⟨b_h, 0, none⟩)) rfl rfl (by decide) rfl (Ob_apix (m := 1) 0 rfl rfl rfl Try.underlying46 (by kernel_rfl) (eq_of_beq hi1) (by decide)) ?_; clear Z a; intro a Z
    refine s_ob Z (v := .pointer (some ⟨b1, 0, none⟩)) rfl rfl (by decide) rfl (Ob_load tHb1 rfl rfl rfl ((H.bx 1 rfl).cell 0 rfl)) ?_; clear Z a; intro a Z
    refine h_call Z H (js := [(0, false), (4, false), (4, false), (4, false), (4, true)]) rfl (caps := #[.pointer (some ⟨b_p1, 0, none⟩), .pointer (some ⟨b_p2, 0, none⟩), .pointer (some ⟨b_p3, 0, none⟩)]) fn_19_YHb1 rfl rfl rfl rfl rfl (by decide) rfl rfl (fun D1 hS => have hq := c_hub_Hub_In_1 hx3 hS; hq) ?_; clear Z a; intro vv a w3 D2 hr hF2 Z
    obtain ⟨q2, rfl, I3, K⟩ := hr
    have H : Hf I D w I3 w3 [OElink_Link b1 x0.1, BxC b_p1 9 [.string p1], BxC b_p2 25 [.int .i64 x0.2.1], BxC b_p3 28 [q2], SlC NS q2 x0.2.2, BxC b_h 48 [.pointer (some ⟨b1, 0, none⟩), v3, v4, v5, .bool h.made], PtC OElink_Link v3 (h.l.getD 1 none), PtC OElink_Link v4 (h.l.getD 2 none), PtC OElink_Link v5 (h.l.getD 3 none), SlC NS v1_p3 p3] := hF2 K
    clear hF2 K
    refine s_end Z [] rfl ?_; clear Z; intro Z
    refine p_then (wp_seq (f_region Z ?_)); clear Z; intro Z
    refine s_runk tHb1 Z 1 rfl rfl ?_; clear Z a; intro a Z
    refine s_end Z [6] rfl ?_; clear Z; intro Z
    refine p_then (wp_ret ?_)
    replace H : Hf I D w I3 w3 [PtC OElink_Link (.pointer (some ⟨b1, 0, none⟩)) (some x0.1), BxC b_p1 9 [.string p1], BxC b_p2 25 [.int .i64 x0.2.1], BxC b_p3 28 [q2], SlC NS q2 x0.2.2, BxC b_h 48 [.pointer (some ⟨b1, 0, none⟩), v3, v4, v5, .bool h.made], PtC OElink_Link v3 (h.l.getD 1 none), PtC OElink_Link v4 (h.l.getD 2 none), PtC OElink_Link v5 (h.l.getD 3 none), SlC NS v1_p3 p3] := H.mkS (K := OElink_Link) 0 rfl
    replace H : Hf I D w I3 w3 [OEhub_Hub b_h ({ h with l := [some x0.1, (h.l.getD 1 none), (h.l.getD 2 none), (h.l.getD 3 none)] } : Ehub_Hub), BxC b_p1 9 [.string p1], BxC b_p2 25 [.int .i64 x0.2.1], BxC b_p3 28 [q2], SlC NS q2 x0.2.2, SlC NS v1_p3 p3] := H.shutX (.pointer (some ⟨b1, 0, none⟩), v3, v4, v5) [(5, false), (0, false), (4, false), (4, false), (4, false)] rfl
    obtain rfl := some_in hF
    exact f_ret Z (run_results1 rfl Z rfl) ⟨q2, rfl, I3, (H.sub [(0, false), (0, false), (0, false), (0, false), (0, true)] rfl).eq rfl⟩
 replace hF := ite_f hi1 hF
 refine bsplit (id == 1) (fun hi2 => ?_) (fun hi2 => ?_)
 ·replace hF := ite_t hi2 hF
  obtain ⟨n0_3, hx4, hF⟩ := bnd_in hF
  refine f_region Z ?_; clear Z; intro Z
  refine s_runk tHb1 Z 1 rfl rfl ?_; clear Z a; intro a Z
  refine h_call Z H (js := [(0, false)]) rfl (caps := #[]) fn_16_YHb1 rfl rfl rfl rfl rfl (by decide) rfl rfl (fun D1 hS => have hq := c_hub_Hub_none hx4 hS; hq) ?_; clear Z a; intro vv a w4 D2 hr hF2 Z
  obtain ⟨rfl, I4, K⟩ := hr
  have H : Hf I D w I4 w4 [OEhub_Hub b_h h, BxC b_p1 9 [.string p1], BxC b_p2 25 [.int .i64 p2], BxC b_p3 28 [v1_p3], SlC NS v1_p3 p3] := hF2 K
  clear hF2 K
  refine s_runk tHb1 Z 1 rfl rfl ?_; clear Z a; intro a Z
  refine g_ob Z (p := (!n0_3)) (v := .int .i64 id) (S' := [(1, .int .i64 id)]) rfl rfl rfl (wantB_f _) rfl (by decide) (fun hp hS => hS.sub (ts := [1]) rfl) (fun hp => Ob_c tHb1 rfl) ?_; clear Z a; intro a Z
  refine g_ob Z (p := (!n0_3)) (v := .bool (decide (id < 0))) (S' := [(10, .int .i64 id)]) rfl rfl rfl (wantB_f _) rfl (by decide) (fun hp hS => (hS.conv (t := 10) rfl (cond_t hp)).sub (ts := [10]) rfl) (fun hp => Ob_c tHb1 rfl) ?_; clear Z a; intro a Z
  refine s_ob Z (v := .bool (n0_3 || (decide (id < 0)))) rfl rfl (by decide) rfl (Ob_pick rfl rfl rfl rfl (pick_or _ _)) ?_; clear Z a; intro a Z
  refine s_runk tHb1 Z 1 rfl rfl ?_; clear Z a; intro a Z
  refine g_ob Z (p := (!(n0_3 || (decide (id < 0))))) (v := .int .i64 id) (S' := [(1, .int .i64 id)]) rfl rfl rfl (wantB_f _) rfl (by decide) (fun hp hS => hS.sub (ts := [1]) rfl) (fun hp => Ob_c tHb1 rfl) ?_; clear Z a; intro a Z
  refine g_ob Z (p := (!(n0_3 || (decide (id < 0))))) (v := .bool (decide (id ≥ 4))) (S' := [(14, .int .i64 id)]) rfl rfl rfl (wantB_f _) rfl (by decide) (fun hp hS => (hS.conv (t := 14) rfl (cond_t hp)).sub (ts := [14]) rfl) (fun hp => Ob_c tHb1 rfl) ?_; clear Z a; intro a Z
  refine s_ob Z (v := .bool ((n0_3 || (decide (id < 0))) || (decide (id ≥ 4)))) rfl rfl (by decide) rfl (Ob_pick rfl rfl rfl rfl (pick_or _ _)) ?_; clear Z a; intro a Z
  refine s_runk tHb1 Z 1 rfl rfl ?_; clear Z a; intro a Z
  refine g_ob Z (p := (!((n0_3 || (decide (id < 0))) || (decide (id ≥ 4))))) (v := .pointer (some ⟨b_h, 0, none⟩)) (S' := [(0, .pointer (some ⟨b_h, 0, none⟩))]) rfl rfl rfl (wantB_f _) rfl (by decide) (fun hp hS => hS.sub (ts := [0]) rfl) (fun hp => Ob_c tHb1 rfl) ?_; clear Z a; intro a Z
  refine g_ob Z (p := (!((n0_3 || (decide (id < 0))) || (decide (id ≥ 4))))) (v := .int .i64 id) (S' := [(1, .int .i64 id)]) rfl rfl rfl (wantB_f _) rfl (by decide) (fun hp hS => hS.sub (ts := [1]) rfl) (fun hp => Ob_c tHb1 rfl) ?_; clear Z a; intro a Z
  refine g_ob Z (p := (!((n0_3 || (decide (id < 0))) || (decide (id ≥ 4))))) (v := .pointer (some ⟨b_h, 0, none⟩)) (S' := [(18, .pointer (some ⟨b_h, 0, none⟩))]) rfl rfl rfl (wantB_f _) rfl (by decide) (fun hp hS => (hS.conv (t := 18) rfl (cond_t hp)).sub (ts := [18]) rfl) (fun hp => Ob_c tHb1 rfl) ?_; clear Z a; intro a Z
  refine g_ob Z (p := (!((n0_3 || (decide (id < 0))) || (decide (id ≥ 4))))) (v := .pointer (some ⟨b_h, 0, none⟩)) (S' := [(20, .pointer (some ⟨b_h, 0, none⟩))]) rfl rfl rfl (wantB_f _) rfl (by decide) (fun hp hS => (hS.conv (t := 20) rfl (cond_t hp)).sub (ts := [20]) rfl) (fun hp => Ob_c tHb1 rfl) ?_; clear Z a; intro a Z
  refine g_ob Z (p := (!((n0_3 || (decide (id < 0))) || (decide (id ≥ 4))))) (v := .pointer (some ⟨b_h, 1, none⟩)) (S' := [(21, .pointer (some ⟨b_h, 0, none⟩)), (19, .int .i64 id)]) rfl rfl rfl (wantB_f _) rfl (by decide) (fun hp hS => ((hS.conv (t := 21) rfl (cond_t hp)).conv (t := 19) rfl (cond_t hp)).sub (ts := [21, 19]) rfl) (fun hp => Ob_apix (m := 1) 1 rfl rfl rfl Try.underlying46 (by kernel_rfl) (eq_of_beq hi2) (by decide)) ?_; clear Z a; intro a Z
  obtain ⟨⟨v6, v7, v8, v9⟩, H⟩ := H.openX 0 rfl
  replace H : Hf I D w I4 w4 [BxC b_h 48 [v6, v7, v8, v9, .bool h.made], PtC OElink_Link v6 (h.l.getD 0 none), PtC OElink_Link v7 (h.l.getD 1 none), PtC OElink_Link v8 (h.l.getD 2 none), PtC OElink_Link v9 (h.l.getD 3 none), BxC b_p1 9 [.string p1], BxC b_p2 25 [.int .i64 p2], BxC b_p3 28 [v1_p3], SlC NS v1_p3 p3] := H
  refine g_ob Z (p := (!((n0_3 || (decide (id < 0))) || (decide (id ≥ 4))))) (v := v7) (S' := [(22, .pointer (some ⟨b_h, 1, none⟩))]) rfl rfl rfl (wantB_f _) rfl (by decide) (fun hp hS => (hS.conv (t := 22) rfl (cond_t hp)).sub (ts := [22]) rfl) (fun hp => Ob_load tHb1 rfl rfl rfl ((H.bx 0 rfl).cell 1 rfl)) ?_; clear Z a; intro a Z
  refine g_ob Z (p := (!((n0_3 || (decide (id < 0))) || (decide (id ≥ 4))))) (v := .bool ((h.l.getD 1 none).isNone)) (S' := [(23, v7)]) rfl rfl rfl (wantB_f _) rfl (by decide) (fun hp hS => (hS.conv (t := 23) rfl (cond_t hp)).sub (ts := [23]) rfl) (fun hp => Ob_popt (q := (h.l.getD 1 none)) rfl rfl rfl Try.underlying45 (H.optI 2 rfl) (.inl ⟨rfl, rfl⟩)) ?_; clear Z a; intro a Z
  refine s_ob Z (v := .bool (((n0_3 || (decide (id < 0))) || (decide (id ≥ 4))) || ((h.l.getD 1 none).isNone))) rfl rfl (by decide) rfl (Ob_pick rfl rfl rfl rfl (pick_or _ _)) ?_; clear Z a; intro a Z
  refine s_end Z [0, 1, 2, 25] rfl ?_; clear Z; intro Z
  refine p_then ?_
  refine f_cond Z rfl (fun hc2 => ?_) (fun hc2 => ?_)
  ·replace hF := ite_t hc2 hF
   refine wp_seq (f_region Z ?_); clear Z; intro Z
   refine s_runk tHb1 Z 1 rfl rfl ?_; clear Z a; intro a Z
   refine s_end Z [6] rfl ?_; clear Z; intro Z
   refine p_then (wp_ret ?_)
   refine p_then_r ?_
   replace H : Hf I D w I4 w4 [OEhub_Hub b_h h, BxC b_p1 9 [.string p1], BxC b_p2 25 [.int .i64 p2], BxC b_p3 28 [v1_p3], SlC NS v1_p3 p3] := H.shutX (v6, v7, v8, v9) [(0, false), (0, false), (0, false), (0, false), (0, false)] rfl
   obtain rfl := some_in hF
   exact f_ret Z (run_results1 rfl Z rfl) ⟨v1_p3, rfl, I4, (H.sub [(0, false), (0, false), (0, false), (0, false), (0, true)] rfl).eq rfl⟩
  ·replace hF := ite_f hc2 hF
   refine wp_skip ?_
   refine p_then (wp_seq ?_)
   rcases optE_in hF with ⟨ho2, hF⟩ | ⟨x_2, ho2, hF⟩
   ·obtain ⟨hv, H⟩ := H.optN 2 rfl ho2
    subst hv
    replace H : Hf I D w I4 w4 [BxC b_h 48 [v6, .pointer none, v8, v9, .bool h.made], PtC OElink_Link v6 (h.l.getD 0 none), PtC OElink_Link v8 (h.l.getD 2 none), PtC OElink_Link v9 (h.l.getD 3 none), BxC b_p1 9 [.string p1], BxC b_p2 25 [.int .i64 p2], BxC b_p3 28 [v1_p3], SlC NS v1_p3 p3] := H
    obtain ⟨n0_4, hx5, hF⟩ := bnd_in hF
    refine f_region Z ?_; clear Z; intro Z
    refine s_runk tHb1 Z 5 rfl rfl ?_; clear Z a; intro a Z
    refine s_ob Z (v := .pointer (some ⟨b_h, 1, none⟩)) rfl rfl (by decide) rfl (Ob_apix (m := 1) 1 rfl rfl rfl Try.underlying46 (by kernel_rfl) (eq_of_beq hi2) (by decide)) ?_; clear Z a; intro a Z
    refine s_ob Z (v := .pointer none) rfl rfl (by decide) rfl (Ob_load tHb1 rfl rfl rfl ((H.bx 0 rfl).cell 1 rfl)) ?_; clear Z a; intro a Z
    refine h_call Z H (js := [(4, false), (4, false), (4, false), (4, true)]) rfl (caps := #[.pointer (some ⟨b_p1, 0, none⟩), .pointer (some ⟨b_p2, 0, none⟩), .pointer (some ⟨b_p3, 0, none⟩)]) fn_19_YHb1 rfl rfl rfl rfl rfl (by decide) rfl rfl (fun D1 hS => have hq := c_hub_Hub_In_1_nil hx5 hS; hq) ?_; clear Z a; intro vv a w5 D2 hr hF2 Z
    obtain ⟨q3, rfl, I5, K⟩ := hr
    have H : Hf I D w I5 w5 [BxC b_p1 9 [.string p1], BxC b_p2 25 [.int .i64 n0_4.1], BxC b_p3 28 [q3], SlC NS q3 n0_4.2, BxC b_h 48 [v6, .pointer none, v8, v9, .bool h.made], PtC OElink_Link v6 (h.l.getD 0 none), PtC OElink_Link v8 (h.l.getD 2 none), PtC OElink_Link v9 (h.l.getD 3 none), SlC NS v1_p3 p3] := hF2 K
    clear hF2 K
    refine s_end Z [] rfl ?_; clear Z; intro Z
    refine p_then (wp_seq (f_region Z ?_)); clear Z; intro Z
    refine s_runk tHb1 Z 1 rfl rfl ?_; clear Z a; intro a Z
    refine s_end Z [6] rfl ?_; clear Z; intro Z
    refine p_then (wp_ret ?_)
    replace H : Hf I D w I5 w5 [PtC OElink_Link (.pointer none) none, BxC b_p1 9 [.string p1], BxC b_p2 25 [.int .i64 n0_4.1], BxC b_p3 28 [q3], SlC NS q3 n0_4.2, BxC b_h 48 [v6, .pointer none, v8, v9, .bool h.made], PtC OElink_Link v6 (h.l.getD 0 none), PtC OElink_Link v8 (h.l.getD 2 none), PtC OElink_Link v9 (h.l.getD 3 none), SlC NS v1_p3 p3] := H.mkN OElink_Link
    replace H : Hf I D w I5 w5 [OEhub_Hub b_h ({ h with l := [(h.l.getD 0 none), none, (h.l.getD 2 none), (h.l.getD 3 none)] } : Ehub_Hub), BxC b_p1 9 [.string p1], BxC b_p2 25 [.int .i64 n0_4.1], BxC b_p3 28 [q3], SlC NS q3 n0_4.2, SlC NS v1_p3 p3] := H.shutX (v6, .pointer none, v8, v9) [(5, false), (5, false), (0, false), (4, false), (4, false)] rfl
    obtain rfl := some_in hF
    exact f_ret Z (run_results1 rfl Z rfl) ⟨q3, rfl, I5, (H.sub [(0, false), (0, false), (0, false), (0, false), (0, true)] rfl).eq rfl⟩
   ·obtain ⟨b2, hv, H⟩ := H.optS 2 rfl ho2
    subst hv
    replace H : Hf I D w I4 w4 [OElink_Link b2 x_2, BxC b_h 48 [v6, .pointer (some ⟨b2, 0, none⟩), v8, v9, .bool h.made], PtC OElink_Link v6 (h.l.getD 0 none), PtC OElink_Link v8 (h.l.getD 2 none), PtC OElink_Link v9 (h.l.getD 3 none), BxC b_p1 9 [.string p1], BxC b_p2 25 [.int .i64 p2], BxC b_p3 28 [v1_p3], SlC NS v1_p3 p3] := H
    obtain ⟨x0_2, hx6, hF⟩ := bnd_in hF
    refine f_region Z ?_; clear Z; intro Z
    refine s_runk tHb1 Z 5 rfl rfl ?_; clear Z a; intro a Z
    refine s_ob Z (v := .pointer (some ⟨b_h, 1, none⟩)) rfl rfl (by decide) rfl (Ob_apix (m := 1) 1 rfl rfl rfl Try.underlying46 (by kernel_rfl) (eq_of_beq hi2) (by decide)) ?_; clear Z a; intro a Z
    refine s_ob Z (v := .pointer (some ⟨b2, 0, none⟩)) rfl rfl (by decide) rfl (Ob_load tHb1 rfl rfl rfl ((H.bx 1 rfl).cell 1 rfl)) ?_; clear Z a; intro a Z
    refine h_call Z H (js := [(0, false), (4, false), (4, false), (4, false), (4, true)]) rfl (caps := #[.pointer (some ⟨b_p1, 0, none⟩), .pointer (some ⟨b_p2, 0, none⟩), .pointer (some ⟨b_p3, 0, none⟩)]) fn_19_YHb1 rfl rfl rfl rfl rfl (by decide) rfl rfl (fun D1 hS => have hq := c_hub_Hub_In_1 hx6 hS; hq) ?_; clear Z a; intro vv a w6 D2 hr hF2 Z
    obtain ⟨q4, rfl, I6, K⟩ := hr
    have H : Hf I D w I6 w6 [OElink_Link b2 x0_2.1, BxC b_p1 9 [.string p1], BxC b_p2 25 [.int .i64 x0_2.2.1], BxC b_p3 28 [q4], SlC NS q4 x0_2.2.2, BxC b_h 48 [v6, .pointer (some ⟨b2, 0, none⟩), v8, v9, .bool h.made], PtC OElink_Link v6 (h.l.getD 0 none), PtC OElink_Link v8 (h.l.getD 2 none), PtC OElink_Link v9 (h.l.getD 3 none), SlC NS v1_p3 p3] := hF2 K
    clear hF2 K
    refine s_end Z [] rfl ?_; clear Z; intro Z
    refine p_then (wp_seq (f_region Z ?_)); clear Z; intro Z
    refine s_runk tHb1 Z 1 rfl rfl ?_; clear Z a; intro a Z
    refine s_end Z [6] rfl ?_; clear Z; intro Z
    refine p_then (wp_ret ?_)
    replace H : Hf I D w I6 w6 [PtC OElink_Link (.pointer (some ⟨b2, 0, none⟩)) (some x0_2.1), BxC b_p1 9 [.string p1], BxC b_p2 25 [.int .i64 x0_2.2.1], BxC b_p3 28 [q4], SlC NS q4 x0_2.2.2, BxC b_h 48 [v6, .pointer (some ⟨b2, 0, none⟩), v8, v9, .bool h.made], PtC OElink_Link v6 (h.l.getD 0 none), PtC OElink_Link v8 (h.l.getD 2 none), PtC OElink_Link v9 (h.l.getD 3 none), SlC NS v1_p3 p3] := H.mkS (K := OElink_Link) 0 rfl
    replace H : Hf I D w I6 w6 [OEhub_Hub b_h ({ h with l := [(h.l.getD 0 none), some x0_2.1, (h.l.getD 2 none), (h.l.getD 3 none)] } : Ehub_Hub), BxC b_p1 9 [.string p1], BxC b_p2 25 [.int .i64 x0_2.2.1], BxC b_p3 28 [q4], SlC NS q4 x0_2.2.2, SlC NS v1_p3 p3] := H.shutX (v6, .pointer (some ⟨b2, 0, none⟩), v8, v9) [(5, false), (5, false), (0, false), (4, false), (4, false)] rfl
    obtain rfl := some_in hF
    exact f_ret Z (run_results1 rfl Z rfl) ⟨q4, rfl, I6, (H.sub [(0, false), (0, false), (0, false), (0, false), (0, true)] rfl).eq rfl⟩
 replace hF := ite_f hi2 hF
 refine bsplit (id == 2) (fun hi3 => ?_) (fun hi3 => ?_)
 ·replace hF := ite_t hi3 hF
  obtain ⟨n0_5, hx7, hF⟩ := bnd_in hF
  refine f_region Z ?_; clear Z; intro Z
  refine s_runk tHb1 Z 1 rfl rfl ?_; clear Z a; intro a Z
  refine h_call Z H (js := [(0, false)]) rfl (caps := #[]) fn_16_YHb1 rfl rfl rfl rfl rfl (by decide) rfl rfl (fun D1 hS => have hq := c_hub_Hub_none hx7 hS; hq) ?_; clear Z a; intro vv a w7 D2 hr hF2 Z
  obtain ⟨rfl, I7, K⟩ := hr
  have H : Hf I D w I7 w7 [OEhub_Hub b_h h, BxC b_p1 9 [.string p1], BxC b_p2 25 [.int .i64 p2], BxC b_p3 28 [v1_p3], SlC NS v1_p3 p3] := hF2 K
  clear hF2 K
  refine s_runk tHb1 Z 1 rfl rfl ?_; clear Z a; intro a Z
  refine g_ob Z (p := (!n0_5)) (v := .int .i64 id) (S' := [(1, .int .i64 id)]) rfl rfl rfl (wantB_f _) rfl (by decide) (fun hp hS => hS.sub (ts := [1]) rfl) (fun hp => Ob_c tHb1 rfl) ?_; clear Z a; intro a Z
  refine g_ob Z (p := (!n0_5)) (v := .bool (decide (id < 0))) (S' := [(10, .int .i64 id)]) rfl rfl rfl (wantB_f _) rfl (by decide) (fun hp hS => (hS.conv (t := 10) rfl (cond_t hp)).sub (ts := [10]) rfl) (fun hp => Ob_c tHb1 rfl) ?_; clear Z a; intro a Z
  refine s_ob Z (v := .bool (n0_5 || (decide (id < 0)))) rfl rfl (by decide) rfl (Ob_pick rfl rfl rfl rfl (pick_or _ _)) ?_; clear Z a; intro a Z
  refine s_runk tHb1 Z 1 rfl rfl ?_; clear Z a; intro a Z
  refine g_ob Z (p := (!(n0_5 || (decide (id < 0))))) (v := .int .i64 id) (S' := [(1, .int .i64 id)]) rfl rfl rfl (wantB_f _) rfl (by decide) (fun hp hS => hS.sub (ts := [1]) rfl) (fun hp => Ob_c tHb1 rfl) ?_; clear Z a; intro a Z
  refine g_ob Z (p := (!(n0_5 || (decide (id < 0))))) (v := .bool (decide (id ≥ 4))) (S' := [(14, .int .i64 id)]) rfl rfl rfl (wantB_f _) rfl (by decide) (fun hp hS => (hS.conv (t := 14) rfl (cond_t hp)).sub (ts := [14]) rfl) (fun hp => Ob_c tHb1 rfl) ?_; clear Z a; intro a Z
  refine s_ob Z (v := .bool ((n0_5 || (decide (id < 0))) || (decide (id ≥ 4)))) rfl rfl (by decide) rfl (Ob_pick rfl rfl rfl rfl (pick_or _ _)) ?_; clear Z a; intro a Z
  refine s_runk tHb1 Z 1 rfl rfl ?_; clear Z a; intro a Z
  refine g_ob Z (p := (!((n0_5 || (decide (id < 0))) || (decide (id ≥ 4))))) (v := .pointer (some ⟨b_h, 0, none⟩)) (S' := [(0, .pointer (some ⟨b_h, 0, none⟩))]) rfl rfl rfl (wantB_f _) rfl (by decide) (fun hp hS => hS.sub (ts := [0]) rfl) (fun hp => Ob_c tHb1 rfl) ?_; clear Z a; intro a Z
  refine g_ob Z (p := (!((n0_5 || (decide (id < 0))) || (decide (id ≥ 4))))) (v := .int .i64 id) (S' := [(1, .int .i64 id)]) rfl rfl rfl (wantB_f _) rfl (by decide) (fun hp hS => hS.sub (ts := [1]) rfl) (fun hp => Ob_c tHb1 rfl) ?_; clear Z a; intro a Z
  refine g_ob Z (p := (!((n0_5 || (decide (id < 0))) || (decide (id ≥ 4))))) (v := .pointer (some ⟨b_h, 0, none⟩)) (S' := [(18, .pointer (some ⟨b_h, 0, none⟩))]) rfl rfl rfl (wantB_f _) rfl (by decide) (fun hp hS => (hS.conv (t := 18) rfl (cond_t hp)).sub (ts := [18]) rfl) (fun hp => Ob_c tHb1 rfl) ?_; clear Z a; intro a Z
  refine g_ob Z (p := (!((n0_5 || (decide (id < 0))) || (decide (id ≥ 4))))) (v := .pointer (some ⟨b_h, 0, none⟩)) (S' := [(20, .pointer (some ⟨b_h, 0, none⟩))]) rfl rfl rfl (wantB_f _) rfl (by decide) (fun hp hS => (hS.conv (t := 20) rfl (cond_t hp)).sub (ts := [20]) rfl) (fun hp => Ob_c tHb1 rfl) ?_; clear Z a; intro a Z
  refine g_ob Z (p := (!((n0_5 || (decide (id < 0))) || (decide (id ≥ 4))))) (v := .pointer (some ⟨b_h, 2, none⟩)) (S' := [(21, .pointer (some ⟨b_h, 0, none⟩)), (19, .int .i64 id)]) rfl rfl rfl (wantB_f _) rfl (by decide) (fun hp hS => ((hS.conv (t := 21) rfl (cond_t hp)).conv (t := 19) rfl (cond_t hp)).sub (ts := [21, 19]) rfl) (fun hp => Ob_apix (m := 1) 2 rfl rfl rfl Try.underlying46 (by kernel_rfl) (eq_of_beq hi3) (by decide)) ?_; clear Z a; intro a Z
  obtain ⟨⟨v10, v11, v12, v13⟩, H⟩ := H.openX 0 rfl
  replace H : Hf I D w I7 w7 [BxC b_h 48 [v10, v11, v12, v13, .bool h.made], PtC OElink_Link v10 (h.l.getD 0 none), PtC OElink_Link v11 (h.l.getD 1 none), PtC OElink_Link v12 (h.l.getD 2 none), PtC OElink_Link v13 (h.l.getD 3 none), BxC b_p1 9 [.string p1], BxC b_p2 25 [.int .i64 p2], BxC b_p3 28 [v1_p3], SlC NS v1_p3 p3] := H
  refine g_ob Z (p := (!((n0_5 || (decide (id < 0))) || (decide (id ≥ 4))))) (v := v12) (S' := [(22, .pointer (some ⟨b_h, 2, none⟩))]) rfl rfl rfl (wantB_f _) rfl (by decide) (fun hp hS => (hS.conv (t := 22) rfl (cond_t hp)).sub (ts := [22]) rfl) (fun hp => Ob_load tHb1 rfl rfl rfl ((H.bx 0 rfl).cell 2 rfl)) ?_; clear Z a; intro a Z
  refine g_ob Z (p := (!((n0_5 || (decide (id < 0))) || (decide (id ≥ 4))))) (v := .bool ((h.l.getD 2 none).isNone)) (S' := [(23, v12)]) rfl rfl rfl (wantB_f _) rfl (by decide) (fun hp hS => (hS.conv (t := 23) rfl (cond_t hp)).sub (ts := [23]) rfl) (fun hp => Ob_popt (q := (h.l.getD 2 none)) rfl rfl rfl Try.underlying45 (H.optI 3 rfl) (.inl ⟨rfl, rfl⟩)) ?_; clear Z a; intro a Z
  refine s_ob Z (v := .bool (((n0_5 || (decide (id < 0))) || (decide (id ≥ 4))) || ((h.l.getD 2 none).isNone))) rfl rfl (by decide) rfl (Ob_pick rfl rfl rfl rfl (pick_or _ _)) ?_; clear Z a; intro a Z
  refine s_end Z [0, 1, 2, 25] rfl ?_; clear Z; intro Z
  refine p_then ?_
  refine f_cond Z rfl (fun hc3 => ?_) (fun hc3 => ?_)
  ·replace hF := ite_t hc3 hF
   refine wp_seq (f_region Z ?_); clear Z; intro Z
   refine s_runk tHb1 Z 1 rfl rfl ?_; clear Z a; intro a Z
   refine s_end Z [6] rfl ?_; clear Z; intro Z
   refine p_then (wp_ret ?_)
   refine p_then_r ?_
   replace H : Hf I D w I7 w7 [OEhub_Hub b_h h, BxC b_p1 9 [.string p1], BxC b_p2 25 [.int .i64 p2], BxC b_p3 28 [v1_p3], SlC NS v1_p3 p3] := H.shutX (v10, v11, v12, v13) [(0, false), (0, false), (0, false), (0, false), (0, false)] rfl
   obtain rfl := some_in hF
   exact f_ret Z (run_results1 rfl Z rfl) ⟨v1_p3, rfl, I7, (H.sub [(0, false), (0, false), (0, false), (0, false), (0, true)] rfl).eq rfl⟩
  ·replace hF := ite_f hc3 hF
   refine wp_skip ?_
   refine p_then (wp_seq ?_)
   rcases optE_in hF with ⟨ho3, hF⟩ | ⟨x_3, ho3, hF⟩
   ·obtain ⟨hv, H⟩ := H.optN 3 rfl ho3
    subst hv
    replace H : Hf I D w I7 w7 [BxC b_h 48 [v10, v11, .pointer none, v13, .bool h.made], PtC OElink_Link v10 (h.l.getD 0 none), PtC OElink_Link v11 (h.l.getD 1 none), PtC OElink_Link v13 (h.l.getD 3 none), BxC b_p1 9 [.string p1], BxC b_p2 25 [.int .i64 p2], BxC b_p3 28 [v1_p3], SlC NS v1_p3 p3] := H
    obtain ⟨n0_6, hx8, hF⟩ := bnd_in hF
    refine f_region Z ?_; clear Z; intro Z
    refine s_runk tHb1 Z 5 rfl rfl ?_; clear Z a; intro a Z
    refine s_ob Z (v := .pointer (some ⟨b_h, 2, none⟩)) rfl rfl (by decide) rfl (Ob_apix (m := 1) 2 rfl rfl rfl Try.underlying46 (by kernel_rfl) (eq_of_beq hi3) (by decide)) ?_; clear Z a; intro a Z
    refine s_ob Z (v := .pointer none) rfl rfl (by decide) rfl (Ob_load tHb1 rfl rfl rfl ((H.bx 0 rfl).cell 2 rfl)) ?_; clear Z a; intro a Z
    refine h_call Z H (js := [(4, false), (4, false), (4, false), (4, true)]) rfl (caps := #[.pointer (some ⟨b_p1, 0, none⟩), .pointer (some ⟨b_p2, 0, none⟩), .pointer (some ⟨b_p3, 0, none⟩)]) fn_19_YHb1 rfl rfl rfl rfl rfl (by decide) rfl rfl (fun D1 hS => have hq := c_hub_Hub_In_1_nil hx8 hS; hq) ?_; clear Z a; intro vv a w8 D2 hr hF2 Z
    obtain ⟨q5, rfl, I8, K⟩ := hr
    have H : Hf I D w I8 w8 [BxC b_p1 9 [.string p1], BxC b_p2 25 [.int .i64 n0_6.1], BxC b_p3 28 [q5], SlC NS q5 n0_6.2, BxC b_h 48 [v10, v11, .pointer none, v13, .bool h.made], PtC OElink_Link v10 (h.l.getD 0 none), PtC OElink_Link v11 (h.l.getD 1 none), PtC OElink_Link v13 (h.l.getD 3 none), SlC NS v1_p3 p3] := hF2 K
    clear hF2 K
    refine s_end Z [] rfl ?_; clear Z; intro Z
    refine p_then (wp_seq (f_region Z ?_)); clear Z; intro Z
    refine s_runk tHb1 Z 1 rfl rfl ?_; clear Z a; intro a Z
    refine s_end Z [6] rfl ?_; clear Z; intro Z
    refine p_then (wp_ret ?_)
    replace H : Hf I D w I8 w8 [PtC OElink_Link (.pointer none) none, BxC b_p1 9 [.string p1], BxC b_p2 25 [.int .i64 n0_6.1], BxC b_p3 28 [q5], SlC NS q5 n0_6.2, BxC b_h 48 [v10, v11, .pointer none, v13, .bool h.made], PtC OElink_Link v10 (h.l.getD 0 none), PtC OElink_Link v11 (h.l.getD 1 none), PtC OElink_Link v13 (h.l.getD 3 none), SlC NS v1_p3 p3] := H.mkN OElink_Link
    replace H : Hf I D w I8 w8 [OEhub_Hub b_h ({ h with l := [(h.l.getD 0 none), (h.l.getD 1 none), none, (h.l.getD 3 none)] } : Ehub_Hub), BxC b_p1 9 [.string p1], BxC b_p2 25 [.int .i64 n0_6.1], BxC b_p3 28 [q5], SlC NS q5 n0_6.2, SlC NS v1_p3 p3] := H.shutX (v10, v11, .pointer none, v13) [(5, false), (5, false), (5, false), (0, false), (4, false)] rfl
    obtain rfl := some_in hF
    exact f_ret Z (run_results1 rfl Z rfl) ⟨q5, rfl, I8, (H.sub [(0, false), (0, false), (0, false), (0, false), (0, true)] rfl).eq rfl⟩
   ·obtain ⟨b3, hv, H⟩ := H.optS 3 rfl ho3
    subst hv
    replace H : Hf I D w I7 w7 [OElink_Link b3 x_3, BxC b_h 48 [v10, v11, .pointer (some ⟨b3, 0, none⟩), v13, .bool h.made], PtC OElink_Link v10 (h.l.getD 0 none), PtC OElink_Link v11 (h.l.getD 1 none), PtC OElink_Link v13 (h.l.getD 3 none), BxC b_p1 9 [.string p1], BxC b_p2 25 [.int .i64 p2], BxC b_p3 28 [v1_p3], SlC NS v1_p3 p3] := H
    obtain ⟨x0_3, hx9, hF⟩ := bnd_in hF
    refine f_region Z ?_; clear Z; intro Z
    refine s_runk tHb1 Z 5 rfl rfl ?_; clear Z a; intro a Z
    refine s_ob Z (v := .pointer (some ⟨b_h, 2, none⟩)) rfl rfl (by decide) rfl (Ob_apix (m := 1) 2 rfl rfl rfl Try.underlying46 (by kernel_rfl) (eq_of_beq hi3) (by decide)) ?_; clear Z a; intro a Z
    refine s_ob Z (v := .pointer (some ⟨b3, 0, none⟩)) rfl rfl (by decide) rfl (Ob_load tHb1 rfl rfl rfl ((H.bx 1 rfl).cell 2 rfl)) ?_; clear Z a; intro a Z
    refine h_call Z H (js := [(0, false), (4, false), (4, false), (4, false), (4, true)]) rfl (caps := #[.pointer (some ⟨b_p1, 0, none⟩), .pointer (some ⟨b_p2, 0, none⟩), .pointer (some ⟨b_p3, 0, none⟩)]) fn_19_YHb1 rfl rfl rfl rfl rfl (by decide) rfl rfl (fun D1 hS => have hq := c_hub_Hub_In_1 hx9 hS; hq) ?_; clear Z a; intro vv a w9 D2 hr hF2 Z
    obtain ⟨q6, rfl, I9, K⟩ := hr
    have H : Hf I D w I9 w9 [OElink_Link b3 x0_3.1, BxC b_p1 9 [.string p1], BxC b_p2 25 [.int .i64 x0_3.2.1], BxC b_p3 28 [q6], SlC NS q6 x0_3.2.2, BxC b_h 48 [v10, v11, .pointer (some ⟨b3, 0, none⟩), v13, .bool h.made], PtC OElink_Link v10 (h.l.getD 0 none), PtC OElink_Link v11 (h.l.getD 1 none), PtC OElink_Link v13 (h.l.getD 3 none), SlC NS v1_p3 p3] := hF2 K
    clear hF2 K
    refine s_end Z [] rfl ?_; clear Z; intro Z
    refine p_then (wp_seq (f_region Z ?_)); clear Z; intro Z
    refine s_runk tHb1 Z 1 rfl rfl ?_; clear Z a; intro a Z
    refine s_end Z [6] rfl ?_; clear Z; intro Z
    refine p_then (wp_ret ?_)
    replace H : Hf I D w I9 w9 [PtC OElink_Link (.pointer (some ⟨b3, 0, none⟩)) (some x0_3.1), BxC b_p1 9 [.string p1], BxC b_p2 25 [.int .i64 x0_3.2.1], BxC b_p3 28 [q6], SlC NS q6 x0_3.2.2, BxC b_h 48 [v10, v11, .pointer (some ⟨b3, 0, none⟩), v13, .bool h.made], PtC OElink_Link v10 (h.l.getD 0 none), PtC OElink_Link v11 (h.l.getD 1 none), PtC OElink_Link v13 (h.l.getD 3 none), SlC NS v1_p3 p3] := H.mkS (K := OElink_Link) 0 rfl
    replace H : Hf I D w I9 w9 [OEhub_Hub b_h ({ h with l := [(h.l.getD 0 none), (h.l.getD 1 none), some x0_3.1, (h.l.getD 3 none)] } : Ehub_Hub), BxC b_p1 9 [.string p1], BxC b_p2 25 [.int .i64 x0_3.2.1], BxC b_p3 28 [q6], SlC NS q6 x0_3.2.2, SlC NS v1_p3 p3] := H.shutX (v10, v11, .pointer (some ⟨b3, 0, none⟩), v13) [(5, false), (5, false), (5, false), (0, false), (4, false)] rfl
    obtain rfl := some_in hF
    exact f_ret Z (run_results1 rfl Z rfl) ⟨q6, rfl, I9, (H.sub [(0, false), (0, false), (0, false), (0, false), (0, true)] rfl).eq rfl⟩
 replace hF := ite_f hi3 hF
 refine bsplit (id == 3) (fun hi4 => ?_) (fun hi4 => ?_)
 ·replace hF := ite_t hi4 hF
  obtain ⟨n0_7, hx10, hF⟩ := bnd_in hF
  refine f_region Z ?_; clear Z; intro Z
  refine s_runk tHb1 Z 1 rfl rfl ?_; clear Z a; intro a Z
  refine h_call Z H (js := [(0, false)]) rfl (caps := #[]) fn_16_YHb1 rfl rfl rfl rfl rfl (by decide) rfl rfl (fun D1 hS => have hq := c_hub_Hub_none hx10 hS; hq) ?_; clear Z a; intro vv a w10 D2 hr hF2 Z
  obtain ⟨rfl, I10, K⟩ := hr
  have H : Hf I D w I10 w10 [OEhub_Hub b_h h, BxC b_p1 9 [.string p1], BxC b_p2 25 [.int .i64 p2], BxC b_p3 28 [v1_p3], SlC NS v1_p3 p3] := hF2 K
  clear hF2 K
  refine s_runk tHb1 Z 1 rfl rfl ?_; clear Z a; intro a Z
  refine g_ob Z (p := (!n0_7)) (v := .int .i64 id) (S' := [(1, .int .i64 id)]) rfl rfl rfl (wantB_f _) rfl (by decide) (fun hp hS => hS.sub (ts := [1]) rfl) (fun hp => Ob_c tHb1 rfl) ?_; clear Z a; intro a Z
  refine g_ob Z (p := (!n0_7)) (v := .bool (decide (id < 0))) (S' := [(10, .int .i64 id)]) rfl rfl rfl (wantB_f _) rfl (by decide) (fun hp hS => (hS.conv (t := 10) rfl (cond_t hp)).sub (ts := [10]) rfl) (fun hp => Ob_c tHb1 rfl) ?_; clear Z a; intro a Z
  refine s_ob Z (v := .bool (n0_7 || (decide (id < 0)))) rfl rfl (by decide) rfl (Ob_pick rfl rfl rfl rfl (pick_or _ _)) ?_; clear Z a; intro a Z
  refine s_runk tHb1 Z 1 rfl rfl ?_; clear Z a; intro a Z
  refine g_ob Z (p := (!(n0_7 || (decide (id < 0))))) (v := .int .i64 id) (S' := [(1, .int .i64 id)]) rfl rfl rfl (wantB_f _) rfl (by decide) (fun hp hS => hS.sub (ts := [1]) rfl) (fun hp => Ob_c tHb1 rfl) ?_; clear Z a; intro a Z
  refine g_ob Z (p := (!(n0_7 || (decide (id < 0))))) (v := .bool (decide (id ≥ 4))) (S' := [(14, .int .i64 id)]) rfl rfl rfl (wantB_f _) rfl (by decide) (fun hp hS => (hS.conv (t := 14) rfl (cond_t hp)).sub (ts := [14]) rfl) (fun hp => Ob_c tHb1 rfl) ?_; clear Z a; intro a Z
  refine s_ob Z (v := .bool ((n0_7 || (decide (id < 0))) || (decide (id ≥ 4)))) rfl rfl (by decide) rfl (Ob_pick rfl rfl rfl rfl (pick_or _ _)) ?_; clear Z a; intro a Z
  refine s_runk tHb1 Z 1 rfl rfl ?_; clear Z a; intro a Z
  refine g_ob Z (p := (!((n0_7 || (decide (id < 0))) || (decide (id ≥ 4))))) (v := .pointer (some ⟨b_h, 0, none⟩)) (S' := [(0, .pointer (some ⟨b_h, 0, none⟩))]) rfl rfl rfl (wantB_f _) rfl (by decide) (fun hp hS => hS.sub (ts := [0]) rfl) (fun hp => Ob_c tHb1 rfl) ?_; clear Z a; intro a Z
  refine g_ob Z (p := (!((n0_7 || (decide (id < 0))) || (decide (id ≥ 4))))) (v := .int .i64 id) (S' := [(1, .int .i64 id)]) rfl rfl rfl (wantB_f _) rfl (by decide) (fun hp hS => hS.sub (ts := [1]) rfl) (fun hp => Ob_c tHb1 rfl) ?_; clear Z a; intro a Z
  refine g_ob Z (p := (!((n0_7 || (decide (id < 0))) || (decide (id ≥ 4))))) (v := .pointer (some ⟨b_h, 0, none⟩)) (S' := [(18, .pointer (some ⟨b_h, 0, none⟩))]) rfl rfl rfl (wantB_f _) rfl (by decide) (fun hp hS => (hS.conv (t := 18) rfl (cond_t hp)).sub (ts := [18]) rfl) (fun hp => Ob_c tHb1 rfl) ?_; clear Z a; intro a Z
  refine g_ob Z (p := (!((n0_7 || (decide (id < 0))) || (decide (id ≥ 4))))) (v := .pointer (some ⟨b_h, 0, none⟩)) (S' := [(20, .pointer (some ⟨b_h, 0, none⟩))]) rfl rfl rfl (wantB_f _) rfl (by decide) (fun hp hS => (hS.conv (t := 20) rfl (cond_t hp)).sub (ts := [20]) rfl) (fun hp => Ob_c tHb1 rfl) ?_; clear Z a; intro a Z
  refine g_ob Z (p := (!((n0_7 || (decide (id < 0))) || (decide (id ≥ 4))))) (v := .pointer (some ⟨b_h, 3, none⟩)) (S' := [(21, .pointer (some ⟨b_h, 0, none⟩)), (19, .int .i64 id)]) rfl rfl rfl (wantB_f _) rfl (by decide) (fun hp hS => ((hS.conv (t := 21) rfl (cond_t hp)).conv (t := 19) rfl (cond_t hp)).sub (ts := [21, 19]) rfl) (fun hp => Ob_apix (m := 1) 3 rfl rfl rfl Try.underlying46 (by kernel_rfl) (eq_of_beq hi4) (by decide)) ?_; clear Z a; intro a Z
  obtain ⟨⟨v14, v15, v16, v17⟩, H⟩ := H.openX 0 rfl
  replace H : Hf I D w I10 w10 [BxC b_h 48 [v14, v15, v16, v17, .bool h.made], PtC OElink_Link v14 (h.l.getD 0 none), PtC OElink_Link v15 (h.l.getD 1 none), PtC OElink_Link v16 (h.l.getD 2 none), PtC OElink_Link v17 (h.l.getD 3 none), BxC b_p1 9 [.string p1], BxC b_p2 25 [.int .i64 p2], BxC b_p3 28 [v1_p3], SlC NS v1_p3 p3] := H
  refine g_ob Z (p := (!((n0_7 || (decide (id < 0))) || (decide (id ≥ 4))))) (v := v17) (S' := [(22, .pointer (some ⟨b_h, 3, none⟩))]) rfl rfl rfl (wantB_f _) rfl (by decide) (fun hp hS => (hS.conv (t := 22) rfl (cond_t hp)).sub (ts := [22]) rfl) (fun hp => Ob_load tHb1 rfl rfl rfl ((H.bx 0 rfl).cell 3 rfl)) ?_; clear Z a; intro a Z
  refine g_ob Z (p := (!((n0_7 || (decide (id < 0))) || (decide (id ≥ 4))))) (v := .bool ((h.l.getD 3 none).isNone)) (S' := [(23, v17)]) rfl rfl rfl (wantB_f _) rfl (by decide) (fun hp hS => (hS.conv (t := 23) rfl (cond_t hp)).sub (ts := [23]) rfl) (fun hp => Ob_popt (q := (h.l.getD 3 none)) rfl rfl rfl Try.underlying45 (H.optI 4 rfl) (.inl ⟨rfl, rfl⟩)) ?_; clear Z a; intro a Z
  refine s_ob Z (v := .bool (((n0_7 || (decide (id < 0))) || (decide (id ≥ 4))) || ((h.l.getD 3 none).isNone))) rfl rfl (by decide) rfl (Ob_pick rfl rfl rfl rfl (pick_or _ _)) ?_; clear Z a; intro a Z
  refine s_end Z [0, 1, 2, 25] rfl ?_; clear Z; intro Z
  refine p_then ?_
  refine f_cond Z rfl (fun hc4 => ?_) (fun hc4 => ?_)
  ·replace hF := ite_t hc4 hF
   refine wp_seq (f_region Z ?_); clear Z; intro Z
   refine s_runk tHb1 Z 1 rfl rfl ?_; clear Z a; intro a Z
   refine s_end Z [6] rfl ?_; clear Z; intro Z
   refine p_then (wp_ret ?_)
   refine p_then_r ?_
   replace H : Hf I D w I10 w10 [OEhub_Hub b_h h, BxC b_p1 9 [.string p1], BxC b_p2 25 [.int .i64 p2], BxC b_p3 28 [v1_p3], SlC NS v1_p3 p3] := H.shutX (v14, v15, v16, v17) [(0, false), (0, false), (0, false), (0, false), (0, false)] rfl
   obtain rfl := some_in hF
   exact f_ret Z (run_results1 rfl Z rfl) ⟨v1_p3, rfl, I10, (H.sub [(0, false), (0, false), (0, false), (0, false), (0, true)] rfl).eq rfl⟩
  ·replace hF := ite_f hc4 hF
   refine wp_skip ?_
   refine p_then (wp_seq ?_)
   rcases optE_in hF with ⟨ho4, hF⟩ | ⟨x_4, ho4, hF⟩
   ·obtain ⟨hv, H⟩ := H.optN 4 rfl ho4
    subst hv
    replace H : Hf I D w I10 w10 [BxC b_h 48 [v14, v15, v16, .pointer none, .bool h.made], PtC OElink_Link v14 (h.l.getD 0 none), PtC OElink_Link v15 (h.l.getD 1 none), PtC OElink_Link v16 (h.l.getD 2 none), BxC b_p1 9 [.string p1], BxC b_p2 25 [.int .i64 p2], BxC b_p3 28 [v1_p3], SlC NS v1_p3 p3] := H
    obtain ⟨n0_8, hx11, hF⟩ := bnd_in hF
    refine f_region Z ?_; clear Z; intro Z
    refine s_runk tHb1 Z 5 rfl rfl ?_; clear Z a; intro a Z
    refine s_ob Z (v := .pointer (some ⟨b_h, 3, none⟩)) rfl rfl (by decide) rfl (Ob_apix (m := 1) 3 rfl rfl rfl Try.underlying46 (by kernel_rfl) (eq_of_beq hi4) (by decide)) ?_; clear Z a; intro a Z
    refine s_ob Z (v := .pointer none) rfl rfl (by decide) rfl (Ob_load tHb1 rfl rfl rfl ((H.bx 0 rfl).cell 3 rfl)) ?_; clear Z a; intro a Z
    refine h_call Z H (js := [(4, false), (4, false), (4, false), (4, true)]) rfl (caps := #[.pointer (some ⟨b_p1, 0, none⟩), .pointer (some ⟨b_p2, 0, none⟩), .pointer (some ⟨b_p3, 0, none⟩)]) fn_19_YHb1 rfl rfl rfl rfl rfl (by decide) rfl rfl (fun D1 hS => have hq := c_hub_Hub_In_1_nil hx11 hS; hq) ?_; clear Z a; intro vv a w11 D2 hr hF2 Z
    obtain ⟨q7, rfl, I11, K⟩ := hr
    have H : Hf I D w I11 w11 [BxC b_p1 9 [.string p1], BxC b_p2 25 [.int .i64 n0_8.1], BxC b_p3 28 [q7], SlC NS q7 n0_8.2, BxC b_h 48 [v14, v15, v16, .pointer none, .bool h.made], PtC OElink_Link v14 (h.l.getD 0 none), PtC OElink_Link v15 (h.l.getD 1 none), PtC OElink_Link v16 (h.l.getD 2 none), SlC NS v1_p3 p3] := hF2 K
    clear hF2 K
    refine s_end Z [] rfl ?_; clear Z; intro Z
    refine p_then (wp_seq (f_region Z ?_)); clear Z; intro Z
    refine s_runk tHb1 Z 1 rfl rfl ?_; clear Z a; intro a Z
    refine s_end Z [6] rfl ?_; clear Z; intro Z
    refine p_then (wp_ret ?_)
    replace H : Hf I D w I11 w11 [PtC OElink_Link (.pointer none) none, BxC b_p1 9 [.string p1], BxC b_p2 25 [.int .i64 n0_8.1], BxC b_p3 28 [q7], SlC NS q7 n0_8.2, BxC b_h 48 [v14, v15, v16, .pointer none, .bool h.made], PtC OElink_Link v14 (h.l.getD 0 none), PtC OElink_Link v15 (h.l.getD 1 none), PtC OElink_Link v16 (h.l.getD 2 none), SlC NS v1_p3 p3] := H.mkN OElink_Link
    replace H : Hf I D w I11 w11 [OEhub_Hub b_h ({ h with l := [(h.l.getD 0 none), (h.l.getD 1 none), (h.l.getD 2 none), none] } : Ehub_Hub), BxC b_p1 9 [.string p1], BxC b_p2 25 [.int .i64 n0_8.1], BxC b_p3 28 [q7], SlC NS q7 n0_8.2, SlC NS v1_p3 p3] := H.shutX (v14, v15, v16, .pointer none) [(5, false), (5, false), (5, false), (5, false), (0, false)] rfl
    obtain rfl := some_in hF
    exact f_ret Z (run_results1 rfl Z rfl) ⟨q7, rfl, I11, (H.sub [(0, false), (0, false), (0, false), (0, false), (0, true)] rfl).eq rfl⟩
   ·obtain ⟨b4, hv, H⟩ := H.optS 4 rfl ho4
    subst hv
    replace H : Hf I D w I10 w10 [OElink_Link b4 x_4, BxC b_h 48 [v14, v15, v16, .pointer (some ⟨b4, 0, none⟩), .bool h.made], PtC OElink_Link v14 (h.l.getD 0 none), PtC OElink_Link v15 (h.l.getD 1 none), PtC OElink_Link v16 (h.l.getD 2 none), BxC b_p1 9 [.string p1], BxC b_p2 25 [.int .i64 p2], BxC b_p3 28 [v1_p3], SlC NS v1_p3 p3] := H
    obtain ⟨x0_4, hx12, hF⟩ := bnd_in hF
    refine f_region Z ?_; clear Z; intro Z
    refine s_runk tHb1 Z 5 rfl rfl ?_; clear Z a; intro a Z
    refine s_ob Z (v := .pointer (some ⟨b_h, 3, none⟩)) rfl rfl (by decide) rfl (Ob_apix (m := 1) 3 rfl rfl rfl Try.underlying46 (by kernel_rfl) (eq_of_beq hi4) (by decide)) ?_; clear Z a; intro a Z
    refine s_ob Z (v := .pointer (some ⟨b4, 0, none⟩)) rfl rfl (by decide) rfl (Ob_load tHb1 rfl rfl rfl ((H.bx 1 rfl).cell 3 rfl)) ?_; clear Z a; intro a Z
    refine h_call Z H (js := [(0, false), (4, false), (4, false), (4, false), (4, true)]) rfl (caps := #[.pointer (some ⟨b_p1, 0, none⟩), .pointer (some ⟨b_p2, 0, none⟩), .pointer (some ⟨b_p3, 0, none⟩)]) fn_19_YHb1 rfl rfl rfl rfl rfl (by decide) rfl rfl (fun D1 hS => have hq := c_hub_Hub_In_1 hx12 hS; hq) ?_; clear Z a; intro vv a w12 D2 hr hF2 Z
    obtain ⟨q8, rfl, I12, K⟩ := hr
    have H : Hf I D w I12 w12 [OElink_Link b4 x0_4.1, BxC b_p1 9 [.string p1], BxC b_p2 25 [.int .i64 x0_4.2.1], BxC b_p3 28 [q8], SlC NS q8 x0_4.2.2, BxC b_h 48 [v14, v15, v16, .pointer (some ⟨b4, 0, none⟩), .bool h.made], PtC OElink_Link v14 (h.l.getD 0 none), PtC OElink_Link v15 (h.l.getD 1 none), PtC OElink_Link v16 (h.l.getD 2 none), SlC NS v1_p3 p3] := hF2 K
    clear hF2 K
    refine s_end Z [] rfl ?_; clear Z; intro Z
    refine p_then (wp_seq (f_region Z ?_)); clear Z; intro Z
    refine s_runk tHb1 Z 1 rfl rfl ?_; clear Z a; intro a Z
    refine s_end Z [6] rfl ?_; clear Z; intro Z
    refine p_then (wp_ret ?_)
    replace H : Hf I D w I12 w12 [PtC OElink_Link (.pointer (some ⟨b4, 0, none⟩)) (some x0_4.1), BxC b_p1 9 [.string p1], BxC b_p2 25 [.int .i64 x0_4.2.1], BxC b_p3 28 [q8], SlC NS q8 x0_4.2.2, BxC b_h 48 [v14, v15, v16, .pointer (some ⟨b4, 0, none⟩), .bool h.made], PtC OElink_Link v14 (h.l.getD 0 none), PtC OElink_Link v15 (h.l.getD 1 none), PtC OElink_Link v16 (h.l.getD 2 none), SlC NS v1_p3 p3] := H.mkS (K := OElink_Link) 0 rfl
    replace H : Hf I D w I12 w12 [OEhub_Hub b_h ({ h with l := [(h.l.getD 0 none), (h.l.getD 1 none), (h.l.getD 2 none), some x0_4.1] } : Ehub_Hub), BxC b_p1 9 [.string p1], BxC b_p2 25 [.int .i64 x0_4.2.1], BxC b_p3 28 [q8], SlC NS q8 x0_4.2.2, SlC NS v1_p3 p3] := H.shutX (v14, v15, v16, .pointer (some ⟨b4, 0, none⟩)) [(5, false), (5, false), (5, false), (5, false), (0, false)] rfl
    obtain rfl := some_in hF
    exact f_ret Z (run_results1 rfl Z rfl) ⟨q8, rfl, I12, (H.sub [(0, false), (0, false), (0, false), (0, false), (0, true)] rfl).eq rfl⟩
 replace hF := ite_f hi4 hF
 obtain ⟨n0_9, hx13, hF⟩ := bnd_in hF
 obtain ⟨hg1, hF⟩ := chk_in hF
 refine f_region Z ?_; clear Z; intro Z
 refine s_runk tHb1 Z 1 rfl rfl ?_; clear Z a; intro a Z
 refine h_call Z H (js := [(0, false)]) rfl (caps := #[]) fn_16_YHb1 rfl rfl rfl rfl rfl (by decide) rfl rfl (fun D1 hS => have hq := c_hub_Hub_none hx13 hS; hq) ?_; clear Z a; intro vv a w13 D2 hr hF2 Z
 obtain ⟨rfl, I13, K⟩ := hr
 have H : Hf I D w I13 w13 [OEhub_Hub b_h h, BxC b_p1 9 [.string p1], BxC b_p2 25 [.int .i64 p2], BxC b_p3 28 [v1_p3], SlC NS v1_p3 p3] := hF2 K
 clear hF2 K
 refine s_runk tHb1 Z 1 rfl rfl ?_; clear Z a; intro a Z
 refine g_ob Z (p := (!n0_9)) (v := .int .i64 id) (S' := [(1, .int .i64 id)]) rfl rfl rfl (wantB_f _) rfl (by decide) (fun hp hS => hS.sub (ts := [1]) rfl) (fun hp => Ob_c tHb1 rfl) ?_; clear Z a; intro a Z
 refine g_ob Z (p := (!n0_9)) (v := .bool (decide (id < 0))) (S' := [(10, .int .i64 id)]) rfl rfl rfl (wantB_f _) rfl (by decide) (fun hp hS => (hS.conv (t := 10) rfl (cond_t hp)).sub (ts := [10]) rfl) (fun hp => Ob_c tHb1 rfl) ?_; clear Z a; intro a Z
 refine s_ob Z (v := .bool (n0_9 || (decide (id < 0)))) rfl rfl (by decide) rfl (Ob_pick rfl rfl rfl rfl (pick_or _ _)) ?_; clear Z a; intro a Z
 refine s_runk tHb1 Z 1 rfl rfl ?_; clear Z a; intro a Z
 refine g_ob Z (p := (!(n0_9 || (decide (id < 0))))) (v := .int .i64 id) (S' := [(1, .int .i64 id)]) rfl rfl rfl (wantB_f _) rfl (by decide) (fun hp hS => hS.sub (ts := [1]) rfl) (fun hp => Ob_c tHb1 rfl) ?_; clear Z a; intro a Z
 refine g_ob Z (p := (!(n0_9 || (decide (id < 0))))) (v := .bool (decide (id ≥ 4))) (S' := [(14, .int .i64 id)]) rfl rfl rfl (wantB_f _) rfl (by decide) (fun hp hS => (hS.conv (t := 14) rfl (cond_t hp)).sub (ts := [14]) rfl) (fun hp => Ob_c tHb1 rfl) ?_; clear Z a; intro a Z
 refine s_ob Z (v := .bool ((n0_9 || (decide (id < 0))) || (decide (id ≥ 4)))) rfl rfl (by decide) rfl (Ob_pick rfl rfl rfl rfl (pick_or _ _)) ?_; clear Z a; intro a Z
 refine s_runk tHb1 Z 1 rfl rfl ?_; clear Z a; intro a Z
 refine g_ob Z (p := (!((n0_9 || (decide (id < 0))) || (decide (id ≥ 4))))) (v := .pointer (some ⟨b_h, 0, none⟩)) (S' := [(0, .pointer (some ⟨b_h, 0, none⟩))]) rfl rfl rfl (wantB_f _) rfl (by decide) (fun hp hS => hS.sub (ts := [0]) rfl) (fun hp => Ob_c tHb1 rfl) ?_; clear Z a; intro a Z
 refine g_ob Z (p := (!((n0_9 || (decide (id < 0))) || (decide (id ≥ 4))))) (v := .int .i64 id) (S' := [(1, .int .i64 id)]) rfl rfl rfl (wantB_f _) rfl (by decide) (fun hp hS => hS.sub (ts := [1]) rfl) (fun hp => Ob_c tHb1 rfl) ?_; clear Z a; intro a Z
 refine g_ob Z (p := (!((n0_9 || (decide (id < 0))) || (decide (id ≥ 4))))) (v := .pointer (some ⟨b_h, 0, none⟩)) (S' := [(18, .pointer (some ⟨b_h, 0, none⟩))]) rfl rfl rfl (wantB_f _) rfl (by decide) (fun hp hS => (hS.conv (t := 18) rfl (cond_t hp)).sub (ts := [18]) rfl) (fun hp => Ob_c tHb1 rfl) ?_; clear Z a; intro a Z
 refine g_ob Z (p := (!((n0_9 || (decide (id < 0))) || (decide (id ≥ 4))))) (v := .pointer (some ⟨b_h, 0, none⟩)) (S' := [(20, .pointer (some ⟨b_h, 0, none⟩))]) rfl rfl rfl (wantB_f _) rfl (by decide) (fun hp hS => (hS.conv (t := 20) rfl (cond_t hp)).sub (ts := [20]) rfl) (fun hp => Ob_c tHb1 rfl) ?_; clear Z a; intro a Z
 refine g_ob Z (p := (!((n0_9 || (decide (id < 0))) || (decide (id ≥ 4))))) (v := .pointer (some ⟨b_h, 0, none⟩)) (S' := [(21, .pointer (some ⟨b_h, 0, none⟩)), (19, .int .i64 id)]) rfl rfl rfl (wantB_f _) rfl (by decide) (fun hp hS => ((hS.conv (t := 21) rfl (cond_t hp)).conv (t := 19) rfl (cond_t hp)).sub (ts := [21, 19]) rfl) (fun hp => (False.elim (hg1 hp))) ?_; clear Z a; intro a Z
 obtain ⟨⟨v18, v19, v20, v21⟩, H⟩ := H.openX 0 rfl
 replace H : Hf I D w I13 w13 [BxC b_h 48 [v18, v19, v20, v21, .bool h.made], PtC OElink_Link v18 (h.l.getD 0 none), PtC OElink_Link v19 (h.l.getD 1 none), PtC OElink_Link v20 (h.l.getD 2 none), PtC OElink_Link v21 (h.l.getD 3 none), BxC b_p1 9 [.string p1], BxC b_p2 25 [.int .i64 p2], BxC b_p3 28 [v1_p3], SlC NS v1_p3 p3] := H
 refine g_ob Z (p := (!((n0_9 || (decide (id < 0))) || (decide (id ≥ 4))))) (v := v18) (S' := [(22, .pointer (some ⟨b_h, 0, none⟩))]) rfl rfl rfl (wantB_f _) rfl (by decide) (fun hp hS => (hS.conv (t := 22) rfl (cond_t hp)).sub (ts := [22]) rfl) (fun hp => Ob_load tHb1 rfl rfl rfl ((H.bx 0 rfl).cell 0 rfl)) ?_; clear Z a; intro a Z
 refine g_ob Z (p := (!((n0_9 || (decide (id < 0))) || (decide (id ≥ 4))))) (v := .bool ((h.l.getD 0 none).isNone)) (S' := [(23, v18)]) rfl rfl rfl (wantB_f _) rfl (by decide) (fun hp hS => (hS.conv (t := 23) rfl (cond_t hp)).sub (ts := [23]) rfl) (fun hp => Ob_popt (q := (h.l.getD 0 none)) rfl rfl rfl Try.underlying45 (H.optI 1 rfl) (.inl ⟨rfl, rfl⟩)) ?_; clear Z a; intro a Z
 refine s_ob Z (v := .bool (((n0_9 || (decide (id < 0))) || (decide (id ≥ 4))) || ((h.l.getD 0 none).isNone))) rfl rfl (by decide) rfl (Ob_pick rfl rfl rfl rfl (pick_or _ _)) ?_; clear Z a; intro a Z
 refine s_end Z [0, 1, 2, 25] rfl ?_; clear Z; intro Z
 refine p_then ?_
 refine f_cond Z rfl (fun hc5 => ?_) (fun hc5 => ?_)
 ·replace hF := ite_t hc5 hF
  refine wp_seq (f_region Z ?_); clear Z; intro Z
  refine s_runk tHb1 Z 1 rfl rfl ?_; clear Z a; intro a Z
  refine s_end Z [6] rfl ?_; clear Z; intro Z
  refine p_then (wp_ret ?_)
  refine p_then_r ?_
  replace H : Hf I D w I13 w13 [OEhub_Hub b_h h, BxC b_p1 9 [.string p1], BxC b_p2 25 [.int .i64 p2], BxC b_p3 28 [v1_p3], SlC NS v1_p3 p3] := H.shutX (v18, v19, v20, v21) [(0, false), (0, false), (0, false), (0, false), (0, false)] rfl
  obtain rfl := some_in hF
  exact f_ret Z (run_results1 rfl Z rfl) ⟨v1_p3, rfl, I13, (H.sub [(0, false), (0, false), (0, false), (0, false), (0, true)] rfl).eq rfl⟩
 ·replace hF := ite_f hc5 hF
  refine wp_skip ?_
  refine p_then (wp_seq ?_)
  cases hF

def F_hub_Hub_In (h : Ehub_Hub) (from_ : Int) (s0 : ByteArray) : Option ((List ByteArray) × Int × Ehub_Hub) := (F_hub_Hub_with__hub_Hub_In_1 h from_ s0 0 ([] : List ByteArray)).bind fun x0 => (if (!x0.1) = true then ((F_hub_Hub_nobody x0.2.1).bind fun n0 => (some (([] : List ByteArray), n0, x0.2.1))) else (some (x0.2.2.2, x0.2.2.1, x0.2.1)))

set_option maxHeartbeats 1000000 in
theorem c_hub_Hub_In {I D : Dm} {b_h : Nat} {h : Ehub_Hub} {from_ : Int} {s0 : ByteArray} {w : World} {rr : (List ByteArray) × Int × Ehub_Hub} (hF : F_hub_Hub_In h from_ s0 = some rr) (H : St I D w [OEhub_Hub b_h h]) :
  Calls Try.prog 7 #[.pointer (some ⟨b_h, 0, none⟩), .int .i64 from_, .string s0] w (Ret fun vv w' => ∃ q1 : Value, vv = .tuple #[q1, .int .i64 rr.2.1] ∧ ∃ I', Hf I D w I' w' [OEhub_Hub b_h rr.2.2, SlC NS q1 rr.1]) := by
 replace H := H.hf
 unfold F_hub_Hub_In at hF
 refine f_enter 19 Try.func7 rfl rfl (Nat.le_of_ble_eq_true rfl) fun a Z => ?_
 replace Z := Z.sub (ts := [0, 1, 2]) rfl
 refine wp_seq (f_region Z ?_); clear Z; intro Z
 refine h_boxv Z H (cl := [.string s0]) rfl rfl rfl (by decide) rfl rfl rfl ?_; clear Z a H; intro a w1 b1 H Z
 refine h_alloc Z H (cl := [.slice none 0 0]) (z := .slice none 0 0) rfl rfl rfl (by decide) rfl (by kernel_rfl) rfl ?_; clear Z a H; intro a w2 b2 H Z
 refine h_alloc Z H (cl := [.int .i64 0]) (z := .int .i64 0) rfl rfl rfl (by decide) rfl (by kernel_rfl) rfl ?_; clear Z a H; intro a w3 b3 H Z
 refine s_end Z [0, 1, 5, 6, 7] rfl ?_; clear Z; intro Z
 refine p_then (wp_seq (f_region Z ?_)); clear Z; intro Z
 refine s_runk tHb1 Z 2 rfl rfl ?_; clear Z a; intro a Z
 refine s_end Z [0, 1, 6, 7, 8] rfl ?_; clear Z; intro Z
 refine p_then (wp_seq ?_)
 refine wp_seq ?_
 obtain ⟨x0, hx1, hF⟩ := bnd_in hF
 refine f_region Z ?_; clear Z; intro Z
 refine s_runk tHb1 Z 3 rfl rfl ?_; clear Z a; intro a Z
 replace H : Hf I D w I w3 [SlC NS (.slice none 0 0) ([] : List ByteArray), BxC b3 25 [.int .i64 0], BxC b2 28 [.slice none 0 0], BxC b1 9 [.string s0], OEhub_Hub b_h h] := H.slNil NS
 refine h_call Z H (js := [(4, false), (3, false), (1, false), (1, false), (0, true)]) rfl (caps := #[]) fn_12_YHb1 rfl rfl rfl rfl rfl (by decide) rfl rfl (fun D1 hS => have hq := c_hub_Hub_with__hub_Hub_In_1 hx1 hS; hq) ?_; clear Z a; intro vv a w4 D2 hr hF2 Z
 obtain ⟨q1, rfl, I1, K⟩ := hr
 have H : Hf I D w I1 w4 [OEhub_Hub b_h x0.2.1, BxC b1 9 [.string s0], BxC b3 25 [.int .i64 x0.2.2.1], BxC b2 28 [q1], SlC NS q1 x0.2.2.2, SlC NS (.slice none 0 0) ([] : List ByteArray)] := hF2 K
 clear hF2 K
 refine s_runk tHb1 Z 1 rfl rfl ?_; clear Z a; intro a Z
 refine s_end Z [0, 6, 7, 14] rfl ?_; clear Z; intro Z
 refine p_then ?_
 refine f_cond Z rfl (fun hc1 => ?_) (fun hc1 => ?_)
 ·replace hF := ite_t hc1 hF
  refine wp_seq ?_
  obtain ⟨n0, hx2, hF⟩ := bnd_in hF
  refine f_region Z ?_; clear Z; intro Z
  refine s_runk tHb1 Z 1 rfl rfl ?_; clear Z a; intro a Z
  refine h_call Z H (js := [(0, false)]) rfl (caps := #[]) fn_15_YHb1 rfl rfl rfl rfl rfl (by decide) rfl rfl (fun D1 hS => have hq := c_hub_Hub_nobody hx2 hS; hq) ?_; clear Z a; intro vv a w5 D2 hr hF2 Z
  obtain ⟨rfl, I2, K⟩ := hr
  have H : Hf I D w I2 w5 [OEhub_Hub b_h x0.2.1, BxC b1 9 [.string s0], BxC b3 25 [.int .i64 x0.2.2.1], BxC b2 28 [q1], SlC NS q1 x0.2.2.2, SlC NS (.slice none 0 0) ([] : List ByteArray)] := hF2 K
  clear hF2 K
  refine h_store tHb1 Z H 3 rfl rfl rfl rfl rfl rfl (slS.cells slS.nil) rfl rfl (one_cons (slS.one slS.nil) one_nil) (Nat.le_of_ble_eq_true rfl) rfl ?_; clear H; intro w6 H
  dsimp only [List.eraseIdx] at H
  refine h_store tHb1 Z H 3 rfl rfl rfl rfl rfl rfl rfl rfl rfl (one_cons rfl one_nil) (Nat.le_of_ble_eq_true rfl) rfl ?_; clear H; intro w7 H
  dsimp only [List.eraseIdx] at H
  refine s_end Z [6, 7] rfl ?_; clear Z; intro Z
  refine p_then (wp_ret ?_)
  refine p_then_r ?_
  replace H : Hf I D w I2 w7 [SlC NS (.slice none 0 0) ([] : List ByteArray), BxC b3 25 [.int .i64 n0], BxC b2 28 [.slice none 0 0], OEhub_Hub b_h x0.2.1, BxC b1 9 [.string s0], SlC NS q1 x0.2.2.2, SlC NS (.slice none 0 0) ([] : List ByteArray)] := H.slNil NS
  obtain rfl := some_in hF
  exact f_ret Z (run_resultsCC rfl Z rfl (run_loadVar_one tHb1 rfl ((H.bx 2 rfl).cell 0 rfl)) rfl (run_loadVar_one tHb1 rfl ((H.bx 1 rfl).cell 0 rfl))) ⟨.slice none 0 0, rfl, I2, (H.sub [(3, false), (0, true)] rfl).eq rfl⟩
 ·replace hF := ite_f hc1 hF
  refine wp_skip ?_
  refine p_then (wp_seq ?_)
  refine f_regionL Z (by kernel_rfl) (by kernel_rfl) (by decide) (by decide) [2, 3] [(0, 0, 0), (0, 0, 1), (1, 0, 0), (7, 1, 1)] (by kernel_rfl) (fun jj vv => match jj with | 0 => vv = q1 | 1 => vv = .int .i64 x0.2.2.1 | 2 => True | 3 => True | _ => True) (fun ss vals1 xw => match ss with | 0 => Gx I D w I1 w4 xw [OEhub_Hub b_h x0.2.1, BxC b1 9 [.string s0], BxC b3 25 [.int .i64 x0.2.2.1], BxC b2 28 [q1], SlC NS q1 x0.2.2.2, SlC NS (.slice none 0 0) ([] : List ByteArray)] | 1 => Gx I D w I1 w4 xw [BxC b2 28 [q1], OEhub_Hub b_h x0.2.1, BxC b1 9 [.string s0], BxC b3 25 [.int .i64 x0.2.2.1], SlC NS q1 x0.2.2.2, SlC NS (.slice none 0 0) ([] : List ByteArray)] | _ => Gx I D w I1 w4 xw [BxC b3 25 [.int .i64 x0.2.2.1], BxC b2 28 [q1], OEhub_Hub b_h x0.2.1, BxC b1 9 [.string s0], SlC NS q1 x0.2.2.2, SlC NS (.slice none 0 0) ([] : List ByteArray)]) (fun _ => Gx.start H) ?_ ?_
  ·intro fr hfr hfe
   refine .cons (fun ss hlo hhi vals1 xw hG hV => ?_) ?_
   ·obtain rfl : ss = 0 := Nat.le_antisymm hhi hlo
    rw [← hfe]
    have hS := (hfr vals1).sub (ts := [6]) (S' := [(6, .pointer (some ⟨b2, 0, none⟩))]) rfl
    obtain ⟨I2, hI2, H⟩ := Gx.ex hG
    exact L_val hS rfl (Ob_load tHb1 rfl rfl rfl ((H.bx 3 rfl).cell 0 rfl)) ⟨rfl, hG⟩
   refine .cons (fun ss hlo hhi vals1 xw hG hV => ?_) ?_
   ·obtain rfl | rfl : ss = 0 ∨ ss = 1 := st1 hlo hhi
    ·rw [← hfe]
     have hS := (hfr vals1).sub (ts := [7]) (S' := [(7, .pointer (some ⟨b3, 0, none⟩))]) rfl
     obtain ⟨I2, hI2, H⟩ := Gx.ex hG
     exact L_val hS rfl (Ob_load tHb1 rfl rfl rfl ((H.bx 2 rfl).cell 0 rfl)) ⟨rfl, hG⟩
    ·rw [← hfe]
     have hS := (hfr vals1).sub (ts := [7]) (S' := [(7, .pointer (some ⟨b3, 0, none⟩))]) rfl
     obtain ⟨I2, hI2, H⟩ := Gx.ex hG
     exact L_val hS rfl (Ob_load tHb1 rfl rfl rfl ((H.bx 3 rfl).cell 0 rfl)) ⟨rfl, hG⟩
   refine .cons (fun ss hlo hhi vals1 xw hG hV => ?_) ?_
   ·obtain rfl : ss = 0 := Nat.le_antisymm hhi hlo
    rw [← hfe]
    have hS := (hfr vals1).sub (ts := [17, 6]) (S' := [(17, vals1 0), (6, .pointer (some ⟨b2, 0, none⟩))]) rfl
    replace hS := hS.conv (t := 17) rfl (show (vals1 0) = q1 from hV 0 (by decide))
    obtain ⟨I2, hI2, H⟩ := Gx.ex hG
    exact L_store tHb1 H 3 rfl hS rfl rfl rfl rfl rfl (slS.cells (H.slshape 4 rfl)) rfl rfl (one_cons (slS.one (H.slshape 4 rfl)) one_nil) (Nat.le_of_ble_eq_true rfl) rfl fun yw hK H => ⟨trivial, Gx.go hG hI2 hK (fun _ h => h) H⟩
   refine .cons (fun ss hlo hhi vals1 xw hG hV => ?_) ?_
   ·obtain rfl : ss = 1 := Nat.le_antisymm hhi hlo
    rw [← hfe]
    have hS := (hfr vals1).sub (ts := [18, 7]) (S' := [(18, vals1 1), (7, .pointer (some ⟨b3, 0, none⟩))]) rfl
    replace hS := hS.conv (t := 18) rfl (show (vals1 1) = .int .i64 x0.2.2.1 from hV 1 (by decide))
    obtain ⟨I2, hI2, H⟩ := Gx.ex hG
    exact L_store tHb1 H 3 rfl hS rfl rfl rfl rfl rfl rfl rfl rfl (one_cons rfl one_nil) (Nat.le_of_ble_eq_true rfl) rfl fun yw hK H => ⟨trivial, Gx.go hG hI2 hK (fun _ h => h) H⟩
   exact .nil
  ·intro vals1 a w8 Z hG hV
   replace Z := Z.sub (ts := [6, 7]) (S' := [(6, .pointer (some ⟨b2, 0, none⟩)), (7, .pointer (some ⟨b3, 0, none⟩))]) rfl
   obtain ⟨I3, _, H⟩ := Gx.ex hG
   clear hG hV
   replace Z := Z.sub (ts := [6, 7]) rfl
   replace H : Hf I D w I3 w8 [BxC b3 25 [.int .i64 x0.2.2.1], BxC b2 28 [q1], OEhub_Hub b_h x0.2.1, BxC b1 9 [.string s0], SlC NS q1 x0.2.2.2, SlC NS (.slice none 0 0) ([] : List ByteArray)] := H
   refine p_then (wp_ret ?_)
   obtain rfl := some_in hF
   exact f_ret Z (run_resultsCC rfl Z rfl (run_loadVar_one tHb1 rfl ((H.bx 1 rfl).cell 0 rfl)) rfl (run_loadVar_one tHb1 rfl ((H.bx 0 rfl).cell 0 rfl))) ⟨q1, rfl, I3, (H.sub [(2, false), (3, true)] rfl).eq rfl⟩

end Go.Proofs.Ytghkhndlpfmpfaa
