/- Wire: the laws. -/
import Derived.Test.YtlgejpompnbfoaaYWire
namespace Go.Proofs.Ytlgejpompnbfoaa
open Go.RowKit
structure Elaw02_Part where
 k : Int
 n : Int
 b : Int
 s : ByteArray
 f : Bool

instance : Inhabited Elaw02_Part := ⟨⟨0, 0, 0, ByteArray.empty, false⟩⟩

def tW4L : TabL := ⟨[(30720, 0), (30721, 1), (30722, 2), (30723, 3), (30724, 4), (51202, 2)], [9], [4], [(22, (30, 5))], [(3, (1, false)), (4, (1, false)), (9, (1, false)), (27, (2, true)), (28, (1, false)), (50, (3, true))]⟩

def tW4 : Tab Try.prog := ⟨tW4L, by kernel_rfl⟩

theorem fn_7_YW4 : IsFn Try.prog 7 := ⟨_, Try.func7, by kernel_rfl, by kernel_rfl⟩

theorem fn_8_YW4 : IsFn Try.prog 8 := ⟨_, Try.func8, by kernel_rfl, by kernel_rfl⟩

theorem fn_12_YW4 : IsFn Try.prog 12 := ⟨_, Try.func12, by kernel_rfl, by kernel_rfl⟩

theorem fn_14_YW4 : IsFn Try.prog 14 := ⟨_, Try.func14, by kernel_rfl, by kernel_rfl⟩

theorem fn_16_YW4 : IsFn Try.prog 16 := ⟨_, Try.func16, by kernel_rfl, by kernel_rfl⟩

theorem fn_19_YW4 : IsFn Try.prog 19 := ⟨_, Try.func19, by kernel_rfl, by kernel_rfl⟩

theorem fn_20_YW4 : IsFn Try.prog 20 := ⟨_, Try.func20, by kernel_rfl, by kernel_rfl⟩

theorem fn_24_YW4 : IsFn Try.prog 24 := ⟨_, Try.func24, by kernel_rfl, by kernel_rfl⟩

theorem fn_26_YW4 : IsFn Try.prog 26 := ⟨_, Try.func26, by kernel_rfl, by kernel_rfl⟩

theorem fn_31_YW4 : IsFn Try.prog 31 := ⟨_, Try.func31, by kernel_rfl, by kernel_rfl⟩

def F_law02_awake : Option Bool := (F_wire_New).bind fun n0 => ((F_wire_Writer_Text n0 ⟨#[97, 98]⟩).bind fun t => ((F_wire_Writer_Flag t true).bind fun f => ((F_wire_Writer_Num f 300).bind fun n0_2 => ((F_wire_Writer_Done n0_2).bind fun d => ((F_wire_Open d.1).bind fun o => ((gif ((seqB d.1 ⟨#[2, 97, 98, 1, 249, 1, 44]⟩) && (d.2 == 0)) (F_wire_Reader_Text o 2) default).bind fun t_2 => ((gif (((seqB d.1 ⟨#[2, 97, 98, 1, 249, 1, 44]⟩) && (d.2 == 0)) && (seqB t_2.1 ⟨#[97, 98]⟩)) (F_wire_Reader_Flag (cond ((seqB d.1 ⟨#[2, 97, 98, 1, 249, 1, 44]⟩) && (d.2 == 0)) t_2.2 o)) default).bind fun f_2 => ((gif ((((seqB d.1 ⟨#[2, 97, 98, 1, 249, 1, 44]⟩) && (d.2 == 0)) && (seqB t_2.1 ⟨#[97, 98]⟩)) && f_2.1) (F_wire_Reader_Num (cond (((seqB d.1 ⟨#[2, 97, 98, 1, 249, 1, 44]⟩) && (d.2 == 0)) && (seqB t_2.1 ⟨#[97, 98]⟩)) f_2.2 (cond ((seqB d.1 ⟨#[2, 97, 98, 1, 249, 1, 44]⟩) && (d.2 == 0)) t_2.2 o)) 300) default).bind fun n0_3 => ((gif (((((seqB d.1 ⟨#[2, 97, 98, 1, 249, 1, 44]⟩) && (d.2 == 0)) && (seqB t_2.1 ⟨#[97, 98]⟩)) && f_2.1) && (n0_3.1 == 300)) (F_wire_Reader_End (cond ((((seqB d.1 ⟨#[2, 97, 98, 1, 249, 1, 44]⟩) && (d.2 == 0)) && (seqB t_2.1 ⟨#[97, 98]⟩)) && f_2.1) n0_3.2 (cond (((seqB d.1 ⟨#[2, 97, 98, 1, 249, 1, 44]⟩) && (d.2 == 0)) && (seqB t_2.1 ⟨#[97, 98]⟩)) f_2.2 (cond ((seqB d.1 ⟨#[2, 97, 98, 1, 249, 1, 44]⟩) && (d.2 == 0)) t_2.2 o)))) default).bind fun e => (some ((((((seqB d.1 ⟨#[2, 97, 98, 1, 249, 1, 44]⟩) && (d.2 == 0)) && (seqB t_2.1 ⟨#[97, 98]⟩)) && f_2.1) && (n0_3.1 == 300)) && (e == 0))))))))))))

set_option maxHeartbeats 1000000 in
theorem c_law02_awake {I D : Dm} {w : World} {rr : Bool} (hF : F_law02_awake = some rr) (H : St I D w []) :
  Calls Try.prog 18 #[] w (Ret fun vv w' => vv = .bool rr ∧ ∃ I', Hf I D w I' w' []) := by
 replace H := H.hf
 unfold F_law02_awake at hF
 refine f_enter 39 Try.func18 rfl rfl (Nat.le_of_ble_eq_true rfl) fun a Z => ?_
 replace Z := Z.sub (ts := []) rfl
 refine wp_seq (f_region Z ?_); clear Z; intro Z
 refine s_runk tW4 Z 1 rfl rfl ?_; clear Z a; intro a Z
 refine s_end Z [0] rfl ?_; clear Z; intro Z
 refine p_then (wp_seq ?_)
 obtain ⟨n0, hx1, hF⟩ := bnd_in hF
 obtain ⟨t, hx2, hF⟩ := bnd_in hF
 obtain ⟨f, hx3, hF⟩ := bnd_in hF
 obtain ⟨n0_2, hx4, hF⟩ := bnd_in hF
 obtain ⟨d, hx5, hF⟩ := bnd_in hF
 refine f_region Z ?_; clear Z; intro Z
 refine h_call Z H (js := []) rfl (caps := #[]) fn_7_YW4 rfl rfl rfl rfl rfl (by decide) rfl rfl (fun D1 hS => have hq := c_wire_New hx1 hS; hq) ?_; clear Z a; intro vv a w1 D2 hr hF2 Z
 obtain ⟨g1, rfl, I1, K⟩ := hr
 have H : Hf I D w I1 w1 [OEwire_Writer g1 n0] := hF2 K
 clear hF2 K
 refine h_call Z H (js := [(0, false)]) rfl (caps := #[]) fn_12_YW4 rfl rfl rfl rfl rfl (by decide) rfl rfl (fun D1 hS => have hq := c_wire_Writer_Text hx2 hS; hq) ?_; clear Z a; intro vv a w2 D2 hr hF2 Z
 obtain ⟨rfl, I2, K⟩ := hr
 have H : Hf I D w I2 w2 [OEwire_Writer g1 t] := hF2 K
 clear hF2 K
 refine h_call Z H (js := [(0, false)]) rfl (caps := #[]) fn_14_YW4 rfl rfl rfl rfl rfl (by decide) rfl rfl (fun D1 hS => have hq := c_wire_Writer_Flag hx3 hS; hq) ?_; clear Z a; intro vv a w3 D2 hr hF2 Z
 obtain ⟨rfl, I3, K⟩ := hr
 have H : Hf I D w I3 w3 [OEwire_Writer g1 f] := hF2 K
 clear hF2 K
 refine h_call Z H (js := [(0, false)]) rfl (caps := #[]) fn_8_YW4 rfl rfl rfl rfl rfl (by decide) rfl rfl (fun D1 hS => have hq := c_wire_Writer_Num hx4 hS; hq) ?_; clear Z a; intro vv a w4 D2 hr hF2 Z
 obtain ⟨rfl, I4, K⟩ := hr
 have H : Hf I D w I4 w4 [OEwire_Writer g1 n0_2] := hF2 K
 clear hF2 K
 refine h_call Z H (js := [(0, false)]) rfl (caps := #[]) fn_16_YW4 rfl rfl rfl rfl rfl (by decide) rfl rfl (fun D1 hS => have hq := c_wire_Writer_Done hx5 hS; hq) ?_; clear Z a; intro vv a w5 D2 hr hF2 Z
 obtain ⟨rfl, I5, K⟩ := hr
 have H : Hf I D w I5 w5 [] := hF2 K
 clear hF2 K
 refine s_runk tW4 Z 5 rfl rfl ?_; clear Z a; intro a Z
 refine s_end Z [0, 1, 2] rfl ?_; clear Z; intro Z
 refine p_then (wp_seq ?_)
 obtain ⟨o, hx6, hF⟩ := bnd_in hF
 refine f_region Z ?_; clear Z; intro Z
 refine s_runk tW4 Z 1 rfl rfl ?_; clear Z a; intro a Z
 refine h_call Z H (js := []) rfl (caps := #[]) fn_19_YW4 rfl rfl rfl rfl rfl (by decide) rfl rfl (fun D1 hS => have hq := c_wire_Open hx6 hS; hq) ?_; clear Z a; intro vv a w6 D2 hr hF2 Z
 obtain ⟨g2, rfl, I6, K⟩ := hr
 have H : Hf I D w I6 w6 [BxC g2 65 [.string o.s, .int .i64 o.at_, .int .i64 o.e, .bool o.made]] := hF2 K
 clear hF2 K
 refine s_runk tW4 Z 1 rfl rfl ?_; clear Z a; intro a Z
 refine s_end Z [0, 1, 2, 3] rfl ?_; clear Z; intro Z
 refine p_then (wp_seq ?_)
 obtain ⟨t_2, hx7, hF⟩ := bnd_in hF
 obtain ⟨f_2, hx8, hF⟩ := bnd_in hF
 obtain ⟨n0_3, hx9, hF⟩ := bnd_in hF
 obtain ⟨e, hx10, hF⟩ := bnd_in hF
 refine f_region Z ?_; clear Z; intro Z
 refine s_runk tW4 Z 3 rfl rfl ?_; clear Z a; intro a Z
 refine g_ob Z (p := (seqB d.1 ⟨#[2, 97, 98, 1, 249, 1, 44]⟩)) (v := .int .i64 d.2) (S' := [(2, .int .i64 d.2)]) rfl rfl rfl (wantB_t _) rfl (by decide) (fun hp hS => hS.sub (ts := [2]) rfl) (fun hp => Ob_c tW4 rfl) ?_; clear Z a; intro a Z
 refine g_ob Z (p := (seqB d.1 ⟨#[2, 97, 98, 1, 249, 1, 44]⟩)) (v := .bool (d.2 == 0)) (S' := [(17, .int .i64 d.2)]) rfl rfl rfl (wantB_t _) rfl (by decide) (fun hp hS => (hS.conv (t := 17) rfl (cond_t hp)).sub (ts := [17]) rfl) (fun hp => Ob_c tW4 rfl) ?_; clear Z a; intro a Z
 refine s_ob Z (v := .bool ((seqB d.1 ⟨#[2, 97, 98, 1, 249, 1, 44]⟩) && (d.2 == 0))) rfl rfl (by decide) rfl (Ob_pick rfl rfl rfl rfl (pick_and _ _)) ?_; clear Z a; intro a Z
 refine s_runk tW4 Z 1 rfl rfl ?_; clear Z a; intro a Z
 refine g_ob Z (p := ((seqB d.1 ⟨#[2, 97, 98, 1, 249, 1, 44]⟩) && (d.2 == 0))) (v := .pointer (some ⟨g2, 0, none⟩)) (S' := [(3, .pointer (some ⟨g2, 0, none⟩))]) rfl rfl rfl (wantB_t _) rfl (by decide) (fun hp hS => hS.sub (ts := [3]) rfl) (fun hp => Ob_c tW4 rfl) ?_; clear Z a; intro a Z
 refine h_gcall Z H (js := [(0, false)]) rfl (p := ((seqB d.1 ⟨#[2, 97, 98, 1, 249, 1, 44]⟩) && (d.2 == 0))) (v := .string t_2.1) (S' := [(21, .pointer (some ⟨g2, 0, none⟩))]) (caps := #[]) (fun qq => [BxC g2 65 [.string ((cond qq t_2.2 o).s), .int .i64 ((cond qq t_2.2 o).at_), .int .i64 ((cond qq t_2.2 o).e), .bool ((cond qq t_2.2 o).made)]]) fn_24_YW4 rfl rfl rfl (wantB_t _) rfl (by decide) (fun hp hS => (hS.conv (t := 21) rfl (cond_t hp)).sub (ts := [21]) rfl) rfl rfl rfl rfl (fun hp D1 hS => have hq := c_wire_Reader_Text (gif_in hx7 hp) hS; hq) (fun hp => H.sub [(0, false)] rfl) ?_; clear Z a H; intro a w7 I7 H Z
 replace H : Hf I D w I7 w7 [BxC g2 65 [.string ((cond ((seqB d.1 ⟨#[2, 97, 98, 1, 249, 1, 44]⟩) && (d.2 == 0)) t_2.2 o).s), .int .i64 ((cond ((seqB d.1 ⟨#[2, 97, 98, 1, 249, 1, 44]⟩) && (d.2 == 0)) t_2.2 o).at_), .int .i64 ((cond ((seqB d.1 ⟨#[2, 97, 98, 1, 249, 1, 44]⟩) && (d.2 == 0)) t_2.2 o).e), .bool ((cond ((seqB d.1 ⟨#[2, 97, 98, 1, 249, 1, 44]⟩) && (d.2 == 0)) t_2.2 o).made)]] := H
 refine g_ob Z (p := ((seqB d.1 ⟨#[2, 97, 98, 1, 249, 1, 44]⟩) && (d.2 == 0))) (v := .bool (seqB t_2.1 ⟨#[97, 98]⟩)) (S' := [(22, .string t_2.1)]) rfl rfl rfl (wantB_t _) rfl (by decide) (fun hp hS => (hS.conv (t := 22) rfl (cond_t hp)).sub (ts := [22]) rfl) (fun hp => Ob_c tW4 rfl) ?_; clear Z a; intro a Z
 refine s_ob Z (v := .bool (((seqB d.1 ⟨#[2, 97, 98, 1, 249, 1, 44]⟩) && (d.2 == 0)) && (seqB t_2.1 ⟨#[97, 98]⟩))) rfl rfl (by decide) rfl (Ob_pick rfl rfl rfl rfl (pick_and _ _)) ?_; clear Z a; intro a Z
 refine s_runk tW4 Z 1 rfl rfl ?_; clear Z a; intro a Z
 refine g_ob Z (p := (((seqB d.1 ⟨#[2, 97, 98, 1, 249, 1, 44]⟩) && (d.2 == 0)) && (seqB t_2.1 ⟨#[97, 98]⟩))) (v := .pointer (some ⟨g2, 0, none⟩)) (S' := [(3, .pointer (some ⟨g2, 0, none⟩))]) rfl rfl rfl (wantB_t _) rfl (by decide) (fun hp hS => hS.sub (ts := [3]) rfl) (fun hp => Ob_c tW4 rfl) ?_; clear Z a; intro a Z
 refine h_gcall Z H (js := [(0, false)]) rfl (p := (((seqB d.1 ⟨#[2, 97, 98, 1, 249, 1, 44]⟩) && (d.2 == 0)) && (seqB t_2.1 ⟨#[97, 98]⟩))) (v := .bool f_2.1) (S' := [(26, .pointer (some ⟨g2, 0, none⟩))]) (caps := #[]) (fun qq => [BxC g2 65 [.string ((cond qq f_2.2 (cond ((seqB d.1 ⟨#[2, 97, 98, 1, 249, 1, 44]⟩) && (d.2 == 0)) t_2.2 o)).s), .int .i64 ((cond qq f_2.2 (cond ((seqB d.1 ⟨#[2, 97, 98, 1, 249, 1, 44]⟩) && (d.2 == 0)) t_2.2 o)).at_), .int .i64 ((cond qq f_2.2 (cond ((seqB d.1 ⟨#[2, 97, 98, 1, 249, 1, 44]⟩) && (d.2 == 0)) t_2.2 o)).e), .bool ((cond qq f_2.2 (cond ((seqB d.1 ⟨#[2, 97, 98, 1, 249, 1, 44]⟩) && (d.2 == 0)) t_2.2 o)).made)]]) fn_26_YW4 rfl rfl rfl (wantB_t _) rfl (by decide) (fun hp hS => (hS.conv (t := 26) rfl (cond_t hp)).sub (ts := [26]) rfl) rfl rfl rfl rfl (fun hp D1 hS => have hq := c_wire_Reader_Flag (gif_in hx8 hp) hS; hq) (fun hp => H.sub [(0, false)] rfl) ?_; clear Z a H; intro a w8 I8 H Z
 replace H : Hf I D w I8 w8 [BxC g2 65 [.string ((cond (((seqB d.1 ⟨#[2, 97, 98, 1, 249, 1, 44]⟩) && (d.2 == 0)) && (seqB t_2.1 ⟨#[97, 98]⟩)) f_2.2 (cond ((seqB d.1 ⟨#[2, 97, 98, 1, 249, 1, 44]⟩) && (d.2 == 0)) t_2.2 o)).s), .int .i64 ((cond (((seqB d.1 ⟨#[2, 97, 98, 1, 249, 1, 44]⟩) && (d.2 == 0)) && (seqB t_2.1 ⟨#[97, 98]⟩)) f_2.2 (cond ((seqB d.1 ⟨#[2, 97, 98, 1, 249, 1, 44]⟩) && (d.2 == 0)) t_2.2 o)).at_), .int .i64 ((cond (((seqB d.1 ⟨#[2, 97, 98, 1, 249, 1, 44]⟩) && (d.2 == 0)) && (seqB t_2.1 ⟨#[97, 98]⟩)) f_2.2 (cond ((seqB d.1 ⟨#[2, 97, 98, 1, 249, 1, 44]⟩) && (d.2 == 0)) t_2.2 o)).e), .bool ((cond (((seqB d.1 ⟨#[2, 97, 98, 1, 249, 1, 44]⟩) && (d.2 == 0)) && (seqB t_2.1 ⟨#[97, 98]⟩)) f_2.2 (cond ((seqB d.1 ⟨#[2, 97, 98, 1, 249, 1, 44]⟩) && (d.2 == 0)) t_2.2 o)).made)]] := H
 refine s_ob Z (v := .bool ((((seqB d.1 ⟨#[2, 97, 98, 1, 249, 1, 44]⟩) && (d.2 == 0)) && (seqB t_2.1 ⟨#[97, 98]⟩)) && f_2.1)) rfl rfl (by decide) rfl (Ob_pick rfl rfl rfl rfl (pick_and _ _)) ?_; clear Z a; intro a Z
 refine s_runk tW4 Z 1 rfl rfl ?_; clear Z a; intro a Z
 refine g_ob Z (p := ((((seqB d.1 ⟨#[2, 97, 98, 1, 249, 1, 44]⟩) && (d.2 == 0)) && (seqB t_2.1 ⟨#[97, 98]⟩)) && f_2.1)) (v := .pointer (some ⟨g2, 0, none⟩)) (S' := [(3, .pointer (some ⟨g2, 0, none⟩))]) rfl rfl rfl (wantB_t _) rfl (by decide) (fun hp hS => hS.sub (ts := [3]) rfl) (fun hp => Ob_c tW4 rfl) ?_; clear Z a; intro a Z
 refine h_gcall Z H (js := [(0, false)]) rfl (p := ((((seqB d.1 ⟨#[2, 97, 98, 1, 249, 1, 44]⟩) && (d.2 == 0)) && (seqB t_2.1 ⟨#[97, 98]⟩)) && f_2.1)) (v := .int .i64 n0_3.1) (S' := [(30, .pointer (some ⟨g2, 0, none⟩))]) (caps := #[]) (fun qq => [BxC g2 65 [.string ((cond qq n0_3.2 (cond (((seqB d.1 ⟨#[2, 97, 98, 1, 249, 1, 44]⟩) && (d.2 == 0)) && (seqB t_2.1 ⟨#[97, 98]⟩)) f_2.2 (cond ((seqB d.1 ⟨#[2, 97, 98, 1, 249, 1, 44]⟩) && (d.2 == 0)) t_2.2 o))).s), .int .i64 ((cond qq n0_3.2 (cond (((seqB d.1 ⟨#[2, 97, 98, 1, 249, 1, 44]⟩) && (d.2 == 0)) && (seqB t_2.1 ⟨#[97, 98]⟩)) f_2.2 (cond ((seqB d.1 ⟨#[2, 97, 98, 1, 249, 1, 44]⟩) && (d.2 == 0)) t_2.2 o))).at_), .int .i64 ((cond qq n0_3.2 (cond (((seqB d.1 ⟨#[2, 97, 98, 1, 249, 1, 44]⟩) && (d.2 == 0)) && (seqB t_2.1 ⟨#[97, 98]⟩)) f_2.2 (cond ((seqB d.1 ⟨#[2, 97, 98, 1, 249, 1, 44]⟩) && (d.2 == 0)) t_2.2 o))).e), .bool ((cond qq n0_3.2 (cond (((seqB d.1 ⟨#[2, 97, 98, 1, 249, 1, 44]⟩) && (d.2 == 0)) && (seqB t_2.1 ⟨#[97, 98]⟩)) f_2.2 (cond ((seqB d.1 ⟨#[2, 97, 98, 1, 249, 1, 44]⟩) && (d.2 == 0)) t_2.2 o))).made)]]) fn_20_YW4 rfl rfl rfl (wantB_t _) rfl (by decide) (fun hp hS => (hS.conv (t := 30) rfl (cond_t hp)).sub (ts := [30]) rfl) rfl rfl rfl rfl (fun hp D1 hS => have hq := c_wire_Reader_Num (gif_in hx9 hp) hS; hq) (fun hp => H.sub [(0, false)] rfl) ?_; clear Z a H; intro a w9 I9 H Z
 replace H : Hf I D w I9 w9 [BxC g2 65 [.string ((cond ((((seqB d.1 ⟨#[2, 97, 98, 1, 249, 1, 44]⟩) && (d.2 == 0)) && (seqB t_2.1 ⟨#[97, 98]⟩)) && f_2.1) n0_3.2 (cond (((seqB d.1 ⟨#[2, 97, 98, 1, 249, 1, 44]⟩) && (d.2 == 0)) && (seqB t_2.1 ⟨#[97, 98]⟩)) f_2.2 (cond ((seqB d.1 ⟨#[2, 97, 98, 1, 249, 1, 44]⟩) && (d.2 == 0)) t_2.2 o))).s), .int .i64 ((cond ((((seqB d.1 ⟨#[2, 97, 98, 1, 249, 1, 44]⟩) && (d.2 == 0)) && (seqB t_2.1 ⟨#[97, 98]⟩)) && f_2.1) n0_3.2 (cond (((seqB d.1 ⟨#[2, 97, 98, 1, 249, 1, 44]⟩) && (d.2 == 0)) && (seqB t_2.1 ⟨#[97, 98]⟩)) f_2.2 (cond ((seqB d.1 ⟨#[2, 97, 98, 1, 249, 1, 44]⟩) && (d.2 == 0)) t_2.2 o))).at_), .int .i64 ((cond ((((seqB d.1 ⟨#[2, 97, 98, 1, 249, 1, 44]⟩) && (d.2 == 0)) && (seqB t_2.1 ⟨#[97, 98]⟩)) && f_2.1) n0_3.2 (cond (((seqB d.1 ⟨#[2, 97, 98, 1, 249, 1, 44]⟩) && (d.2 == 0)) && (seqB t_2.1 ⟨#[97, 98]⟩)) f_2.2 (cond ((seqB d.1 ⟨#[2, 97, 98, 1, 249, 1, 44]⟩) && (d.2 == 0)) t_2.2 o))).e), .bool ((cond ((((seqB d.1 ⟨#[2, 97, 98, 1, 249, 1, 44]⟩) && (d.2 == 0)) && (seqB t_2.1 ⟨#[97, 98]⟩)) && f_2.1) n0_3.2 (cond (((seqB d.1 ⟨#[2, 97, 98, 1, 249, 1, 44]⟩) && (d.2 == 0)) && (seqB t_2.1 ⟨#[97, 98]⟩)) f_2.2 (cond ((seqB d.1 ⟨#[2, 97, 98, 1, 249, 1, 44]⟩) && (d.2 == 0)) t_2.2 o))).made)]] := H
 refine g_ob Z (p := ((((seqB d.1 ⟨#[2, 97, 98, 1, 249, 1, 44]⟩) && (d.2 == 0)) && (seqB t_2.1 ⟨#[97, 98]⟩)) && f_2.1)) (v := .bool (n0_3.1 == 300)) (S' := [(31, .int .i64 n0_3.1)]) rfl rfl rfl (wantB_t _) rfl (by decide) (fun hp hS => (hS.conv (t := 31) rfl (cond_t hp)).sub (ts := [31]) rfl) (fun hp => Ob_c tW4 rfl) ?_; clear Z a; intro a Z
 refine s_ob Z (v := .bool (((((seqB d.1 ⟨#[2, 97, 98, 1, 249, 1, 44]⟩) && (d.2 == 0)) && (seqB t_2.1 ⟨#[97, 98]⟩)) && f_2.1) && (n0_3.1 == 300))) rfl rfl (by decide) rfl (Ob_pick rfl rfl rfl rfl (pick_and _ _)) ?_; clear Z a; intro a Z
 refine s_runk tW4 Z 1 rfl rfl ?_; clear Z a; intro a Z
 refine g_ob Z (p := (((((seqB d.1 ⟨#[2, 97, 98, 1, 249, 1, 44]⟩) && (d.2 == 0)) && (seqB t_2.1 ⟨#[97, 98]⟩)) && f_2.1) && (n0_3.1 == 300))) (v := .pointer (some ⟨g2, 0, none⟩)) (S' := [(3, .pointer (some ⟨g2, 0, none⟩))]) rfl rfl rfl (wantB_t _) rfl (by decide) (fun hp hS => hS.sub (ts := [3]) rfl) (fun hp => Ob_c tW4 rfl) ?_; clear Z a; intro a Z
 refine h_gcall Z H (js := [(0, false)]) rfl (p := (((((seqB d.1 ⟨#[2, 97, 98, 1, 249, 1, 44]⟩) && (d.2 == 0)) && (seqB t_2.1 ⟨#[97, 98]⟩)) && f_2.1) && (n0_3.1 == 300))) (v := .int .i64 e) (S' := [(35, .pointer (some ⟨g2, 0, none⟩))]) (caps := #[]) (fun _ => [BxC g2 65 [.string ((cond ((((seqB d.1 ⟨#[2, 97, 98, 1, 249, 1, 44]⟩) && (d.2 == 0)) && (seqB t_2.1 ⟨#[97, 98]⟩)) && f_2.1) n0_3.2 (cond (((seqB d.1 ⟨#[2, 97, 98, 1, 249, 1, 44]⟩) && (d.2 == 0)) && (seqB t_2.1 ⟨#[97, 98]⟩)) f_2.2 (cond ((seqB d.1 ⟨#[2, 97, 98, 1, 249, 1, 44]⟩) && (d.2 == 0)) t_2.2 o))).s), .int .i64 ((cond ((((seqB d.1 ⟨#[2, 97, 98, 1, 249, 1, 44]⟩) && (d.2 == 0)) && (seqB t_2.1 ⟨#[97, 98]⟩)) && f_2.1) n0_3.2 (cond (((seqB d.1 ⟨#[2, 97, 98, 1, 249, 1, 44]⟩) && (d.2 == 0)) && (seqB t_2.1 ⟨#[97, 98]⟩)) f_2.2 (cond ((seqB d.1 ⟨#[2, 97, 98, 1, 249, 1, 44]⟩) && (d.2 == 0)) t_2.2 o))).at_), .int .i64 ((cond ((((seqB d.1 ⟨#[2, 97, 98, 1, 249, 1, 44]⟩) && (d.2 == 0)) && (seqB t_2.1 ⟨#[97, 98]⟩)) && f_2.1) n0_3.2 (cond (((seqB d.1 ⟨#[2, 97, 98, 1, 249, 1, 44]⟩) && (d.2 == 0)) && (seqB t_2.1 ⟨#[97, 98]⟩)) f_2.2 (cond ((seqB d.1 ⟨#[2, 97, 98, 1, 249, 1, 44]⟩) && (d.2 == 0)) t_2.2 o))).e), .bool ((cond ((((seqB d.1 ⟨#[2, 97, 98, 1, 249, 1, 44]⟩) && (d.2 == 0)) && (seqB t_2.1 ⟨#[97, 98]⟩)) && f_2.1) n0_3.2 (cond (((seqB d.1 ⟨#[2, 97, 98, 1, 249, 1, 44]⟩) && (d.2 == 0)) && (seqB t_2.1 ⟨#[97, 98]⟩)) f_2.2 (cond ((seqB d.1 ⟨#[2, 97, 98, 1, 249, 1, 44]⟩) && (d.2 == 0)) t_2.2 o))).made)]]) fn_31_YW4 rfl rfl rfl (wantB_t _) rfl (by decide) (fun hp hS => (hS.conv (t := 35) rfl (cond_t hp)).sub (ts := [35]) rfl) rfl rfl rfl rfl (fun hp D1 hS => have hq := c_wire_Reader_End (gif_in hx10 hp) hS; hq) (fun hp => H.sub [(0, false)] rfl) ?_; clear Z a H; intro a w10 I10 H Z
 replace H : Hf I D w I10 w10 [BxC g2 65 [.string ((cond ((((seqB d.1 ⟨#[2, 97, 98, 1, 249, 1, 44]⟩) && (d.2 == 0)) && (seqB t_2.1 ⟨#[97, 98]⟩)) && f_2.1) n0_3.2 (cond (((seqB d.1 ⟨#[2, 97, 98, 1, 249, 1, 44]⟩) && (d.2 == 0)) && (seqB t_2.1 ⟨#[97, 98]⟩)) f_2.2 (cond ((seqB d.1 ⟨#[2, 97, 98, 1, 249, 1, 44]⟩) && (d.2 == 0)) t_2.2 o))).s), .int .i64 ((cond ((((seqB d.1 ⟨#[2, 97, 98, 1, 249, 1, 44]⟩) && (d.2 == 0)) && (seqB t_2.1 ⟨#[97, 98]⟩)) && f_2.1) n0_3.2 (cond (((seqB d.1 ⟨#[2, 97, 98, 1, 249, 1, 44]⟩) && (d.2 == 0)) && (seqB t_2.1 ⟨#[97, 98]⟩)) f_2.2 (cond ((seqB d.1 ⟨#[2, 97, 98, 1, 249, 1, 44]⟩) && (d.2 == 0)) t_2.2 o))).at_), .int .i64 ((cond ((((seqB d.1 ⟨#[2, 97, 98, 1, 249, 1, 44]⟩) && (d.2 == 0)) && (seqB t_2.1 ⟨#[97, 98]⟩)) && f_2.1) n0_3.2 (cond (((seqB d.1 ⟨#[2, 97, 98, 1, 249, 1, 44]⟩) && (d.2 == 0)) && (seqB t_2.1 ⟨#[97, 98]⟩)) f_2.2 (cond ((seqB d.1 ⟨#[2, 97, 98, 1, 249, 1, 44]⟩) && (d.2 == 0)) t_2.2 o))).e), .bool ((cond ((((seqB d.1 ⟨#[2, 97, 98, 1, 249, 1, 44]⟩) && (d.2 == 0)) && (seqB t_2.1 ⟨#[97, 98]⟩)) && f_2.1) n0_3.2 (cond (((seqB d.1 ⟨#[2, 97, 98, 1, 249, 1, 44]⟩) && (d.2 == 0)) && (seqB t_2.1 ⟨#[97, 98]⟩)) f_2.2 (cond ((seqB d.1 ⟨#[2, 97, 98, 1, 249, 1, 44]⟩) && (d.2 == 0)) t_2.2 o))).made)]] := H
 refine g_ob Z (p := (((((seqB d.1 ⟨#[2, 97, 98, 1, 249, 1, 44]⟩) && (d.2 == 0)) && (seqB t_2.1 ⟨#[97, 98]⟩)) && f_2.1) && (n0_3.1 == 300))) (v := .bool (e == 0)) (S' := [(36, .int .i64 e)]) rfl rfl rfl (wantB_t _) rfl (by decide) (fun hp hS => (hS.conv (t := 36) rfl (cond_t hp)).sub (ts := [36]) rfl) (fun hp => Ob_c tW4 rfl) ?_; clear Z a; intro a Z
 refine s_ob Z (v := .bool ((((((seqB d.1 ⟨#[2, 97, 98, 1, 249, 1, 44]⟩) && (d.2 == 0)) && (seqB t_2.1 ⟨#[97, 98]⟩)) && f_2.1) && (n0_3.1 == 300)) && (e == 0))) rfl rfl (by decide) rfl (Ob_pick rfl rfl rfl rfl (pick_and _ _)) ?_; clear Z a; intro a Z
 refine s_runk tW4 Z 1 rfl rfl ?_; clear Z a; intro a Z
 refine s_end Z [0] rfl ?_; clear Z; intro Z
 refine p_then (wp_ret ?_)
 obtain rfl := some_in hF
 exact f_ret Z (run_results1 rfl Z rfl) ⟨rfl, I10, (H.sub [] rfl).eq rfl⟩

end Go.Proofs.Ytlgejpompnbfoaa
