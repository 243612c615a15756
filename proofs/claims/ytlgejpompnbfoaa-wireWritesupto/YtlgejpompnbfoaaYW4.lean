/- Wire: the laws. -/
import Derived.Test.YtlgejpompnbfoaaYWire
namespace Go.Proofs.Ytlgejpompnbfoaa
open Go.RowKit
structure Elaw02_Part where
 k : Int
 n : Int
 b : Int
 s : ByteArray
 f : Bool

instance : Inhabited Elaw02_Part := ⟨⟨0, 0, 0, ByteArray.empty, false⟩⟩

def cElaw02_Part (x : Elaw02_Part) : List Value := [.int .i64 x.k, .int .i64 x.n, .int .u64 x.b, .string x.s, .bool x.f]

def NElaw02_Part : Rp Elaw02_Part := Rp.flat 5 (fun _ => True) (fun x => cElaw02_Part x) (fun _ => rfl) (fun x c hc => by simp only [cElaw02_Part, List.mem_cons, List.not_mem_nil, or_false] at hc; rcases hc with rfl | rfl | rfl | rfl | rfl <;> rfl)

def tW4L : TabL := ⟨[(30720, 0), (30721, 1), (30722, 2), (30723, 3), (30724, 4), (51202, 2)], [9], [4], [(22, (30, 5))], [(3, (1, false)), (4, (1, false)), (9, (1, false)), (27, (2, true)), (28, (1, false)), (50, (3, true))]⟩

def tW4 : Tab Try.prog := ⟨tW4L, by kernel_rfl⟩

theorem fn_7_YW4 : IsFn Try.prog 7 := ⟨_, Try.func7, by kernel_rfl, by kernel_rfl⟩

theorem fn_8_YW4 : IsFn Try.prog 8 := ⟨_, Try.func8, by kernel_rfl, by kernel_rfl⟩

theorem fn_9_YW4 : IsFn Try.prog 9 := ⟨_, Try.func9, by kernel_rfl, by kernel_rfl⟩

theorem fn_10_YW4 : IsFn Try.prog 10 := ⟨_, Try.func10, by kernel_rfl, by kernel_rfl⟩

theorem fn_11_YW4 : IsFn Try.prog 11 := ⟨_, Try.func11, by kernel_rfl, by kernel_rfl⟩

theorem fn_12_YW4 : IsFn Try.prog 12 := ⟨_, Try.func12, by kernel_rfl, by kernel_rfl⟩

theorem fn_13_YW4 : IsFn Try.prog 13 := ⟨_, Try.func13, by kernel_rfl, by kernel_rfl⟩

theorem fn_14_YW4 : IsFn Try.prog 14 := ⟨_, Try.func14, by kernel_rfl, by kernel_rfl⟩

theorem fn_15_YW4 : IsFn Try.prog 15 := ⟨_, Try.func15, by kernel_rfl, by kernel_rfl⟩

theorem fn_16_YW4 : IsFn Try.prog 16 := ⟨_, Try.func16, by kernel_rfl, by kernel_rfl⟩

theorem fn_17_YW4 : IsFn Try.prog 17 := ⟨_, Try.func17, by kernel_rfl, by kernel_rfl⟩

theorem fn_18_YW4 : IsFn Try.prog 18 := ⟨_, Try.func18, by kernel_rfl, by kernel_rfl⟩

theorem fn_19_YW4 : IsFn Try.prog 19 := ⟨_, Try.func19, by kernel_rfl, by kernel_rfl⟩

theorem fn_20_YW4 : IsFn Try.prog 20 := ⟨_, Try.func20, by kernel_rfl, by kernel_rfl⟩

theorem fn_24_YW4 : IsFn Try.prog 24 := ⟨_, Try.func24, by kernel_rfl, by kernel_rfl⟩

theorem fn_26_YW4 : IsFn Try.prog 26 := ⟨_, Try.func26, by kernel_rfl, by kernel_rfl⟩

theorem fn_31_YW4 : IsFn Try.prog 31 := ⟨_, Try.func31, by kernel_rfl, by kernel_rfl⟩

def F_law02_awake : Option Bool := (F_wire_New).bind fun n0 => ((F_wire_Writer_Text n0 ⟨#[97, 98]⟩).bind fun t => ((F_wire_Writer_Flag t true).bind fun f => ((F_wire_Writer_Num f 300).bind fun n0_2 => ((F_wire_Writer_Done n0_2).bind fun d => ((F_wire_Open d.1).bind fun o => ((gif ((seqB d.1 ⟨#[2, 97, 98, 1, 249, 1, 44]⟩) && (d.2 == 0)) (F_wire_Reader_Text o 2) default).bind fun t_2 => ((gif (((seqB d.1 ⟨#[2, 97, 98, 1, 249, 1, 44]⟩) && (d.2 == 0)) && (seqB t_2.1 ⟨#[97, 98]⟩)) (F_wire_Reader_Flag (cond ((seqB d.1 ⟨#[2, 97, 98, 1, 249, 1, 44]⟩) && (d.2 == 0)) t_2.2 o)) default).bind fun f_2 => ((gif ((((seqB d.1 ⟨#[2, 97, 98, 1, 249, 1, 44]⟩) && (d.2 == 0)) && (seqB t_2.1 ⟨#[97, 98]⟩)) && f_2.1) (F_wire_Reader_Num (cond (((seqB d.1 ⟨#[2, 97, 98, 1, 249, 1, 44]⟩) && (d.2 == 0)) && (seqB t_2.1 ⟨#[97, 98]⟩)) f_2.2 (cond ((seqB d.1 ⟨#[2, 97, 98, 1, 249, 1, 44]⟩) && (d.2 == 0)) t_2.2 o)) 300) default).bind fun n0_3 => ((gif (((((seqB d.1 ⟨#[2, 97, 98, 1, 249, 1, 44]⟩) && (d.2 == 0)) && (seqB t_2.1 ⟨#[97, 98]⟩)) && f_2.1) && (n0_3.1 == 300)) (F_wire_Reader_End (cond ((((seqB d.1 ⟨#[2, 97, 98, 1, 249, 1, 44]⟩) && (d.2 == 0)) && (seqB t_2.1 ⟨#[97, 98]⟩)) && f_2.1) n0_3.2 (cond (((seqB d.1 ⟨#[2, 97, 98, 1, 249, 1, 44]⟩) && (d.2 == 0)) && (seqB t_2.1 ⟨#[97, 98]⟩)) f_2.2 (cond ((seqB d.1 ⟨#[2, 97, 98, 1, 249, 1, 44]⟩) && (d.2 == 0)) t_2.2 o)))) default).bind fun e => (some ((((((seqB d.1 ⟨#[2, 97, 98, 1, 249, 1, 44]⟩) && (d.2 == 0)) && (seqB t_2.1 ⟨#[97, 98]⟩)) && f_2.1) && (n0_3.1 == 300)) && (e == 0))))))))))))

set_option maxHeartbeats 1000000 in
theorem c_law02_awake {I D : Dm} {w : World} {rr : Bool} (hF : F_law02_awake = some rr) (H : St I D w []) :
  Calls Try.prog 18 #[] w (Ret fun vv w' => vv = .bool rr ∧ ∃ I', Hf I D w I' w' []) := by
 replace H := H.hf
 unfold F_law02_awake at hF
 refine f_enter 39 Try.func18 rfl rfl (Nat.le_of_ble_eq_true rfl) fun a Z => ?_
 replace Z := Z.sub (ts := []) rfl
 refine wp_seq (f_region Z ?_); clear Z; intro Z
 refine s_runk tW4 Z 1 rfl rfl ?_; clear Z a; intro a Z
 refine s_end Z [0] rfl ?_; clear Z; intro Z
 refine p_then (wp_seq ?_)
 obtain ⟨n0, hx1, hF⟩ := bnd_in hF
 obtain ⟨t, hx2, hF⟩ := bnd_in hF
 obtain ⟨f, hx3, hF⟩ := bnd_in hF
 obtain ⟨n0_2, hx4, hF⟩ := bnd_in hF
 obtain ⟨d, hx5, hF⟩ := bnd_in hF
 refine f_region Z ?_; clear Z; intro Z
 refine h_call Z H (js := []) rfl (caps := #[]) fn_7_YW4 rfl rfl rfl rfl rfl (by decide) rfl rfl (fun D1 hS => have hq := c_wire_New hx1 hS; hq) ?_; clear Z a; intro vv a w1 D2 hr hF2 Z
 obtain ⟨g1, rfl, I1, K⟩ := hr
 have H : Hf I D w I1 w1 [OEwire_Writer g1 n0] := hF2 K
 clear hF2 K
 refine h_call Z H (js := [(0, false)]) rfl (caps := #[]) fn_12_YW4 rfl rfl rfl rfl rfl (by decide) rfl rfl (fun D1 hS => have hq := c_wire_Writer_Text hx2 hS; hq) ?_; clear Z a; intro vv a w2 D2 hr hF2 Z
 obtain ⟨rfl, I2, K⟩ := hr
 have H : Hf I D w I2 w2 [OEwire_Writer g1 t] := hF2 K
 clear hF2 K
 refine h_call Z H (js := [(0, false)]) rfl (caps := #[]) fn_14_YW4 rfl rfl rfl rfl rfl (by decide) rfl rfl (fun D1 hS => have hq := c_wire_Writer_Flag hx3 hS; hq) ?_; clear Z a; intro vv a w3 D2 hr hF2 Z
 obtain ⟨rfl, I3, K⟩ := hr
 have H : Hf I D w I3 w3 [OEwire_Writer g1 f] := hF2 K
 clear hF2 K
 refine h_call Z H (js := [(0, false)]) rfl (caps := #[]) fn_8_YW4 rfl rfl rfl rfl rfl (by decide) rfl rfl (fun D1 hS => have hq := c_wire_Writer_Num hx4 hS; hq) ?_; clear Z a; intro vv a w4 D2 hr hF2 Z
 obtain ⟨rfl, I4, K⟩ := hr
 have H : Hf I D w I4 w4 [OEwire_Writer g1 n0_2] := hF2 K
 clear hF2 K
 refine h_call Z H (js := [(0, false)]) rfl (caps := #[]) fn_16_YW4 rfl rfl rfl rfl rfl (by decide) rfl rfl (fun D1 hS => have hq := c_wire_Writer_Done hx5 hS; hq) ?_; clear Z a; intro vv a w5 D2 hr hF2 Z
 obtain ⟨rfl, I5, K⟩ := hr
 have H : Hf I D w I5 w5 [] := hF2 K
 clear hF2 K
 refine s_runk tW4 Z 5 rfl rfl ?_; clear Z a; intro a Z
 refine s_end Z [0, 1, 2] rfl ?_; clear Z; intro Z
 refine p_then (wp_seq ?_)
 obtain ⟨o, hx6, hF⟩ := bnd_in hF
 refine f_region Z ?_; clear Z; intro Z
 refine s_runk tW4 Z 1 rfl rfl ?_; clear Z a; intro a Z
 refine h_call Z H (js := []) rfl (caps := #[]) fn_19_YW4 rfl rfl rfl rfl rfl (by decide) rfl rfl (fun D1 hS => have hq := c_wire_Open hx6 hS; hq) ?_; clear Z a; intro vv a w6 D2 hr hF2 Z
 obtain ⟨g2, rfl, I6, K⟩ := hr
 have H : Hf I D w I6 w6 [BxC g2 65 [.string o.s, .int .i64 o.at_, .int .i64 o.e, .bool o.made]] := hF2 K
 clear hF2 K
 refine s_runk tW4 Z 1 rfl rfl ?_; clear Z a; intro a Z
 refine s_end Z [0, 1, 2, 3] rfl ?_; clear Z; intro Z
 refine p_then (wp_seq ?_)
 obtain ⟨t_2, hx7, hF⟩ := bnd_in hF
 obtain ⟨f_2, hx8, hF⟩ := bnd_in hF
 obtain ⟨n0_3, hx9, hF⟩ := bnd_in hF
 obtain ⟨e, hx10, hF⟩ := bnd_in hF
 refine f_region Z ?_; clear Z; intro Z
 refine s_runk tW4 Z 3 rfl rfl ?_; clear Z a; intro a Z
 refine g_ob Z (p := (seqB d.1 ⟨#[2, 97, 98, 1, 249, 1, 44]⟩)) (v := .int .i64 d.2) (S' := [(2, .int .i64 d.2)]) rfl rfl rfl (wantB_t _) rfl (by decide) (fun hp hS => hS.sub (ts := [2]) rfl) (fun hp => Ob_c tW4 rfl) ?_; clear Z a; intro a Z
 refine g_ob Z (p := (seqB d.1 ⟨#[2, 97, 98, 1, 249, 1, 44]⟩)) (v := .bool (d.2 == 0)) (S' := [(17, .int .i64 d.2)]) rfl rfl rfl (wantB_t _) rfl (by decide) (fun hp hS => (hS.conv (t := 17) rfl (cond_t hp)).sub (ts := [17]) rfl) (fun hp => Ob_c tW4 rfl) ?_; clear Z a; intro a Z
 refine s_ob Z (v := .bool ((seqB d.1 ⟨#[2, 97, 98, 1, 249, 1, 44]⟩) && (d.2 == 0))) rfl rfl (by decide) rfl (Ob_pick rfl rfl rfl rfl (pick_and _ _)) ?_; clear Z a; intro a Z
 refine s_runk tW4 Z 1 rfl rfl ?_; clear Z a; intro a Z
 refine g_ob Z (p := ((seqB d.1 ⟨#[2, 97, 98, 1, 249, 1, 44]⟩) && (d.2 == 0))) (v := .pointer (some ⟨g2, 0, none⟩)) (S' := [(3, .pointer (some ⟨g2, 0, none⟩))]) rfl rfl rfl (wantB_t _) rfl (by decide) (fun hp hS => hS.sub (ts := [3]) rfl) (fun hp => Ob_c tW4 rfl) ?_; clear Z a; intro a Z
 refine h_gcall Z H (js := [(0, false)]) rfl (p := ((seqB d.1 ⟨#[2, 97, 98, 1, 249, 1, 44]⟩) && (d.2 == 0))) (v := .string t_2.1) (S' := [(21, .pointer (some ⟨g2, 0, none⟩))]) (caps := #[]) (fun qq => [BxC g2 65 [.string ((cond qq t_2.2 o).s), .int .i64 ((cond qq t_2.2 o).at_), .int .i64 ((cond qq t_2.2 o).e), .bool ((cond qq t_2.2 o).made)]]) fn_24_YW4 rfl rfl rfl (wantB_t _) rfl (by decide) (fun hp hS => (hS.conv (t := 21) rfl (cond_t hp)).sub (ts := [21]) rfl) rfl rfl rfl rfl (fun hp D1 hS => have hq := c_wire_Reader_Text (gif_in hx7 hp) hS; hq) (fun hp => H.sub [(0, false)] rfl) ?_; clear Z a H; intro a w7 I7 H Z
 replace H : Hf I D w I7 w7 [BxC g2 65 [.string ((cond ((seqB d.1 ⟨#[2, 97, 98, 1, 249, 1, 44]⟩) && (d.2 == 0)) t_2.2 o).s), .int .i64 ((cond ((seqB d.1 ⟨#[2, 97, 98, 1, 249, 1, 44]⟩) && (d.2 == 0)) t_2.2 o).at_), .int .i64 ((cond ((seqB d.1 ⟨#[2, 97, 98, 1, 249, 1, 44]⟩) && (d.2 == 0)) t_2.2 o).e), .bool ((cond ((seqB d.1 ⟨#[2, 97, 98, 1, 249, 1, 44]⟩) && (d.2 == 0)) t_2.2 o).made)]] := H
 refine g_ob Z (p := ((seqB d.1 ⟨#[2, 97, 98, 1, 249, 1, 44]⟩) && (d.2 == 0))) (v := .bool (seqB t_2.1 ⟨#[97, 98]⟩)) (S' := [(22, .string t_2.1)]) rfl rfl rfl (wantB_t _) rfl (by decide) (fun hp hS => (hS.conv (t := 22) rfl (cond_t hp)).sub (ts := [22]) rfl) (fun hp => Ob_c tW4 rfl) ?_; clear Z a; intro a Z
 refine s_ob Z (v := .bool (((seqB d.1 ⟨#[2, 97, 98, 1, 249, 1, 44]⟩) && (d.2 == 0)) && (seqB t_2.1 ⟨#[97, 98]⟩))) rfl rfl (by decide) rfl (Ob_pick rfl rfl rfl rfl (pick_and _ _)) ?_; clear Z a; intro a Z
 refine s_runk tW4 Z 1 rfl rfl ?_; clear Z a; intro a Z
 refine g_ob Z (p := (((seqB d.1 ⟨#[2, 97, 98, 1, 249, 1, 44]⟩) && (d.2 == 0)) && (seqB t_2.1 ⟨#[97, 98]⟩))) (v := .pointer (some ⟨g2, 0, none⟩)) (S' := [(3, .pointer (some ⟨g2, 0, none⟩))]) rfl rfl rfl (wantB_t _) rfl (by decide) (fun hp hS => hS.sub (ts := [3]) rfl) (fun hp => Ob_c tW4 rfl) ?_; clear Z a; intro a Z
 refine h_gcall Z H (js := [(0, false)]) rfl (p := (((seqB d.1 ⟨#[2, 97, 98, 1, 249, 1, 44]⟩) && (d.2 == 0)) && (seqB t_2.1 ⟨#[97, 98]⟩))) (v := .bool f_2.1) (S' := [(26, .pointer (some ⟨g2, 0, none⟩))]) (caps := #[]) (fun qq => [BxC g2 65 [.string ((cond qq f_2.2 (cond ((seqB d.1 ⟨#[2, 97, 98, 1, 249, 1, 44]⟩) && (d.2 == 0)) t_2.2 o)).s), .int .i64 ((cond qq f_2.2 (cond ((seqB d.1 ⟨#[2, 97, 98, 1, 249, 1, 44]⟩) && (d.2 == 0)) t_2.2 o)).at_), .int .i64 ((cond qq f_2.2 (cond ((seqB d.1 ⟨#[2, 97, 98, 1, 249, 1, 44]⟩) && (d.2 == 0)) t_2.2 o)).e), .bool ((cond qq f_2.2 (cond ((seqB d.1 ⟨#[2, 97, 98, 1, 249, 1, 44]⟩) && (d.2 == 0)) t_2.2 o)).made)]]) fn_26_YW4 rfl rfl rfl (wantB_t _) rfl (by decide) (fun hp hS => (hS.conv (t := 26) rfl (cond_t hp)).sub (ts := [26]) rfl) rfl rfl rfl rfl (fun hp D1 hS => have hq := c_wire_Reader_Flag (gif_in hx8 hp) hS; hq) (fun hp => H.sub [(0, false)] rfl) ?_; clear Z a H; intro a w8 I8 H Z
 replace H : Hf I D w I8 w8 [BxC g2 65 [.string ((cond (((seqB d.1 ⟨#[2, 97, 98, 1, 249, 1, 44]⟩) && (d.2 == 0)) && (seqB t_2.1 ⟨#[97, 98]⟩)) f_2.2 (cond ((seqB d.1 ⟨#[2, 97, 98, 1, 249, 1, 44]⟩) && (d.2 == 0)) t_2.2 o)).s), .int .i64 ((cond (((seqB d.1 ⟨#[2, 97, 98, 1, 249, 1, 44]⟩) && (d.2 == 0)) && (seqB t_2.1 ⟨#[97, 98]⟩)) f_2.2 (cond ((seqB d.1 ⟨#[2, 97, 98, 1, 249, 1, 44]⟩) && (d.2 == 0)) t_2.2 o)).at_), .int .i64 ((cond (((seqB d.1 ⟨#[2, 97, 98, 1, 249, 1, 44]⟩) && (d.2 == 0)) && (seqB t_2.1 ⟨#[97, 98]⟩)) f_2.2 (cond ((seqB d.1 ⟨#[2, 97, 98, 1, 249, 1, 44]⟩) && (d.2 == 0)) t_2.2 o)).e), .bool ((cond (((seqB d.1 ⟨#[2, 97, 98, 1, 249, 1, 44]⟩) && (d.2 == 0)) && (seqB t_2.1 ⟨#[97, 98]⟩)) f_2.2 (cond ((seqB d.1 ⟨#[2, 97, 98, 1, 249, 1, 44]⟩) && (d.2 == 0)) t_2.2 o)).made)]] := H
 refine s_ob Z (v := .bool ((((seqB d.1 ⟨#[2, 97, 98, 1, 249, 1, 44]⟩) && (d.2 == 0)) && (seqB t_2.1 ⟨#[97, 98]⟩)) && f_2.1)) rfl rfl (by decide) rfl (Ob_pick rfl rfl rfl rfl (pick_and _ _)) ?_; clear Z a; intro a Z
 refine s_runk tW4 Z 1 rfl rfl ?_; clear Z a; intro a Z
 refine g_ob Z (p := ((((seqB d.1 ⟨#[2, 97, 98, 1, 249, 1, 44]⟩) && (d.2 == 0)) && (seqB t_2.1 ⟨#[97, 98]⟩)) && f_2.1)) (v := .pointer (some ⟨g2, 0, none⟩)) (S' := [(3, .pointer (some ⟨g2, 0, none⟩))]) rfl rfl rfl (wantB_t _) rfl (by decide) (fun hp hS => hS.sub (ts := [3]) rfl) (fun hp => Ob_c tW4 rfl) ?_; clear Z a; intro a Z
 refine h_gcall Z H (js := [(0, false)]) rfl (p := ((((seqB d.1 ⟨#[2, 97, 98, 1, 249, 1, 44]⟩) && (d.2 == 0)) && (seqB t_2.1 ⟨#[97, 98]⟩)) && f_2.1)) (v := .int .i64 n0_3.1) (S' := [(30, .pointer (some ⟨g2, 0, none⟩))]) (caps := #[]) (fun qq => [BxC g2 65 [.string ((cond qq n0_3.2 (cond (((seqB d.1 ⟨#[2, 97, 98, 1, 249, 1, 44]⟩) && (d.2 == 0)) && (seqB t_2.1 ⟨#[97, 98]⟩)) f_2.2 (cond ((seqB d.1 ⟨#[2, 97, 98, 1, 249, 1, 44]⟩) && (d.2 == 0)) t_2.2 o))).s), .int .i64 ((cond qq n0_3.2 (cond (((seqB d.1 ⟨#[2, 97, 98, 1, 249, 1, 44]⟩) && (d.2 == 0)) && (seqB t_2.1 ⟨#[97, 98]⟩)) f_2.2 (cond ((seqB d.1 ⟨#[2, 97, 98, 1, 249, 1, 44]⟩) && (d.2 == 0)) t_2.2 o))).at_), .int .i64 ((cond qq n0_3.2 (cond (((seqB d.1 ⟨#[2, 97, 98, 1, 249, 1, 44]⟩) && (d.2 == 0)) && (seqB t_2.1 ⟨#[97, 98]⟩)) f_2.2 (cond ((seqB d.1 ⟨#[2, 97, 98, 1, 249, 1, 44]⟩) && (d.2 == 0)) t_2.2 o))).e), .bool ((cond qq n0_3.2 (cond (((seqB d.1 ⟨#[2, 97, 98, 1, 249, 1, 44]⟩) && (d.2 == 0)) && (seqB t_2.1 ⟨#[97, 98]⟩)) f_2.2 (cond ((seqB d.1 ⟨#[2, 97, 98, 1, 249, 1, 44]⟩) && (d.2 == 0)) t_2.2 o))).made)]]) fn_20_YW4 rfl rfl rfl (wantB_t _) rfl (by decide) (fun hp hS => (hS.conv (t := 30) rfl (cond_t hp)).sub (ts := [30]) rfl) rfl rfl rfl rfl (fun hp D1 hS => have hq := c_wire_Reader_Num (gif_in hx9 hp) hS; hq) (fun hp => H.sub [(0, false)] rfl) ?_; clear Z a H; intro a w9 I9 H Z
 replace H : Hf I D w I9 w9 [BxC g2 65 [.string ((cond ((((seqB d.1 ⟨#[2, 97, 98, 1, 249, 1, 44]⟩) && (d.2 == 0)) && (seqB t_2.1 ⟨#[97, 98]⟩)) && f_2.1) n0_3.2 (cond (((seqB d.1 ⟨#[2, 97, 98, 1, 249, 1, 44]⟩) && (d.2 == 0)) && (seqB t_2.1 ⟨#[97, 98]⟩)) f_2.2 (cond ((seqB d.1 ⟨#[2, 97, 98, 1, 249, 1, 44]⟩) && (d.2 == 0)) t_2.2 o))).s), .int .i64 ((cond ((((seqB d.1 ⟨#[2, 97, 98, 1, 249, 1, 44]⟩) && (d.2 == 0)) && (seqB t_2.1 ⟨#[97, 98]⟩)) && f_2.1) n0_3.2 (cond (((seqB d.1 ⟨#[2, 97, 98, 1, 249, 1, 44]⟩) && (d.2 == 0)) && (seqB t_2.1 ⟨#[97, 98]⟩)) f_2.2 (cond ((seqB d.1 ⟨#[2, 97, 98, 1, 249, 1, 44]⟩) && (d.2 == 0)) t_2.2 o))).at_), .int .i64 ((cond ((((seqB d.1 ⟨#[2, 97, 98, 1, 249, 1, 44]⟩) && (d.2 == 0)) && (seqB t_2.1 ⟨#[97, 98]⟩)) && f_2.1) n0_3.2 (cond (((seqB d.1 ⟨#[2, 97, 98, 1, 249, 1, 44]⟩) && (d.2 == 0)) && (seqB t_2.1 ⟨#[97, 98]⟩)) f_2.2 (cond ((seqB d.1 ⟨#[2, 97, 98, 1, 249, 1, 44]⟩) && (d.2 == 0)) t_2.2 o))).e), .bool ((cond ((((seqB d.1 ⟨#[2, 97, 98, 1, 249, 1, 44]⟩) && (d.2 == 0)) && (seqB t_2.1 ⟨#[97, 98]⟩)) && f_2.1) n0_3.2 (cond (((seqB d.1 ⟨#[2, 97, 98, 1, 249, 1, 44]⟩) && (d.2 == 0)) && (seqB t_2.1 ⟨#[97, 98]⟩)) f_2.2 (cond ((seqB d.1 ⟨#[2, 97, 98, 1, 249, 1, 44]⟩) && (d.2 == 0)) t_2.2 o))).made)]] := H
 refine g_ob Z (p := ((((seqB d.1 ⟨#[2, 97, 98, 1, 249, 1, 44]⟩) && (d.2 == 0)) && (seqB t_2.1 ⟨#[97, 98]⟩)) && f_2.1)) (v := .bool (n0_3.1 == 300)) (S' := [(31, .int .i64 n0_3.1)]) rfl rfl rfl (wantB_t _) rfl (by decide) (fun hp hS => (hS.conv (t := 31) rfl (cond_t hp)).sub (ts := [31]) rfl) (fun hp => Ob_c tW4 rfl) ?_; clear Z a; intro a Z
 refine s_ob Z (v := .bool (((((seqB d.1 ⟨#[2, 97, 98, 1, 249, 1, 44]⟩) && (d.2 == 0)) && (seqB t_2.1 ⟨#[97, 98]⟩)) && f_2.1) && (n0_3.1 == 300))) rfl rfl (by decide) rfl (Ob_pick rfl rfl rfl rfl (pick_and _ _)) ?_; clear Z a; intro a Z
 refine s_runk tW4 Z 1 rfl rfl ?_; clear Z a; intro a Z
 refine g_ob Z (p := (((((seqB d.1 ⟨#[2, 97, 98, 1, 249, 1, 44]⟩) && (d.2 == 0)) && (seqB t_2.1 ⟨#[97, 98]⟩)) && f_2.1) && (n0_3.1 == 300))) (v := .pointer (some ⟨g2, 0, none⟩)) (S' := [(3, .pointer (some ⟨g2, 0, none⟩))]) rfl rfl rfl (wantB_t _) rfl (by decide) (fun hp hS => hS.sub (ts := [3]) rfl) (fun hp => Ob_c tW4 rfl) ?_; clear Z a; intro a Z
 refine h_gcall Z H (js := [(0, false)]) rfl (p := (((((seqB d.1 ⟨#[2, 97, 98, 1, 249, 1, 44]⟩) && (d.2 == 0)) && (seqB t_2.1 ⟨#[97, 98]⟩)) && f_2.1) && (n0_3.1 == 300))) (v := .int .i64 e) (S' := [(35, .pointer (some ⟨g2, 0, none⟩))]) (caps := #[]) (fun _ => [BxC g2 65 [.string ((cond ((((seqB d.1 ⟨#[2, 97, 98, 1, 249, 1, 44]⟩) && (d.2 == 0)) && (seqB t_2.1 ⟨#[97, 98]⟩)) && f_2.1) n0_3.2 (cond (((seqB d.1 ⟨#[2, 97, 98, 1, 249, 1, 44]⟩) && (d.2 == 0)) && (seqB t_2.1 ⟨#[97, 98]⟩)) f_2.2 (cond ((seqB d.1 ⟨#[2, 97, 98, 1, 249, 1, 44]⟩) && (d.2 == 0)) t_2.2 o))).s), .int .i64 ((cond ((((seqB d.1 ⟨#[2, 97, 98, 1, 249, 1, 44]⟩) && (d.2 == 0)) && (seqB t_2.1 ⟨#[97, 98]⟩)) && f_2.1) n0_3.2 (cond (((seqB d.1 ⟨#[2, 97, 98, 1, 249, 1, 44]⟩) && (d.2 == 0)) && (seqB t_2.1 ⟨#[97, 98]⟩)) f_2.2 (cond ((seqB d.1 ⟨#[2, 97, 98, 1, 249, 1, 44]⟩) && (d.2 == 0)) t_2.2 o))).at_), .int .i64 ((cond ((((seqB d.1 ⟨#[2, 97, 98, 1, 249, 1, 44]⟩) && (d.2 == 0)) && (seqB t_2.1 ⟨#[97, 98]⟩)) && f_2.1) n0_3.2 (cond (((seqB d.1 ⟨#[2, 97, 98, 1, 249, 1, 44]⟩) && (d.2 == 0)) && (seqB t_2.1 ⟨#[97, 98]⟩)) f_2.2 (cond ((seqB d.1 ⟨#[2, 97, 98, 1, 249, 1, 44]⟩) && (d.2 == 0)) t_2.2 o))).e), .bool ((cond ((((seqB d.1 ⟨#[2, 97, 98, 1, 249, 1, 44]⟩) && (d.2 == 0)) && (seqB t_2.1 ⟨#[97, 98]⟩)) && f_2.1) n0_3.2 (cond (((seqB d.1 ⟨#[2, 97, 98, 1, 249, 1, 44]⟩) && (d.2 == 0)) && (seqB t_2.1 ⟨#[97, 98]⟩)) f_2.2 (cond ((seqB d.1 ⟨#[2, 97, 98, 1, 249, 1, 44]⟩) && (d.2 == 0)) t_2.2 o))).made)]]) fn_31_YW4 rfl rfl rfl (wantB_t _) rfl (by decide) (fun hp hS => (hS.conv (t := 35) rfl (cond_t hp)).sub (ts := [35]) rfl) rfl rfl rfl rfl (fun hp D1 hS => have hq := c_wire_Reader_End (gif_in hx10 hp) hS; hq) (fun hp => H.sub [(0, false)] rfl) ?_; clear Z a H; intro a w10 I10 H Z
 replace H : Hf I D w I10 w10 [BxC g2 65 [.string ((cond ((((seqB d.1 ⟨#[2, 97, 98, 1, 249, 1, 44]⟩) && (d.2 == 0)) && (seqB t_2.1 ⟨#[97, 98]⟩)) && f_2.1) n0_3.2 (cond (((seqB d.1 ⟨#[2, 97, 98, 1, 249, 1, 44]⟩) && (d.2 == 0)) && (seqB t_2.1 ⟨#[97, 98]⟩)) f_2.2 (cond ((seqB d.1 ⟨#[2, 97, 98, 1, 249, 1, 44]⟩) && (d.2 == 0)) t_2.2 o))).s), .int .i64 ((cond ((((seqB d.1 ⟨#[2, 97, 98, 1, 249, 1, 44]⟩) && (d.2 == 0)) && (seqB t_2.1 ⟨#[97, 98]⟩)) && f_2.1) n0_3.2 (cond (((seqB d.1 ⟨#[2, 97, 98, 1, 249, 1, 44]⟩) && (d.2 == 0)) && (seqB t_2.1 ⟨#[97, 98]⟩)) f_2.2 (cond ((seqB d.1 ⟨#[2, 97, 98, 1, 249, 1, 44]⟩) && (d.2 == 0)) t_2.2 o))).at_), .int .i64 ((cond ((((seqB d.1 ⟨#[2, 97, 98, 1, 249, 1, 44]⟩) && (d.2 == 0)) && (seqB t_2.1 ⟨#[97, 98]⟩)) && f_2.1) n0_3.2 (cond (((seqB d.1 ⟨#[2, 97, 98, 1, 249, 1, 44]⟩) && (d.2 == 0)) && (seqB t_2.1 ⟨#[97, 98]⟩)) f_2.2 (cond ((seqB d.1 ⟨#[2, 97, 98, 1, 249, 1, 44]⟩) && (d.2 == 0)) t_2.2 o))).e), .bool ((cond ((((seqB d.1 ⟨#[2, 97, 98, 1, 249, 1, 44]⟩) && (d.2 == 0)) && (seqB t_2.1 ⟨#[97, 98]⟩)) && f_2.1) n0_3.2 (cond (((seqB d.1 ⟨#[2, 97, 98, 1, 249, 1, 44]⟩) && (d.2 == 0)) && (seqB t_2.1 ⟨#[97, 98]⟩)) f_2.2 (cond ((seqB d.1 ⟨#[2, 97, 98, 1, 249, 1, 44]⟩) && (d.2 == 0)) t_2.2 o))).made)]] := H
 refine g_ob Z (p := (((((seqB d.1 ⟨#[2, 97, 98, 1, 249, 1, 44]⟩) && (d.2 == 0)) && (seqB t_2.1 ⟨#[97, 98]⟩)) && f_2.1) && (n0_3.1 == 300))) (v := .bool (e == 0)) (S' := [(36, .int .i64 e)]) rfl rfl rfl (wantB_t _) rfl (by decide) (fun hp hS => (hS.conv (t := 36) rfl (cond_t hp)).sub (ts := [36]) rfl) (fun hp => Ob_c tW4 rfl) ?_; clear Z a; intro a Z
 refine s_ob Z (v := .bool ((((((seqB d.1 ⟨#[2, 97, 98, 1, 249, 1, 44]⟩) && (d.2 == 0)) && (seqB t_2.1 ⟨#[97, 98]⟩)) && f_2.1) && (n0_3.1 == 300)) && (e == 0))) rfl rfl (by decide) rfl (Ob_pick rfl rfl rfl rfl (pick_and _ _)) ?_; clear Z a; intro a Z
 refine s_runk tW4 Z 1 rfl rfl ?_; clear Z a; intro a Z
 refine s_end Z [0] rfl ?_; clear Z; intro Z
 refine p_then (wp_ret ?_)
 obtain rfl := some_in hF
 exact f_ret Z (run_results1 rfl Z rfl) ⟨rfl, I10, (H.sub [] rfl).eq rfl⟩

def F_law02_WireWrites_k2 (i : Int) (rc : (Int × Ewire_Writer × ByteArray × Int) → Option Bool) (w0_2 : Ewire_Writer) (x_s_2 : ByteArray) (x_e_2 : Int) : Option Bool := chk (inI (i + 1)) (rc (i + 1, w0_2, x_s_2, x_e_2))

def F_law02_WireWrites_l1 (l : List Elaw02_Part) (rc : (Int × Ewire_Writer × ByteArray × Int) → Option Bool) (sg : Int × Ewire_Writer × ByteArray × Int) : Option Bool := match sg with | (i, w0, x_s, x_e) => if ((decide (i < (l.length : Int))) && (decide (i < 40))) = true then (chk ((0 : Int) ≤ i ∧ i < (l.length : Int)) (if (((l.getD (i).toNat default).k) == 0) = true then (chk ((0 : Int) ≤ i ∧ i < (l.length : Int)) ((F_wire_Writer_Num w0 ((l.getD (i).toNat default).n)).bind fun n0_2 => (chk ((0 : Int) ≤ i ∧ i < (l.length : Int)) ((F_ref02_Writer_Num ({ s := x_s, e := x_e } : Eref02_Writer) ((l.getD (i).toNat default).n)).bind fun n0_3 => (F_law02_WireWrites_k2 i rc n0_2 n0_3.s n0_3.e))))) else (if (((l.getD (i).toNat default).k) == 1) = true then (chk ((0 : Int) ≤ i ∧ i < (l.length : Int)) ((F_wire_Writer_Big w0 ((l.getD (i).toNat default).b)).bind fun b => (chk ((0 : Int) ≤ i ∧ i < (l.length : Int)) ((F_ref02_Writer_Big ({ s := x_s, e := x_e } : Eref02_Writer) ((l.getD (i).toNat default).b)).bind fun b_2 => (F_law02_WireWrites_k2 i rc b b_2.s b_2.e))))) else (if (((l.getD (i).toNat default).k) == 2) = true then (chk ((0 : Int) ≤ i ∧ i < (l.length : Int)) ((F_wire_Writer_Text w0 ((l.getD (i).toNat default).s)).bind fun t => (chk ((0 : Int) ≤ i ∧ i < (l.length : Int)) ((F_ref02_Writer_Text ({ s := x_s, e := x_e } : Eref02_Writer) ((l.getD (i).toNat default).s)).bind fun t_2 => (F_law02_WireWrites_k2 i rc t t_2.s t_2.e))))) else (chk ((0 : Int) ≤ i ∧ i < (l.length : Int)) ((F_wire_Writer_Flag w0 ((l.getD (i).toNat default).f)).bind fun f => (chk ((0 : Int) ≤ i ∧ i < (l.length : Int)) ((F_ref02_Writer_Flag ({ s := x_s, e := x_e } : Eref02_Writer) ((l.getD (i).toNat default).f)).bind fun f_2 => (F_law02_WireWrites_k2 i rc f f_2.s f_2.e))))))))) else ((F_wire_Writer_Done w0).bind fun d => ((F_ref02_Writer_Done ({ s := x_s, e := x_e } : Eref02_Writer)).bind fun d_2 => ((gif ((seqB d.1 d_2.1) && (d.2 == d_2.2)) (F_law02_awake) default).bind fun a0 => (some (((seqB d.1 d_2.1) && (d.2 == d_2.2)) && a0)))))

def F_law02_WireWrites (l : List Elaw02_Part) : Option Bool := (F_wire_New).bind fun n0 => (iter (F_law02_WireWrites_l1 l) FU (0, n0, ByteArray.empty, 0))

set_option maxHeartbeats 1000000 in
theorem c_law02_WireWrites {I D : Dm} {l : List Elaw02_Part} {v1_l : Value} {w : World} {rr : Bool} (hF : F_law02_WireWrites l = some rr) (H : St I D w [SlC NElaw02_Part v1_l l]) :
  Calls Try.prog 3 #[v1_l] w (Ret fun vv w' => vv = .bool rr ∧ ∃ I', Hf I D w I' w' []) := by
 replace H := H.hf
 unfold F_law02_WireWrites at hF
 refine f_enter 111 Try.func3 rfl rfl (Nat.le_of_ble_eq_true rfl) fun a Z => ?_
 replace Z := Z.sub (ts := [0]) rfl
 refine wp_seq (f_region Z ?_); clear Z; intro Z
 refine s_runk tW4 Z 1 rfl rfl ?_; clear Z a; intro a Z
 refine s_end Z [0, 2] rfl ?_; clear Z; intro Z
 refine p_then (wp_seq ?_)
 obtain ⟨n0, hx1, hF⟩ := bnd_in hF
 refine f_region Z ?_; clear Z; intro Z
 refine h_call Z H (js := []) rfl (caps := #[]) fn_7_YW4 rfl rfl rfl rfl rfl (by decide) rfl rfl (fun D1 hS => have hq := c_wire_New hx1 hS; hq) ?_; clear Z a; intro vv a w1 D2 hr hF2 Z
 obtain ⟨g1, rfl, I1, K⟩ := hr
 have H : Hf I D w I1 w1 [OEwire_Writer g1 n0, SlC NElaw02_Part v1_l l] := hF2 K
 clear hF2 K
 refine s_runk tW4 Z 1 rfl rfl ?_; clear Z a; intro a Z
 refine s_end Z [0, 2, 3] rfl ?_; clear Z; intro Z
 refine p_then (wp_seq (f_region Z ?_)); clear Z; intro Z
 refine s_ob Z (v := .agg #[.string ByteArray.empty, .int .i64 0]) rfl rfl (by decide) rfl (Ob_build (vs := []) rfl rfl (by go_simp <;> rfl)) ?_; clear Z a; intro a Z
 refine h_boxv Z H (cl := [.string ByteArray.empty, .int .i64 0]) rfl rfl rfl (by decide) rfl rfl rfl ?_; clear Z a H; intro a w2 b1 H Z
 refine s_runk tW4 Z 1 rfl rfl ?_; clear Z a; intro a Z
 refine s_end Z [0, 2, 3, 4] rfl ?_; clear Z; intro Z
 refine p_then (wp_seq ?_)
 refine wp_seq (f_region Z ?_); clear Z; intro Z
 refine s_runk tW4 Z 1 rfl rfl ?_; clear Z a; intro a Z
 refine s_end Z [0, 2, 3, 4, 5] rfl ?_; clear Z; intro Z
 refine p_then (wp_block ?_)
 refine f_iter hF (fun sg a' w' => match sg with | (i, w0, x_s, x_e) => Sl 111 [(0, v1_l), (2, .bool false), (3, .pointer (some ⟨g1, 0, none⟩)), (4, .pointer (some ⟨b1, 0, none⟩)), (5, .int .i64 i)] a' ∧ ∃ I2, Hf I D w I2 w' [OEwire_Writer g1 w0, BxC b1 27 [.string x_s, .int .i64 x_e], SlC NElaw02_Part v1_l l]) ⟨Z.sub (ts := [0, 2, 3, 4, 5]) rfl, ⟨I1, (H.sub [(1, false), (0, false), (0, true)] rfl).eq rfl⟩⟩ ?_
 clear Z H hF a
 rintro rc ⟨i, w0, x_s, x_e⟩ a w3 ⟨Z, I2, H⟩ hF
 unfold F_law02_WireWrites_l1 at hF
 try dsimp only at hF
 refine wp_seq ?_
 refine wp_seq (f_region Z ?_); clear Z; intro Z
 refine s_runk tW4 Z 2 rfl rfl ?_; clear Z a; intro a Z
 refine s_ob Z (v := .int .i64 (l.length : Int)) rfl rfl (by decide) rfl (Ob_slen tW4 rfl rfl rfl (H.slshape 2 rfl)) ?_; clear Z a; intro a Z
 refine s_runk tW4 Z 2 rfl rfl ?_; clear Z a; intro a Z
 refine g_ob Z (p := (decide (i < (l.length : Int)))) (v := .int .i64 i) (S' := [(5, .int .i64 i)]) rfl rfl rfl (wantB_t _) rfl (by decide) (fun hp hS => hS.sub (ts := [5]) rfl) (fun hp => Ob_c tW4 rfl) ?_; clear Z a; intro a Z
 refine g_ob Z (p := (decide (i < (l.length : Int)))) (v := .bool (decide (i < 40))) (S' := [(18, .int .i64 i)]) rfl rfl rfl (wantB_t _) rfl (by decide) (fun hp hS => (hS.conv (t := 18) rfl (cond_t hp)).sub (ts := [18]) rfl) (fun hp => Ob_c tW4 rfl) ?_; clear Z a; intro a Z
 refine s_ob Z (v := .bool ((decide (i < (l.length : Int))) && (decide (i < 40)))) rfl rfl (by decide) rfl (Ob_pick rfl rfl rfl rfl (pick_and _ _)) ?_; clear Z a; intro a Z
 refine s_end Z [0, 2, 3, 4, 5, 13, 14, 15, 16, 17, 20] rfl ?_; clear Z; intro Z
 refine p_then ?_
 refine f_cond Z rfl (fun hc1 => ?_) (fun hc1 => ?_)
 ·replace hF := ite_t hc1 hF
  refine wp_skip ?_
  refine p_then ?_
  refine f_cut (fun a' w' => ∃ (w0_2 : Ewire_Writer) (x_s_2 : ByteArray) (x_e_2 : Int), Sl 111 [(0, v1_l), (2, .bool false), (3, .pointer (some ⟨g1, 0, none⟩)), (4, .pointer (some ⟨b1, 0, none⟩)), (5, .int .i64 i), (13, .int .i64 i), (14, v1_l), (15, .int .i64 (l.length : Int)), (16, .bool (decide (i < (l.length : Int)))), (17, .bool (decide (i < (l.length : Int)))), (20, .bool ((decide (i < (l.length : Int))) && (decide (i < 40)))), (23, v1_l), (24, .int .i64 i), (25, .pointer (some ⟨blkOf v1_l, oofOf v1_l + (i).toNat * 5, none⟩)), (26, .pointer (some ⟨blkOf v1_l, oofOf v1_l + (i).toNat * 5, none⟩)), (27, .int .i64 ((l.getD (i).toNat default).k)), (42, .bool (((l.getD (i).toNat default).k) == 0)), (43, .bool (((l.getD (i).toNat default).k) == 0))] a' ∧ (∃ I2, Hf I D w I2 w' [OEwire_Writer g1 w0_2, BxC b1 27 [.string x_s_2, .int .i64 x_e_2], SlC NElaw02_Part v1_l l]) ∧ F_law02_WireWrites_k2 i rc w0_2 x_s_2 x_e_2 = some rr) ?_ ?_
  ·rintro a w4 ⟨w0_2, x_s_2, x_e_2, Z, ⟨I3, H⟩, hF⟩
   unfold F_law02_WireWrites_k2 at hF
   try dsimp only at hF
   obtain ⟨hg1, hF⟩ := chk_in hF
   refine f_region Z ?_; clear Z; intro Z
   refine s_runk tW4 Z 1 rfl rfl ?_; clear Z a; intro a Z
   refine s_ob Z (v := .int .i64 (i + 1)) rfl rfl (by decide) rfl (Ob_add rfl rfl rfl (wrI hg1)) ?_; clear Z a; intro a Z
   refine s_runk tW4 Z 1 rfl rfl ?_; clear Z a; intro a Z
   refine s_end Z [0, 2, 3, 4, 5, 13, 14, 15, 16, 17, 20, 23, 24, 25, 26, 27, 42, 43, 21, 22] rfl ?_; clear Z; intro Z
   refine p_then ?_
   exact ⟨(i + 1, w0_2, x_s_2, x_e_2), ⟨Z.sub (ts := [0, 2, 3, 4, 5]) rfl, ⟨I3, (H.sub [(0, false), (0, false), (0, true)] rfl).eq rfl⟩⟩, hF⟩
  ·skip
   refine wp_block ?_
   refine wp_seq ?_
   obtain ⟨hg2, hF⟩ := chk_in hF
   refine f_region Z ?_; clear Z; intro Z
   refine s_runk tW4 Z 2 rfl rfl ?_; clear Z a; intro a Z
   refine s_ob Z (v := .pointer (some ⟨blkOf v1_l, oofOf v1_l + (i).toNat * 5, none⟩)) rfl rfl (by decide) rfl (Ob_sidx tW4 rfl rfl rfl rfl (slPl (H.sl 2 rfl) hg2) hg2) ?_; clear Z a; intro a Z
   refine s_runk tW4 Z 1 rfl rfl ?_; clear Z a; intro a Z
   refine s_ob Z (v := .int .i64 ((l.getD (i).toNat default).k)) rfl rfl (by decide) rfl (Ob_load tW4 rfl rfl rfl ((slFl (H.sl 2 rfl) hg2) 0 _ rfl)) ?_; clear Z a; intro a Z
   refine s_end Z [0, 2, 3, 4, 5, 13, 14, 15, 16, 17, 20, 23, 24, 25, 26, 27] rfl ?_; clear Z; intro Z
   refine p_then (wp_block ?_)
   refine wp_seq (f_region Z ?_); clear Z; intro Z
   refine s_runk tW4 Z 2 rfl rfl ?_; clear Z a; intro a Z
   refine s_end Z [0, 2, 3, 4, 5, 13, 14, 15, 16, 17, 20, 23, 24, 25, 26, 27, 43, 42] rfl ?_; clear Z; intro Z
   refine p_then ?_
   refine f_cond Z rfl (fun hc2 => ?_) (fun hc2 => ?_)
   ·replace hF := ite_t hc2 hF
    refine wp_seq ?_
    obtain ⟨hg3, hF⟩ := chk_in hF
    obtain ⟨n0_2, hx2, hF⟩ := bnd_in hF
    refine f_region Z ?_; clear Z; intro Z
    refine s_runk tW4 Z 3 rfl rfl ?_; clear Z a; intro a Z
    refine s_ob Z (v := .pointer (some ⟨blkOf v1_l, oofOf v1_l + (i).toNat * 5, none⟩)) rfl rfl (by decide) rfl (Ob_sidx tW4 rfl rfl rfl rfl (slPl (H.sl 2 rfl) hg3) hg3) ?_; clear Z a; intro a Z
    refine s_runk tW4 Z 1 rfl rfl ?_; clear Z a; intro a Z
    refine s_ob Z (v := .int .i64 ((l.getD (i).toNat default).n)) rfl rfl (by decide) rfl (Ob_load tW4 rfl rfl rfl ((slFl (H.sl 2 rfl) hg3) 1 _ rfl)) ?_; clear Z a; intro a Z
    refine h_call Z H (js := [(0, false)]) rfl (caps := #[]) fn_8_YW4 rfl rfl rfl rfl rfl (by decide) rfl rfl (fun D1 hS => have hq := c_wire_Writer_Num hx2 hS; hq) ?_; clear Z a; intro vv a w5 D2 hr hF2 Z
    obtain ⟨rfl, I4, K⟩ := hr
    have H : Hf I D w I4 w5 [OEwire_Writer g1 n0_2, BxC b1 27 [.string x_s, .int .i64 x_e], SlC NElaw02_Part v1_l l] := hF2 K
    clear hF2 K
    refine s_runk tW4 Z 1 rfl rfl ?_; clear Z a; intro a Z
    refine s_end Z [0, 2, 3, 4, 5, 13, 14, 15, 16, 17, 20, 23, 24, 25, 26, 27, 43, 42, 44, 45, 46, 47, 48, 49, 50] rfl ?_; clear Z; intro Z
    refine p_then ?_
    obtain ⟨hg4, hF⟩ := chk_in hF
    obtain ⟨n0_3, hx3, hF⟩ := bnd_in hF
    refine f_region Z ?_; clear Z; intro Z
    refine s_runk tW4 Z 3 rfl rfl ?_; clear Z a; intro a Z
    refine s_ob Z (v := .pointer (some ⟨blkOf v1_l, oofOf v1_l + (i).toNat * 5, none⟩)) rfl rfl (by decide) rfl (Ob_sidx tW4 rfl rfl rfl rfl (slPl (H.sl 2 rfl) hg4) hg4) ?_; clear Z a; intro a Z
    refine s_runk tW4 Z 1 rfl rfl ?_; clear Z a; intro a Z
    refine s_ob Z (v := .int .i64 ((l.getD (i).toNat default).n)) rfl rfl (by decide) rfl (Ob_load tW4 rfl rfl rfl ((slFl (H.sl 2 rfl) hg4) 1 _ rfl)) ?_; clear Z a; intro a Z
    refine h_call Z H (js := [(1, false)]) rfl (caps := #[]) fn_9_YW4 rfl rfl rfl rfl rfl (by decide) rfl rfl (fun D1 hS => have hq := c_ref02_Writer_Num hx3 hS; hq) ?_; clear Z a; intro vv a w6 D2 hr hF2 Z
    obtain ⟨rfl, I5, K⟩ := hr
    have H : Hf I D w I5 w6 [BxC b1 27 [.string n0_3.s, .int .i64 n0_3.e], OEwire_Writer g1 n0_2, SlC NElaw02_Part v1_l l] := hF2 K
    clear hF2 K
    refine s_end Z [0, 2, 3, 4, 5, 13, 14, 15, 16, 17, 20, 23, 24, 25, 26, 27, 43, 42, 44, 45, 46, 47, 48, 49, 50, 51, 52, 53, 54, 55, 56] rfl ?_; clear Z; intro Z
    refine p_blk ?_
    refine p_blk ?_
    refine p_then ?_
    exact ⟨n0_2, n0_3.s, n0_3.e, Z.sub (ts := [0, 2, 3, 4, 5, 13, 14, 15, 16, 17, 20, 23, 24, 25, 26, 27, 42, 43]) rfl, ⟨I5, (H.sub [(1, false), (0, false), (0, true)] rfl).eq rfl⟩, hF⟩
   ·replace hF := ite_f hc2 hF
    refine wp_seq (f_region Z ?_); clear Z; intro Z
    refine s_runk tW4 Z 2 rfl rfl ?_; clear Z a; intro a Z
    refine s_end Z [0, 2, 3, 4, 5, 13, 14, 15, 16, 17, 20, 23, 24, 25, 26, 27, 43, 42, 59, 58] rfl ?_; clear Z; intro Z
    refine p_then ?_
    refine f_cond Z rfl (fun hc3 => ?_) (fun hc3 => ?_)
    ·replace hF := ite_t hc3 hF
     refine wp_seq ?_
     obtain ⟨hg5, hF⟩ := chk_in hF
     obtain ⟨b, hx4, hF⟩ := bnd_in hF
     refine f_region Z ?_; clear Z; intro Z
     refine s_runk tW4 Z 3 rfl rfl ?_; clear Z a; intro a Z
     refine s_ob Z (v := .pointer (some ⟨blkOf v1_l, oofOf v1_l + (i).toNat * 5, none⟩)) rfl rfl (by decide) rfl (Ob_sidx tW4 rfl rfl rfl rfl (slPl (H.sl 2 rfl) hg5) hg5) ?_; clear Z a; intro a Z
     refine s_runk tW4 Z 1 rfl rfl ?_; clear Z a; intro a Z
     refine s_ob Z (v := .int .u64 ((l.getD (i).toNat default).b)) rfl rfl (by decide) rfl (Ob_load tW4 rfl rfl rfl ((slFl (H.sl 2 rfl) hg5) 2 _ rfl)) ?_; clear Z a; intro a Z
     refine h_call Z H (js := [(0, false)]) rfl (caps := #[]) fn_10_YW4 rfl rfl rfl rfl rfl (by decide) rfl rfl (fun D1 hS => have hq := c_wire_Writer_Big hx4 hS; hq) ?_; clear Z a; intro vv a w7 D2 hr hF2 Z
     obtain ⟨rfl, I6, K⟩ := hr
     have H : Hf I D w I6 w7 [OEwire_Writer g1 b, BxC b1 27 [.string x_s, .int .i64 x_e], SlC NElaw02_Part v1_l l] := hF2 K
     clear hF2 K
     refine s_runk tW4 Z 1 rfl rfl ?_; clear Z a; intro a Z
     refine s_end Z [0, 2, 3, 4, 5, 13, 14, 15, 16, 17, 20, 23, 24, 25, 26, 27, 43, 42, 59, 58, 60, 61, 62, 63, 64, 65, 66] rfl ?_; clear Z; intro Z
     refine p_then ?_
     obtain ⟨hg6, hF⟩ := chk_in hF
     obtain ⟨b_2, hx5, hF⟩ := bnd_in hF
     refine f_region Z ?_; clear Z; intro Z
     refine s_runk tW4 Z 3 rfl rfl ?_; clear Z a; intro a Z
     refine s_ob Z (v := .pointer (some ⟨blkOf v1_l, oofOf v1_l + (i).toNat * 5, none⟩)) rfl rfl (by decide) rfl (Ob_sidx tW4 rfl rfl rfl rfl (slPl (H.sl 2 rfl) hg6) hg6) ?_; clear Z a; intro a Z
     refine s_runk tW4 Z 1 rfl rfl ?_; clear Z a; intro a Z
     refine s_ob Z (v := .int .u64 ((l.getD (i).toNat default).b)) rfl rfl (by decide) rfl (Ob_load tW4 rfl rfl rfl ((slFl (H.sl 2 rfl) hg6) 2 _ rfl)) ?_; clear Z a; intro a Z
     refine h_call Z H (js := [(1, false)]) rfl (caps := #[]) fn_11_YW4 rfl rfl rfl rfl rfl (by decide) rfl rfl (fun D1 hS => have hq := c_ref02_Writer_Big hx5 hS; hq) ?_; clear Z a; intro vv a w8 D2 hr hF2 Z
     obtain ⟨rfl, I7, K⟩ := hr
     have H : Hf I D w I7 w8 [BxC b1 27 [.string b_2.s, .int .i64 b_2.e], OEwire_Writer g1 b, SlC NElaw02_Part v1_l l] := hF2 K
     clear hF2 K
     refine s_end Z [0, 2, 3, 4, 5, 13, 14, 15, 16, 17, 20, 23, 24, 25, 26, 27, 43, 42, 59, 58, 60, 61, 62, 63, 64, 65, 66, 67, 68, 69, 70, 71, 72] rfl ?_; clear Z; intro Z
     refine p_blk ?_
     refine p_blk ?_
     refine p_then ?_
     exact ⟨b, b_2.s, b_2.e, Z.sub (ts := [0, 2, 3, 4, 5, 13, 14, 15, 16, 17, 20, 23, 24, 25, 26, 27, 42, 43]) rfl, ⟨I7, (H.sub [(1, false), (0, false), (0, true)] rfl).eq rfl⟩, hF⟩
    ·replace hF := ite_f hc3 hF
     refine wp_seq (f_region Z ?_); clear Z; intro Z
     refine s_runk tW4 Z 2 rfl rfl ?_; clear Z a; intro a Z
     refine s_end Z [0, 2, 3, 4, 5, 13, 14, 15, 16, 17, 20, 23, 24, 25, 26, 27, 43, 42, 59, 58, 75, 74] rfl ?_; clear Z; intro Z
     refine p_then ?_
     refine f_cond Z rfl (fun hc4 => ?_) (fun hc4 => ?_)
     ·replace hF := ite_t hc4 hF
      refine wp_seq ?_
      obtain ⟨hg7, hF⟩ := chk_in hF
      obtain ⟨t, hx6, hF⟩ := bnd_in hF
      refine f_region Z ?_; clear Z; intro Z
      refine s_runk tW4 Z 3 rfl rfl ?_; clear Z a; intro a Z
      refine s_ob Z (v := .pointer (some ⟨blkOf v1_l, oofOf v1_l + (i).toNat * 5, none⟩)) rfl rfl (by decide) rfl (Ob_sidx tW4 rfl rfl rfl rfl (slPl (H.sl 2 rfl) hg7) hg7) ?_; clear Z a; intro a Z
      refine s_runk tW4 Z 1 rfl rfl ?_; clear Z a; intro a Z
      refine s_ob Z (v := .string ((l.getD (i).toNat default).s)) rfl rfl (by decide) rfl (Ob_load tW4 rfl rfl rfl ((slFl (H.sl 2 rfl) hg7) 3 _ rfl)) ?_; clear Z a; intro a Z
      refine h_call Z H (js := [(0, false)]) rfl (caps := #[]) fn_12_YW4 rfl rfl rfl rfl rfl (by decide) rfl rfl (fun D1 hS => have hq := c_wire_Writer_Text hx6 hS; hq) ?_; clear Z a; intro vv a w9 D2 hr hF2 Z
      obtain ⟨rfl, I8, K⟩ := hr
      have H : Hf I D w I8 w9 [OEwire_Writer g1 t, BxC b1 27 [.string x_s, .int .i64 x_e], SlC NElaw02_Part v1_l l] := hF2 K
      clear hF2 K
      refine s_runk tW4 Z 1 rfl rfl ?_; clear Z a; intro a Z
      refine s_end Z [0, 2, 3, 4, 5, 13, 14, 15, 16, 17, 20, 23, 24, 25, 26, 27, 43, 42, 59, 58, 75, 74, 76, 77, 78, 79, 80, 81, 82] rfl ?_; clear Z; intro Z
      refine p_then ?_
      obtain ⟨hg8, hF⟩ := chk_in hF
      obtain ⟨t_2, hx7, hF⟩ := bnd_in hF
      refine f_region Z ?_; clear Z; intro Z
      refine s_runk tW4 Z 3 rfl rfl ?_; clear Z a; intro a Z
      refine s_ob Z (v := .pointer (some ⟨blkOf v1_l, oofOf v1_l + (i).toNat * 5, none⟩)) rfl rfl (by decide) rfl (Ob_sidx tW4 rfl rfl rfl rfl (slPl (H.sl 2 rfl) hg8) hg8) ?_; clear Z a; intro a Z
      refine s_runk tW4 Z 1 rfl rfl ?_; clear Z a; intro a Z
      refine s_ob Z (v := .string ((l.getD (i).toNat default).s)) rfl rfl (by decide) rfl (Ob_load tW4 rfl rfl rfl ((slFl (H.sl 2 rfl) hg8) 3 _ rfl)) ?_; clear Z a; intro a Z
      refine h_call Z H (js := [(1, false)]) rfl (caps := #[]) fn_13_YW4 rfl rfl rfl rfl rfl (by decide) rfl rfl (fun D1 hS => have hq := c_ref02_Writer_Text hx7 hS; hq) ?_; clear Z a; intro vv a w10 D2 hr hF2 Z
      obtain ⟨rfl, I9, K⟩ := hr
      have H : Hf I D w I9 w10 [BxC b1 27 [.string t_2.s, .int .i64 t_2.e], OEwire_Writer g1 t, SlC NElaw02_Part v1_l l] := hF2 K
      clear hF2 K
      refine s_end Z [0, 2, 3, 4, 5, 13, 14, 15, 16, 17, 20, 23, 24, 25, 26, 27, 43, 42, 59, 58, 75, 74, 76, 77, 78, 79, 80, 81, 82, 83, 84, 85, 86, 87, 88] rfl ?_; clear Z; intro Z
      refine p_blk ?_
      refine p_blk ?_
      refine p_then ?_
      exact ⟨t, t_2.s, t_2.e, Z.sub (ts := [0, 2, 3, 4, 5, 13, 14, 15, 16, 17, 20, 23, 24, 25, 26, 27, 42, 43]) rfl, ⟨I9, (H.sub [(1, false), (0, false), (0, true)] rfl).eq rfl⟩, hF⟩
     ·replace hF := ite_f hc4 hF
      refine wp_seq ?_
      obtain ⟨hg9, hF⟩ := chk_in hF
      obtain ⟨f, hx8, hF⟩ := bnd_in hF
      refine f_region Z ?_; clear Z; intro Z
      refine s_runk tW4 Z 3 rfl rfl ?_; clear Z a; intro a Z
      refine s_ob Z (v := .pointer (some ⟨blkOf v1_l, oofOf v1_l + (i).toNat * 5, none⟩)) rfl rfl (by decide) rfl (Ob_sidx tW4 rfl rfl rfl rfl (slPl (H.sl 2 rfl) hg9) hg9) ?_; clear Z a; intro a Z
      refine s_runk tW4 Z 1 rfl rfl ?_; clear Z a; intro a Z
      refine s_ob Z (v := .bool ((l.getD (i).toNat default).f)) rfl rfl (by decide) rfl (Ob_load tW4 rfl rfl rfl ((slFl (H.sl 2 rfl) hg9) 4 _ rfl)) ?_; clear Z a; intro a Z
      refine h_call Z H (js := [(0, false)]) rfl (caps := #[]) fn_14_YW4 rfl rfl rfl rfl rfl (by decide) rfl rfl (fun D1 hS => have hq := c_wire_Writer_Flag hx8 hS; hq) ?_; clear Z a; intro vv a w11 D2 hr hF2 Z
      obtain ⟨rfl, I10, K⟩ := hr
      have H : Hf I D w I10 w11 [OEwire_Writer g1 f, BxC b1 27 [.string x_s, .int .i64 x_e], SlC NElaw02_Part v1_l l] := hF2 K
      clear hF2 K
      refine s_runk tW4 Z 1 rfl rfl ?_; clear Z a; intro a Z
      refine s_end Z [0, 2, 3, 4, 5, 13, 14, 15, 16, 17, 20, 23, 24, 25, 26, 27, 43, 42, 59, 58, 75, 74, 28, 29, 30, 31, 32, 33, 34] rfl ?_; clear Z; intro Z
      refine p_then ?_
      obtain ⟨hg10, hF⟩ := chk_in hF
      obtain ⟨f_2, hx9, hF⟩ := bnd_in hF
      refine f_region Z ?_; clear Z; intro Z
      refine s_runk tW4 Z 3 rfl rfl ?_; clear Z a; intro a Z
      refine s_ob Z (v := .pointer (some ⟨blkOf v1_l, oofOf v1_l + (i).toNat * 5, none⟩)) rfl rfl (by decide) rfl (Ob_sidx tW4 rfl rfl rfl rfl (slPl (H.sl 2 rfl) hg10) hg10) ?_; clear Z a; intro a Z
      refine s_runk tW4 Z 1 rfl rfl ?_; clear Z a; intro a Z
      refine s_ob Z (v := .bool ((l.getD (i).toNat default).f)) rfl rfl (by decide) rfl (Ob_load tW4 rfl rfl rfl ((slFl (H.sl 2 rfl) hg10) 4 _ rfl)) ?_; clear Z a; intro a Z
      refine h_call Z H (js := [(1, false)]) rfl (caps := #[]) fn_15_YW4 rfl rfl rfl rfl rfl (by decide) rfl rfl (fun D1 hS => have hq := c_ref02_Writer_Flag hx9 hS; hq) ?_; clear Z a; intro vv a w12 D2 hr hF2 Z
      obtain ⟨rfl, I11, K⟩ := hr
      have H : Hf I D w I11 w12 [BxC b1 27 [.string f_2.s, .int .i64 f_2.e], OEwire_Writer g1 f, SlC NElaw02_Part v1_l l] := hF2 K
      clear hF2 K
      refine s_end Z [0, 2, 3, 4, 5, 13, 14, 15, 16, 17, 20, 23, 24, 25, 26, 27, 43, 42, 59, 58, 75, 74, 28, 29, 30, 31, 32, 33, 34, 35, 36, 37, 38, 39, 40] rfl ?_; clear Z; intro Z
      refine p_blk ?_
      refine p_blk ?_
      refine p_then ?_
      exact ⟨f, f_2.s, f_2.e, Z.sub (ts := [0, 2, 3, 4, 5, 13, 14, 15, 16, 17, 20, 23, 24, 25, 26, 27, 42, 43]) rfl, ⟨I11, (H.sub [(1, false), (0, false), (0, true)] rfl).eq rfl⟩, hF⟩
 ·replace hF := ite_f hc1 hF
  refine wp_exit ?_
  refine p_then_x ?_
  refine p_then_x ?_
  refine f_exit_here ?_
  refine p_then (wp_seq ?_)
  obtain ⟨d, hx10, hF⟩ := bnd_in hF
  refine f_region Z ?_; clear Z; intro Z
  refine s_runk tW4 Z 1 rfl rfl ?_; clear Z a; intro a Z
  refine h_call Z H (js := [(0, false)]) rfl (caps := #[]) fn_16_YW4 rfl rfl rfl rfl rfl (by decide) rfl rfl (fun D1 hS => have hq := c_wire_Writer_Done hx10 hS; hq) ?_; clear Z a; intro vv a w13 D2 hr hF2 Z
  obtain ⟨rfl, I12, K⟩ := hr
  have H : Hf I D w I12 w13 [BxC b1 27 [.string x_s, .int .i64 x_e], SlC NElaw02_Part v1_l l] := hF2 K
  clear hF2 K
  refine s_runk tW4 Z 5 rfl rfl ?_; clear Z a; intro a Z
  refine s_end Z [2, 4, 6, 7] rfl ?_; clear Z; intro Z
  refine p_then (wp_seq ?_)
  obtain ⟨d_2, hx11, hF⟩ := bnd_in hF
  refine f_region Z ?_; clear Z; intro Z
  refine s_runk tW4 Z 1 rfl rfl ?_; clear Z a; intro a Z
  refine h_call Z H (js := [(0, false)]) rfl (caps := #[]) fn_17_YW4 rfl rfl rfl rfl rfl (by decide) rfl rfl (fun D1 hS => have hq := c_ref02_Writer_Done hx11 hS; hq) ?_; clear Z a; intro vv a w14 D2 hr hF2 Z
  obtain ⟨rfl, I13, K⟩ := hr
  have H : Hf I D w I13 w14 [BxC b1 27 [.string x_s, .int .i64 x_e], SlC NElaw02_Part v1_l l] := hF2 K
  clear hF2 K
  refine s_runk tW4 Z 5 rfl rfl ?_; clear Z a; intro a Z
  refine s_end Z [2, 6, 7, 8, 9] rfl ?_; clear Z; intro Z
  refine p_then (wp_seq ?_)
  obtain ⟨a0, hx12, hF⟩ := bnd_in hF
  refine f_region Z ?_; clear Z; intro Z
  refine s_runk tW4 Z 4 rfl rfl ?_; clear Z a; intro a Z
  refine g_ob Z (p := (seqB d.1 d_2.1)) (v := .int .i64 d.2) (S' := [(7, .int .i64 d.2)]) rfl rfl rfl (wantB_t _) rfl (by decide) (fun hp hS => hS.sub (ts := [7]) rfl) (fun hp => Ob_c tW4 rfl) ?_; clear Z a; intro a Z
  refine g_ob Z (p := (seqB d.1 d_2.1)) (v := .int .i64 d_2.2) (S' := [(9, .int .i64 d_2.2)]) rfl rfl rfl (wantB_t _) rfl (by decide) (fun hp hS => hS.sub (ts := [9]) rfl) (fun hp => Ob_c tW4 rfl) ?_; clear Z a; intro a Z
  refine g_ob Z (p := (seqB d.1 d_2.1)) (v := .bool (d.2 == d_2.2)) (S' := [(104, .int .i64 d.2), (105, .int .i64 d_2.2)]) rfl rfl rfl (wantB_t _) rfl (by decide) (fun hp hS => ((hS.conv (t := 104) rfl (cond_t hp)).conv (t := 105) rfl (cond_t hp)).sub (ts := [104, 105]) rfl) (fun hp => Ob_c tW4 rfl) ?_; clear Z a; intro a Z
  refine s_ob Z (v := .bool ((seqB d.1 d_2.1) && (d.2 == d_2.2))) rfl rfl (by decide) rfl (Ob_pick rfl rfl rfl rfl (pick_and _ _)) ?_; clear Z a; intro a Z
  refine s_runk tW4 Z 1 rfl rfl ?_; clear Z a; intro a Z
  refine g_call Z (p := ((seqB d.1 d_2.1) && (d.2 == d_2.2))) (v := .bool a0) (S' := []) (caps := #[]) fn_18_YW4 rfl rfl rfl (wantB_t _) rfl (by decide) (fun hp hS => hS.sub (ts := []) rfl) rfl rfl rfl rfl (fun hp => have hq := c_law02_awake (gif_in hx12 hp) (H.pick0 (js := []) rfl rfl); plainC hq) ?_; clear Z a; intro a w15 hb Z
  replace H : Hf I D w I13 w15 [BxC b1 27 [.string x_s, .int .i64 x_e], SlC NElaw02_Part v1_l l] := H.blw hb
  clear hb
  refine s_ob Z (v := .bool (((seqB d.1 d_2.1) && (d.2 == d_2.2)) && a0)) rfl rfl (by decide) rfl (Ob_pick rfl rfl rfl rfl (pick_and _ _)) ?_; clear Z a; intro a Z
  refine s_runk tW4 Z 1 rfl rfl ?_; clear Z a; intro a Z
  refine s_end Z [2] rfl ?_; clear Z; intro Z
  refine p_then (wp_ret ?_)
  obtain rfl := some_in hF
  exact f_ret Z (run_results1 rfl Z rfl) ⟨rfl, I13, (H.sub [] rfl).eq rfl⟩

end Go.Proofs.Ytlgejpompnbfoaa
