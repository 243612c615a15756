/- Wire: the laws. -/
import Derived.Test.YtlgejpompnbfoaaYWire
namespace Go.Proofs.Ytlgejpompnbfoaa
open Go.RowKit
structure Elaw02_Part where
 k : Int
 n : Int
 b : Int
 s : ByteArray
 f : Bool

instance : Inhabited Elaw02_Part := ⟨⟨0, 0, 0, ByteArray.empty, false⟩⟩

def cElaw02_Part (x : Elaw02_Part) : List Value := [.int .i64 x.k, .int .i64 x.n, .int .u64 x.b, .string x.s, .bool x.f]

def NElaw02_Part : Rp Elaw02_Part := Rp.flat 5 (fun _ => True) (fun x => cElaw02_Part x) (fun _ => rfl) (fun x c hc => by simp only [cElaw02_Part, List.mem_cons, List.not_mem_nil, or_false] at hc; rcases hc with rfl | rfl | rfl | rfl | rfl <;> rfl)

def tW4L : TabL := ⟨[(30720, 0), (30721, 1), (30722, 2), (30723, 3), (30724, 4), (51202, 2)], [9], [4], [(22, (30, 5))], [(3, (1, false)), (4, (1, false)), (9, (1, false)), (27, (2, true)), (28, (1, false)), (50, (3, true))]⟩

def tW4 : Tab Try.prog := ⟨tW4L, by kernel_rfl⟩

theorem fn_7_YW4 : IsFn Try.prog 7 := ⟨_, Try.func7, by kernel_rfl, by kernel_rfl⟩

theorem fn_8_YW4 : IsFn Try.prog 8 := ⟨_, Try.func8, by kernel_rfl, by kernel_rfl⟩

theorem fn_10_YW4 : IsFn Try.prog 10 := ⟨_, Try.func10, by kernel_rfl, by kernel_rfl⟩

theorem fn_12_YW4 : IsFn Try.prog 12 := ⟨_, Try.func12, by kernel_rfl, by kernel_rfl⟩

theorem fn_14_YW4 : IsFn Try.prog 14 := ⟨_, Try.func14, by kernel_rfl, by kernel_rfl⟩

theorem fn_16_YW4 : IsFn Try.prog 16 := ⟨_, Try.func16, by kernel_rfl, by kernel_rfl⟩

theorem fn_18_YW4 : IsFn Try.prog 18 := ⟨_, Try.func18, by kernel_rfl, by kernel_rfl⟩

theorem fn_19_YW4 : IsFn Try.prog 19 := ⟨_, Try.func19, by kernel_rfl, by kernel_rfl⟩

theorem fn_20_YW4 : IsFn Try.prog 20 := ⟨_, Try.func20, by kernel_rfl, by kernel_rfl⟩

theorem fn_22_YW4 : IsFn Try.prog 22 := ⟨_, Try.func22, by kernel_rfl, by kernel_rfl⟩

theorem fn_24_YW4 : IsFn Try.prog 24 := ⟨_, Try.func24, by kernel_rfl, by kernel_rfl⟩

theorem fn_26_YW4 : IsFn Try.prog 26 := ⟨_, Try.func26, by kernel_rfl, by kernel_rfl⟩

theorem fn_28_YW4 : IsFn Try.prog 28 := ⟨_, Try.func28, by kernel_rfl, by kernel_rfl⟩

theorem fn_29_YW4 : IsFn Try.prog 29 := ⟨_, Try.func29, by kernel_rfl, by kernel_rfl⟩

theorem fn_31_YW4 : IsFn Try.prog 31 := ⟨_, Try.func31, by kernel_rfl, by kernel_rfl⟩

def F_law02_awake : Option Bool := (F_wire_New).bind fun n0 => ((F_wire_Writer_Text n0 ⟨#[97, 98]⟩).bind fun t => ((F_wire_Writer_Flag t true).bind fun f => ((F_wire_Writer_Num f 300).bind fun n0_2 => ((F_wire_Writer_Done n0_2).bind fun d => ((F_wire_Open d.1).bind fun o => ((gif ((seqB d.1 ⟨#[2, 97, 98, 1, 249, 1, 44]⟩) && (d.2 == 0)) (F_wire_Reader_Text o 2) default).bind fun t_2 => ((gif (((seqB d.1 ⟨#[2, 97, 98, 1, 249, 1, 44]⟩) && (d.2 == 0)) && (seqB t_2.1 ⟨#[97, 98]⟩)) (F_wire_Reader_Flag (cond ((seqB d.1 ⟨#[2, 97, 98, 1, 249, 1, 44]⟩) && (d.2 == 0)) t_2.2 o)) default).bind fun f_2 => ((gif ((((seqB d.1 ⟨#[2, 97, 98, 1, 249, 1, 44]⟩) && (d.2 == 0)) && (seqB t_2.1 ⟨#[97, 98]⟩)) && f_2.1) (F_wire_Reader_Num (cond (((seqB d.1 ⟨#[2, 97, 98, 1, 249, 1, 44]⟩) && (d.2 == 0)) && (seqB t_2.1 ⟨#[97, 98]⟩)) f_2.2 (cond ((seqB d.1 ⟨#[2, 97, 98, 1, 249, 1, 44]⟩) && (d.2 == 0)) t_2.2 o)) 300) default).bind fun n0_3 => ((gif (((((seqB d.1 ⟨#[2, 97, 98, 1, 249, 1, 44]⟩) && (d.2 == 0)) && (seqB t_2.1 ⟨#[97, 98]⟩)) && f_2.1) && (n0_3.1 == 300)) (F_wire_Reader_End (cond ((((seqB d.1 ⟨#[2, 97, 98, 1, 249, 1, 44]⟩) && (d.2 == 0)) && (seqB t_2.1 ⟨#[97, 98]⟩)) && f_2.1) n0_3.2 (cond (((seqB d.1 ⟨#[2, 97, 98, 1, 249, 1, 44]⟩) && (d.2 == 0)) && (seqB t_2.1 ⟨#[97, 98]⟩)) f_2.2 (cond ((seqB d.1 ⟨#[2, 97, 98, 1, 249, 1, 44]⟩) && (d.2 == 0)) t_2.2 o)))) default).bind fun e => (some ((((((seqB d.1 ⟨#[2, 97, 98, 1, 249, 1, 44]⟩) && (d.2 == 0)) && (seqB t_2.1 ⟨#[97, 98]⟩)) && f_2.1) && (n0_3.1 == 300)) && (e == 0))))))))))))

set_option maxHeartbeats 1000000 in
theorem c_law02_awake {I D : Dm} {w : World} {rr : Bool} (hF : F_law02_awake = some rr) (H : St I D w []) :
  Calls Try.prog 18 #[] w (Ret fun vv w' => vv = .bool rr ∧ ∃ I', Hf I D w I' w' []) := by
 replace H := H.hf
 unfold F_law02_awake at hF
 refine f_enter 39 Try.func18 rfl rfl (Nat.le_of_ble_eq_true rfl) fun a Z => ?_
 replace Z := Z.sub (ts := []) rfl
 refine wp_seq (f_region Z ?_); clear Z; intro Z
 refine s_runk tW4 Z 1 rfl rfl ?_; clear Z a; intro a Z
 refine s_end Z [0] rfl ?_; clear Z; intro Z
 refine p_then (wp_seq ?_)
 obtain ⟨n0, hx1, hF⟩ := bnd_in hF
 obtain ⟨t, hx2, hF⟩ := bnd_in hF
 obtain ⟨f, hx3, hF⟩ := bnd_in hF
 obtain ⟨n0_2, hx4, hF⟩ := bnd_in hF
 obtain ⟨d, hx5, hF⟩ := bnd_in hF
 refine f_region Z ?_; clear Z; intro Z
 refine h_call Z H (js := []) rfl (caps := #[]) fn_7_YW4 rfl rfl rfl rfl rfl (by decide) rfl rfl (fun D1 hS => have hq := c_wire_New hx1 hS; hq) ?_; clear Z a; intro vv a w1 D2 hr hF2 Z
 obtain ⟨g1, rfl, I1, K⟩ := hr
 have H : Hf I D w I1 w1 [OEwire_Writer g1 n0] := hF2 K
 clear hF2 K
 refine h_call Z H (js := [(0, false)]) rfl (caps := #[]) fn_12_YW4 rfl rfl rfl rfl rfl (by decide) rfl rfl (fun D1 hS => have hq := c_wire_Writer_Text hx2 hS; hq) ?_; clear Z a; intro vv a w2 D2 hr hF2 Z
 obtain ⟨rfl, I2, K⟩ := hr
 have H : Hf I D w I2 w2 [OEwire_Writer g1 t] := hF2 K
 clear hF2 K
 refine h_call Z H (js := [(0, false)]) rfl (caps := #[]) fn_14_YW4 rfl rfl rfl rfl rfl (by decide) rfl rfl (fun D1 hS => have hq := c_wire_Writer_Flag hx3 hS; hq) ?_; clear Z a; intro vv a w3 D2 hr hF2 Z
 obtain ⟨rfl, I3, K⟩ := hr
 have H : Hf I D w I3 w3 [OEwire_Writer g1 f] := hF2 K
 clear hF2 K
 refine h_call Z H (js := [(0, false)]) rfl (caps := #[]) fn_8_YW4 rfl rfl rfl rfl rfl (by decide) rfl rfl (fun D1 hS => have hq := c_wire_Writer_Num hx4 hS; hq) ?_; clear Z a; intro vv a w4 D2 hr hF2 Z
 obtain ⟨rfl, I4, K⟩ := hr
 have H : Hf I D w I4 w4 [OEwire_Writer g1 n0_2] := hF2 K
 clear hF2 K
 refine h_call Z H (js := [(0, false)]) rfl (caps := #[]) fn_16_YW4 rfl rfl rfl rfl rfl (by decide) rfl rfl (fun D1 hS => have hq := c_wire_Writer_Done hx5 hS; hq) ?_; clear Z a; intro vv a w5 D2 hr hF2 Z
 obtain ⟨rfl, I5, K⟩ := hr
 have H : Hf I D w I5 w5 [] := hF2 K
 clear hF2 K
 refine s_runk tW4 Z 5 rfl rfl ?_; clear Z a; intro a Z
 refine s_end Z [0, 1, 2] rfl ?_; clear Z; intro Z
 refine p_then (wp_seq ?_)
 obtain ⟨o, hx6, hF⟩ := bnd_in hF
 refine f_region Z ?_; clear Z; intro Z
 refine s_runk tW4 Z 1 rfl rfl ?_; clear Z a; intro a Z
 refine h_call Z H (js := []) rfl (caps := #[]) fn_19_YW4 rfl rfl rfl rfl rfl (by decide) rfl rfl (fun D1 hS => have hq := c_wire_Open hx6 hS; hq) ?_; clear Z a; intro vv a w6 D2 hr hF2 Z
 obtain ⟨g2, rfl, I6, K⟩ := hr
 have H : Hf I D w I6 w6 [BxC g2 65 [.string o.s, .int .i64 o.at_, .int .i64 o.e, .bool o.made]] := hF2 K
 clear hF2 K
 refine s_runk tW4 Z 1 rfl rfl ?_; clear Z a; intro a Z
 refine s_end Z [0, 1, 2, 3] rfl ?_; clear Z; intro Z
 refine p_then (wp_seq ?_)
 obtain ⟨t_2, hx7, hF⟩ := bnd_in hF
 obtain ⟨f_2, hx8, hF⟩ := bnd_in hF
 obtain ⟨n0_3, hx9, hF⟩ := bnd_in hF
 obtain ⟨e, hx10, hF⟩ := bnd_in hF
 refine f_region Z ?_; clear Z; intro Z
 refine s_runk tW4 Z 3 rfl rfl ?_; clear Z a; intro a Z
 refine g_ob Z (p := (seqB d.1 ⟨#[2, 97, 98, 1, 249, 1, 44]⟩)) (v := .int .i64 d.2) (S' := [(2, .int .i64 d.2)]) rfl rfl rfl (wantB_t _) rfl (by decide) (fun hp hS => hS.sub (ts := [2]) rfl) (fun hp => Ob_c tW4 rfl) ?_; clear Z a; intro a Z
 refine g_ob Z (p := (seqB d.1 ⟨#[2, 97, 98, 1, 249, 1, 44]⟩)) (v := .bool (d.2 == 0)) (S' := [(17, .int .i64 d.2)]) rfl rfl rfl (wantB_t _) rfl (by decide) (fun hp hS => (hS.conv (t := 17) rfl (cond_t hp)).sub (ts := [17]) rfl) (fun hp => Ob_c tW4 rfl) ?_; clear Z a; intro a Z
 refine s_ob Z (v := .bool ((seqB d.1 ⟨#[2, 97, 98, 1, 249, 1, 44]⟩) && (d.2 == 0))) rfl rfl (by decide) rfl (Ob_pick rfl rfl rfl rfl (pick_and _ _)) ?_; clear Z a; intro a Z
 refine s_runk tW4 Z 1 rfl rfl ?_; clear Z a; intro a Z
 refine g_ob Z (p := ((seqB d.1 ⟨#[2, 97, 98, 1, 249, 1, 44]⟩) && (d.2 == 0))) (v := .pointer (some ⟨g2, 0, none⟩)) (S' := [(3, .pointer (some ⟨g2, 0, none⟩))]) rfl rfl rfl (wantB_t _) rfl (by decide) (fun hp hS => hS.sub (ts := [3]) rfl) (fun hp => Ob_c tW4 rfl) ?_; clear Z a; intro a Z
 refine h_gcall Z H (js := [(0, false)]) rfl (p := ((seqB d.1 ⟨#[2, 97, 98, 1, 249, 1, 44]⟩) && (d.2 == 0))) (v := .string t_2.1) (S' := [(21, .pointer (some ⟨g2, 0, none⟩))]) (caps := #[]) (fun qq => [BxC g2 65 [.string ((cond qq t_2.2 o).s), .int .i64 ((cond qq t_2.2 o).at_), .int .i64 ((cond qq t_2.2 o).e), .bool ((cond qq t_2.2 o).made)]]) fn_24_YW4 rfl rfl rfl (wantB_t _) rfl (by decide) (fun hp hS => (hS.conv (t := 21) rfl (cond_t hp)).sub (ts := [21]) rfl) rfl rfl rfl rfl (fun hp D1 hS => have hq := c_wire_Reader_Text (gif_in hx7 hp) hS; hq) (fun hp => H.sub [(0, false)] rfl) ?_; clear Z a H; intro a w7 I7 H Z
 replace H : Hf I D w I7 w7 [BxC g2 65 [.string ((cond ((seqB d.1 ⟨#[2, 97, 98, 1, 249, 1, 44]⟩) && (d.2 == 0)) t_2.2 o).s), .int .i64 ((cond ((seqB d.1 ⟨#[2, 97, 98, 1, 249, 1, 44]⟩) && (d.2 == 0)) t_2.2 o).at_), .int .i64 ((cond ((seqB d.1 ⟨#[2, 97, 98, 1, 249, 1, 44]⟩) && (d.2 == 0)) t_2.2 o).e), .bool ((cond ((seqB d.1 ⟨#[2, 97, 98, 1, 249, 1, 44]⟩) && (d.2 == 0)) t_2.2 o).made)]] := H
 refine g_ob Z (p := ((seqB d.1 ⟨#[2, 97, 98, 1, 249, 1, 44]⟩) && (d.2 == 0))) (v := .bool (seqB t_2.1 ⟨#[97, 98]⟩)) (S' := [(22, .string t_2.1)]) rfl rfl rfl (wantB_t _) rfl (by decide) (fun hp hS => (hS.conv (t := 22) rfl (cond_t hp)).sub (ts := [22]) rfl) (fun hp => Ob_c tW4 rfl) ?_; clear Z a; intro a Z
 refine s_ob Z (v := .bool (((seqB d.1 ⟨#[2, 97, 98, 1, 249, 1, 44]⟩) && (d.2 == 0)) && (seqB t_2.1 ⟨#[97, 98]⟩))) rfl rfl (by decide) rfl (Ob_pick rfl rfl rfl rfl (pick_and _ _)) ?_; clear Z a; intro a Z
 refine s_runk tW4 Z 1 rfl rfl ?_; clear Z a; intro a Z
 refine g_ob Z (p := (((seqB d.1 ⟨#[2, 97, 98, 1, 249, 1, 44]⟩) && (d.2 == 0)) && (seqB t_2.1 ⟨#[97, 98]⟩))) (v := .pointer (some ⟨g2, 0, none⟩)) (S' := [(3, .pointer (some ⟨g2, 0, none⟩))]) rfl rfl rfl (wantB_t _) rfl (by decide) (fun hp hS => hS.sub (ts := [3]) rfl) (fun hp => Ob_c tW4 rfl) ?_; clear Z a; intro a Z
 refine h_gcall Z H (js := [(0, false)]) rfl (p := (((seqB d.1 ⟨#[2, 97, 98, 1, 249, 1, 44]⟩) && (d.2 == 0)) && (seqB t_2.1 ⟨#[97, 98]⟩))) (v := .bool f_2.1) (S' := [(26, .pointer (some ⟨g2, 0, none⟩))]) (caps := #[]) (fun qq => [BxC g2 65 [.string ((cond qq f_2.2 (cond ((seqB d.1 ⟨#[2, 97, 98, 1, 249, 1, 44]⟩) && (d.2 == 0)) t_2.2 o)).s), .int .i64 ((cond qq f_2.2 (cond ((seqB d.1 ⟨#[2, 97, 98, 1, 249, 1, 44]⟩) && (d.2 == 0)) t_2.2 o)).at_), .int .i64 ((cond qq f_2.2 (cond ((seqB d.1 ⟨#[2, 97, 98, 1, 249, 1, 44]⟩) && (d.2 == 0)) t_2.2 o)).e), .bool ((cond qq f_2.2 (cond ((seqB d.1 ⟨#[2, 97, 98, 1, 249, 1, 44]⟩) && (d.2 == 0)) t_2.2 o)).made)]]) fn_26_YW4 rfl rfl rfl (wantB_t _) rfl (by decide) (fun hp hS => (hS.conv (t := 26) rfl (cond_t hp)).sub (ts := [26]) rfl) rfl rfl rfl rfl (fun hp D1 hS => have hq := c_wire_Reader_Flag (gif_in hx8 hp) hS; hq) (fun hp => H.sub [(0, false)] rfl) ?_; clear Z a H; intro a w8 I8 H Z
 replace H : Hf I D w I8 w8 [BxC g2 65 [.string ((cond (((seqB d.1 ⟨#[2, 97, 98, 1, 249, 1, 44]⟩) && (d.2 == 0)) && (seqB t_2.1 ⟨#[97, 98]⟩)) f_2.2 (cond ((seqB d.1 ⟨#[2, 97, 98, 1, 249, 1, 44]⟩) && (d.2 == 0)) t_2.2 o)).s), .int .i64 ((cond (((seqB d.1 ⟨#[2, 97, 98, 1, 249, 1, 44]⟩) && (d.2 == 0)) && (seqB t_2.1 ⟨#[97, 98]⟩)) f_2.2 (cond ((seqB d.1 ⟨#[2, 97, 98, 1, 249, 1, 44]⟩) && (d.2 == 0)) t_2.2 o)).at_), .int .i64 ((cond (((seqB d.1 ⟨#[2, 97, 98, 1, 249, 1, 44]⟩) && (d.2 == 0)) && (seqB t_2.1 ⟨#[97, 98]⟩)) f_2.2 (cond ((seqB d.1 ⟨#[2, 97, 98, 1, 249, 1, 44]⟩) && (d.2 == 0)) t_2.2 o)).e), .bool ((cond (((seqB d.1 ⟨#[2, 97, 98, 1, 249, 1, 44]⟩) && (d.2 == 0)) && (seqB t_2.1 ⟨#[97, 98]⟩)) f_2.2 (cond ((seqB d.1 ⟨#[2, 97, 98, 1, 249, 1, 44]⟩) && (d.2 == 0)) t_2.2 o)).made)]] := H
 refine s_ob Z (v := .bool ((((seqB d.1 ⟨#[2, 97, 98, 1, 249, 1, 44]⟩) && (d.2 == 0)) && (seqB t_2.1 ⟨#[97, 98]⟩)) && f_2.1)) rfl rfl (by decide) rfl (Ob_pick rfl rfl rfl rfl (pick_and _ _)) ?_; clear Z a; intro a Z
 refine s_runk tW4 Z 1 rfl rfl ?_; clear Z a; intro a Z
 refine g_ob Z (p := ((((seqB d.1 ⟨#[2, 97, 98, 1, 249, 1, 44]⟩) && (d.2 == 0)) && (seqB t_2.1 ⟨#[97, 98]⟩)) && f_2.1)) (v := .pointer (some ⟨g2, 0, none⟩)) (S' := [(3, .pointer (some ⟨g2, 0, none⟩))]) rfl rfl rfl (wantB_t _) rfl (by decide) (fun hp hS => hS.sub (ts := [3]) rfl) (fun hp => Ob_c tW4 rfl) ?_; clear Z a; intro a Z
 refine h_gcall Z H (js := [(0, false)]) rfl (p := ((((seqB d.1 ⟨#[2, 97, 98, 1, 249, 1, 44]⟩) && (d.2 == 0)) && (seqB t_2.1 ⟨#[97, 98]⟩)) && f_2.1)) (v := .int .i64 n0_3.1) (S' := [(30, .pointer (some ⟨g2, 0, none⟩))]) (caps := #[]) (fun qq => [BxC g2 65 [.string ((cond qq n0_3.2 (cond (((seqB d.1 ⟨#[2, 97, 98, 1, 249, 1, 44]⟩) && (d.2 == 0)) && (seqB t_2.1 ⟨#[97, 98]⟩)) f_2.2 (cond ((seqB d.1 ⟨#[2, 97, 98, 1, 249, 1, 44]⟩) && (d.2 == 0)) t_2.2 o))).s), .int .i64 ((cond qq n0_3.2 (cond (((seqB d.1 ⟨#[2, 97, 98, 1, 249, 1, 44]⟩) && (d.2 == 0)) && (seqB t_2.1 ⟨#[97, 98]⟩)) f_2.2 (cond ((seqB d.1 ⟨#[2, 97, 98, 1, 249, 1, 44]⟩) && (d.2 == 0)) t_2.2 o))).at_), .int .i64 ((cond qq n0_3.2 (cond (((seqB d.1 ⟨#[2, 97, 98, 1, 249, 1, 44]⟩) && (d.2 == 0)) && (seqB t_2.1 ⟨#[97, 98]⟩)) f_2.2 (cond ((seqB d.1 ⟨#[2, 97, 98, 1, 249, 1, 44]⟩) && (d.2 == 0)) t_2.2 o))).e), .bool ((cond qq n0_3.2 (cond (((seqB d.1 ⟨#[2, 97, 98, 1, 249, 1, 44]⟩) && (d.2 == 0)) && (seqB t_2.1 ⟨#[97, 98]⟩)) f_2.2 (cond ((seqB d.1 ⟨#[2, 97, 98, 1, 249, 1, 44]⟩) && (d.2 == 0)) t_2.2 o))).made)]]) fn_20_YW4 rfl rfl rfl (wantB_t _) rfl (by decide) (fun hp hS => (hS.conv (t := 30) rfl (cond_t hp)).sub (ts := [30]) rfl) rfl rfl rfl rfl (fun hp D1 hS => have hq := c_wire_Reader_Num (gif_in hx9 hp) hS; hq) (fun hp => H.sub [(0, false)] rfl) ?_; clear Z a H; intro a w9 I9 H Z
 replace H : Hf I D w I9 w9 [BxC g2 65 [.string ((cond ((((seqB d.1 ⟨#[2, 97, 98, 1, 249, 1, 44]⟩) && (d.2 == 0)) && (seqB t_2.1 ⟨#[97, 98]⟩)) && f_2.1) n0_3.2 (cond (((seqB d.1 ⟨#[2, 97, 98, 1, 249, 1, 44]⟩) && (d.2 == 0)) && (seqB t_2.1 ⟨#[97, 98]⟩)) f_2.2 (cond ((seqB d.1 ⟨#[2, 97, 98, 1, 249, 1, 44]⟩) && (d.2 == 0)) t_2.2 o))).s), .int .i64 ((cond ((((seqB d.1 ⟨#[2, 97, 98, 1, 249, 1, 44]⟩) && (d.2 == 0)) && (seqB t_2.1 ⟨#[97, 98]⟩)) && f_2.1) n0_3.2 (cond (((seqB d.1 ⟨#[2, 97, 98, 1, 249, 1, 44]⟩) && (d.2 == 0)) && (seqB t_2.1 ⟨#[97, 98]⟩)) f_2.2 (cond ((seqB d.1 ⟨#[2, 97, 98, 1, 249, 1, 44]⟩) && (d.2 == 0)) t_2.2 o))).at_), .int .i64 ((cond ((((seqB d.1 ⟨#[2, 97, 98, 1, 249, 1, 44]⟩) && (d.2 == 0)) && (seqB t_2.1 ⟨#[97, 98]⟩)) && f_2.1) n0_3.2 (cond (((seqB d.1 ⟨#[2, 97, 98, 1, 249, 1, 44]⟩) && (d.2 == 0)) && (seqB t_2.1 ⟨#[97, 98]⟩)) f_2.2 (cond ((seqB d.1 ⟨#[2, 97, 98, 1, 249, 1, 44]⟩) && (d.2 == 0)) t_2.2 o))).e), .bool ((cond ((((seqB d.1 ⟨#[2, 97, 98, 1, 249, 1, 44]⟩) && (d.2 == 0)) && (seqB t_2.1 ⟨#[97, 98]⟩)) && f_2.1) n0_3.2 (cond (((seqB d.1 ⟨#[2, 97, 98, 1, 249, 1, 44]⟩) && (d.2 == 0)) && (seqB t_2.1 ⟨#[97, 98]⟩)) f_2.2 (cond ((seqB d.1 ⟨#[2, 97, 98, 1, 249, 1, 44]⟩) && (d.2 == 0)) t_2.2 o))).made)]] := H
 refine g_ob Z (p := ((((seqB d.1 ⟨#[2, 97, 98, 1, 249, 1, 44]⟩) && (d.2 == 0)) && (seqB t_2.1 ⟨#[97, 98]⟩)) && f_2.1)) (v := .bool (n0_3.1 == 300)) (S' := [(31, .int .i64 n0_3.1)]) rfl rfl rfl (wantB_t _) rfl (by decide) (fun hp hS => (hS.conv (t := 31) rfl (cond_t hp)).sub (ts := [31]) rfl) (fun hp => Ob_c tW4 rfl) ?_; clear Z a; intro a Z
 refine s_ob Z (v := .bool (((((seqB d.1 ⟨#[2, 97, 98, 1, 249, 1, 44]⟩) && (d.2 == 0)) && (seqB t_2.1 ⟨#[97, 98]⟩)) && f_2.1) && (n0_3.1 == 300))) rfl rfl (by decide) rfl (Ob_pick rfl rfl rfl rfl (pick_and _ _)) ?_; clear Z a; intro a Z
 refine s_runk tW4 Z 1 rfl rfl ?_; clear Z a; intro a Z
 refine g_ob Z (p := (((((seqB d.1 ⟨#[2, 97, 98, 1, 249, 1, 44]⟩) && (d.2 == 0)) && (seqB t_2.1 ⟨#[97, 98]⟩)) && f_2.1) && (n0_3.1 == 300))) (v := .pointer (some ⟨g2, 0, none⟩)) (S' := [(3, .pointer (some ⟨g2, 0, none⟩))]) rfl rfl rfl (wantB_t _) rfl (by decide) (fun hp hS => hS.sub (ts := [3]) rfl) (fun hp => Ob_c tW4 rfl) ?_; clear Z a; intro a Z
 refine h_gcall Z H (js := [(0, false)]) rfl (p := (((((seqB d.1 ⟨#[2, 97, 98, 1, 249, 1, 44]⟩) && (d.2 == 0)) && (seqB t_2.1 ⟨#[97, 98]⟩)) && f_2.1) && (n0_3.1 == 300))) (v := .int .i64 e) (S' := [(35, .pointer (some ⟨g2, 0, none⟩))]) (caps := #[]) (fun _ => [BxC g2 65 [.string ((cond ((((seqB d.1 ⟨#[2, 97, 98, 1, 249, 1, 44]⟩) && (d.2 == 0)) && (seqB t_2.1 ⟨#[97, 98]⟩)) && f_2.1) n0_3.2 (cond (((seqB d.1 ⟨#[2, 97, 98, 1, 249, 1, 44]⟩) && (d.2 == 0)) && (seqB t_2.1 ⟨#[97, 98]⟩)) f_2.2 (cond ((seqB d.1 ⟨#[2, 97, 98, 1, 249, 1, 44]⟩) && (d.2 == 0)) t_2.2 o))).s), .int .i64 ((cond ((((seqB d.1 ⟨#[2, 97, 98, 1, 249, 1, 44]⟩) && (d.2 == 0)) && (seqB t_2.1 ⟨#[97, 98]⟩)) && f_2.1) n0_3.2 (cond (((seqB d.1 ⟨#[2, 97, 98, 1, 249, 1, 44]⟩) && (d.2 == 0)) && (seqB t_2.1 ⟨#[97, 98]⟩)) f_2.2 (cond ((seqB d.1 ⟨#[2, 97, 98, 1, 249, 1, 44]⟩) && (d.2 == 0)) t_2.2 o))).at_), .int .i64 ((cond ((((seqB d.1 ⟨#[2, 97, 98, 1, 249, 1, 44]⟩) && (d.2 == 0)) && (seqB t_2.1 ⟨#[97, 98]⟩)) && f_2.1) n0_3.2 (cond (((seqB d.1 ⟨#[2, 97, 98, 1, 249, 1, 44]⟩) && (d.2 == 0)) && (seqB t_2.1 ⟨#[97, 98]⟩)) f_2.2 (cond ((seqB d.1 ⟨#[2, 97, 98, 1, 249, 1, 44]⟩) && (d.2 == 0)) t_2.2 o))).e), .bool ((cond ((((seqB d.1 ⟨#[2, 97, 98, 1, 249, 1, 44]⟩) && (d.2 == 0)) && (seqB t_2.1 ⟨#[97, 98]⟩)) && f_2.1) n0_3.2 (cond (((seqB d.1 ⟨#[2, 97, 98, 1, 249, 1, 44]⟩) && (d.2 == 0)) && (seqB t_2.1 ⟨#[97, 98]⟩)) f_2.2 (cond ((seqB d.1 ⟨#[2, 97, 98, 1, 249, 1, 44]⟩) && (d.2 == 0)) t_2.2 o))).made)]]) fn_31_YW4 rfl rfl rfl (wantB_t _) rfl (by decide) (fun hp hS => (hS.conv (t := 35) rfl (cond_t hp)).sub (ts := [35]) rfl) rfl rfl rfl rfl (fun hp D1 hS => have hq := c_wire_Reader_End (gif_in hx10 hp) hS; hq) (fun hp => H.sub [(0, false)] rfl) ?_; clear Z a H; intro a w10 I10 H Z
 replace H : Hf I D w I10 w10 [BxC g2 65 [.string ((cond ((((seqB d.1 ⟨#[2, 97, 98, 1, 249, 1, 44]⟩) && (d.2 == 0)) && (seqB t_2.1 ⟨#[97, 98]⟩)) && f_2.1) n0_3.2 (cond (((seqB d.1 ⟨#[2, 97, 98, 1, 249, 1, 44]⟩) && (d.2 == 0)) && (seqB t_2.1 ⟨#[97, 98]⟩)) f_2.2 (cond ((seqB d.1 ⟨#[2, 97, 98, 1, 249, 1, 44]⟩) && (d.2 == 0)) t_2.2 o))).s), .int .i64 ((cond ((((seqB d.1 ⟨#[2, 97, 98, 1, 249, 1, 44]⟩) && (d.2 == 0)) && (seqB t_2.1 ⟨#[97, 98]⟩)) && f_2.1) n0_3.2 (cond (((seqB d.1 ⟨#[2, 97, 98, 1, 249, 1, 44]⟩) && (d.2 == 0)) && (seqB t_2.1 ⟨#[97, 98]⟩)) f_2.2 (cond ((seqB d.1 ⟨#[2, 97, 98, 1, 249, 1, 44]⟩) && (d.2 == 0)) t_2.2 o))).at_), .int .i64 ((cond ((((seqB d.1 ⟨#[2, 97, 98, 1, 249, 1, 44]⟩) && (d.2 == 0)) && (seqB t_2.1 ⟨#[97, 98]⟩)) && f_2.1) n0_3.2 (cond (((seqB d.1 ⟨#[2, 97, 98, 1, 249, 1, 44]⟩) && (d.2 == 0)) && (seqB t_2.1 ⟨#[97, 98]⟩)) f_2.2 (cond ((seqB d.1 ⟨#[2, 97, 98, 1, 249, 1, 44]⟩) && (d.2 == 0)) t_2.2 o))).e), .bool ((cond ((((seqB d.1 ⟨#[2, 97, 98, 1, 249, 1, 44]⟩) && (d.2 == 0)) && (seqB t_2.1 ⟨#[97, 98]⟩)) && f_2.1) n0_3.2 (cond (((seqB d.1 ⟨#[2, 97, 98, 1, 249, 1, 44]⟩) && (d.2 == 0)) && (seqB t_2.1 ⟨#[97, 98]⟩)) f_2.2 (cond ((seqB d.1 ⟨#[2, 97, 98, 1, 249, 1, 44]⟩) && (d.2 == 0)) t_2.2 o))).made)]] := H
 refine g_ob Z (p := (((((seqB d.1 ⟨#[2, 97, 98, 1, 249, 1, 44]⟩) && (d.2 == 0)) && (seqB t_2.1 ⟨#[97, 98]⟩)) && f_2.1) && (n0_3.1 == 300))) (v := .bool (e == 0)) (S' := [(36, .int .i64 e)]) rfl rfl rfl (wantB_t _) rfl (by decide) (fun hp hS => (hS.conv (t := 36) rfl (cond_t hp)).sub (ts := [36]) rfl) (fun hp => Ob_c tW4 rfl) ?_; clear Z a; intro a Z
 refine s_ob Z (v := .bool ((((((seqB d.1 ⟨#[2, 97, 98, 1, 249, 1, 44]⟩) && (d.2 == 0)) && (seqB t_2.1 ⟨#[97, 98]⟩)) && f_2.1) && (n0_3.1 == 300)) && (e == 0))) rfl rfl (by decide) rfl (Ob_pick rfl rfl rfl rfl (pick_and _ _)) ?_; clear Z a; intro a Z
 refine s_runk tW4 Z 1 rfl rfl ?_; clear Z a; intro a Z
 refine s_end Z [0] rfl ?_; clear Z; intro Z
 refine p_then (wp_ret ?_)
 obtain rfl := some_in hF
 exact f_ret Z (run_results1 rfl Z rfl) ⟨rfl, I10, (H.sub [] rfl).eq rfl⟩

def F_law02_WireBack_k2 (i : Int) (rc : (Int × Ewire_Writer) → Option Bool) (w0_2 : Ewire_Writer) : Option Bool := chk (inI (i + 1)) (rc (i + 1, w0_2))

def F_law02_WireBack_k4 (i_2 : Int) (rc_2 : (Int × ByteArray × Int × Int × Bool) → Option Bool) (r_s_2 : ByteArray) (r_at__2 : Int) (r_e_2 : Int) (r_made_2 : Bool) : Option Bool := chk (inI (i_2 + 1)) (rc_2 (i_2 + 1, r_s_2, r_at__2, r_e_2, r_made_2))

def F_law02_WireBack_l3 (l : List Elaw02_Part) (behind : ByteArray) (d : ByteArray × Int) (rc_2 : (Int × ByteArray × Int × Int × Bool) → Option Bool) (sg : Int × ByteArray × Int × Int × Bool) : Option Bool := match sg with | (i_2, r_s, r_at_, r_e, r_made) => if (decide (i_2 < min (l.length : Int) 40)) = true then (chk ((0 : Int) ≤ i_2 ∧ i_2 < (l.length : Int)) (if (((l.getD (i_2).toNat default).k) == 0) = true then (chk ((0 : Int) ≤ i_2 ∧ i_2 < (l.length : Int)) ((F_wire_Reader_Num ({ s := r_s, at_ := r_at_, e := r_e, made := r_made } : Ewire_Reader) (max ((l.getD (i_2).toNat default).n) 0)).bind fun n0_3 => (if (n0_3.1 != (max ((l.getD (i_2).toNat default).n) 0)) = true then (some false) else (F_law02_WireBack_k4 i_2 rc_2 n0_3.2.s n0_3.2.at_ n0_3.2.e n0_3.2.made)))) else (if (((l.getD (i_2).toNat default).k) == 1) = true then ((F_wire_Reader_Big ({ s := r_s, at_ := r_at_, e := r_e, made := r_made } : Ewire_Reader)).bind fun b_2 => (chk ((0 : Int) ≤ i_2 ∧ i_2 < (l.length : Int)) (if (b_2.1 != ((l.getD (i_2).toNat default).b)) = true then (some false) else (F_law02_WireBack_k4 i_2 rc_2 b_2.2.s b_2.2.at_ b_2.2.e b_2.2.made)))) else (if (((l.getD (i_2).toNat default).k) == 2) = true then (chk ((0 : Int) ≤ i_2 ∧ i_2 < (l.length : Int)) ((F_wire_Reader_Text ({ s := r_s, at_ := r_at_, e := r_e, made := r_made } : Ewire_Reader) (((l.getD (i_2).toNat default).s).size : Int)).bind fun t_2 => (chk ((0 : Int) ≤ i_2 ∧ i_2 < (l.length : Int)) (if (!seqB t_2.1 ((l.getD (i_2).toNat default).s)) = true then (some false) else (F_law02_WireBack_k4 i_2 rc_2 t_2.2.s t_2.2.at_ t_2.2.e t_2.2.made))))) else ((F_wire_Reader_Flag ({ s := r_s, at_ := r_at_, e := r_e, made := r_made } : Ewire_Reader)).bind fun f_2 => (chk ((0 : Int) ≤ i_2 ∧ i_2 < (l.length : Int)) (if (!(f_2.1 == ((l.getD (i_2).toNat default).f))) = true then (some false) else (F_law02_WireBack_k4 i_2 rc_2 f_2.2.s f_2.2.at_ f_2.2.e f_2.2.made)))))))) else ((gif (d.2 == 0) (F_wire_Reader_Err ({ s := r_s, at_ := r_at_, e := r_e, made := r_made } : Ewire_Reader)) default).bind fun e => ((gif ((d.2 == 0) && (e == 0)) (F_wire_Reader_Left ({ s := r_s, at_ := r_at_, e := r_e, made := r_made } : Ewire_Reader)) default).bind fun l_2 => ((gif (((d.2 == 0) && (e == 0)) && (l_2 == (behind.size : Int))) (F_law02_awake) default).bind fun a0 => (some ((((d.2 == 0) && (e == 0)) && (l_2 == (behind.size : Int))) && a0)))))

def F_law02_WireBack_l1 (l : List Elaw02_Part) (behind : ByteArray) (rc : (Int × Ewire_Writer) → Option Bool) (sg : Int × Ewire_Writer) : Option Bool := match sg with | (i, w0) => if (decide (i < min (l.length : Int) 40)) = true then (chk ((0 : Int) ≤ i ∧ i < (l.length : Int)) (if (((l.getD (i).toNat default).k) == 0) = true then (chk ((0 : Int) ≤ i ∧ i < (l.length : Int)) ((F_wire_Writer_Num w0 (max ((l.getD (i).toNat default).n) 0)).bind fun n0_2 => (F_law02_WireBack_k2 i rc n0_2))) else (if (((l.getD (i).toNat default).k) == 1) = true then (chk ((0 : Int) ≤ i ∧ i < (l.length : Int)) ((F_wire_Writer_Big w0 ((l.getD (i).toNat default).b)).bind fun b => (F_law02_WireBack_k2 i rc b))) else (if (((l.getD (i).toNat default).k) == 2) = true then (chk ((0 : Int) ≤ i ∧ i < (l.length : Int)) ((F_wire_Writer_Text w0 ((l.getD (i).toNat default).s)).bind fun t => (F_law02_WireBack_k2 i rc t))) else (chk ((0 : Int) ≤ i ∧ i < (l.length : Int)) ((F_wire_Writer_Flag w0 ((l.getD (i).toNat default).f)).bind fun f => (F_law02_WireBack_k2 i rc f))))))) else ((F_wire_Writer_Done w0).bind fun d => (chk (d.1.size + behind.size ≤ maxLen) ((F_wire_Open (d.1 ++ behind)).bind fun o => (iter (F_law02_WireBack_l3 l behind d) FU (0, o.s, o.at_, o.e, o.made)))))

def F_law02_WireBack (l : List Elaw02_Part) (behind : ByteArray) : Option Bool := (F_wire_New).bind fun n0 => (iter (F_law02_WireBack_l1 l behind) FU (0, n0))

set_option maxHeartbeats 1000000 in
theorem c_law02_WireBack {I D : Dm} {l : List Elaw02_Part} {v1_l : Value} {behind : ByteArray} {w : World} {rr : Bool} (hF : F_law02_WireBack l behind = some rr) (H : St I D w [SlC NElaw02_Part v1_l l]) :
  Calls Try.prog 5 #[v1_l, .string behind] w (Ret fun vv w' => vv = .bool rr ∧ ∃ I', Hf I D w I' w' []) := by
 replace H := H.hf
 unfold F_law02_WireBack at hF
 refine f_enter 145 Try.func5 rfl rfl (Nat.le_of_ble_eq_true rfl) fun a Z => ?_
 replace Z := Z.sub (ts := [0, 1]) rfl
 refine wp_seq (f_region Z ?_); clear Z; intro Z
 refine s_runk tW4 Z 1 rfl rfl ?_; clear Z a; intro a Z
 refine s_end Z [0, 1, 4] rfl ?_; clear Z; intro Z
 refine p_then (wp_seq ?_)
 obtain ⟨n0, hx1, hF⟩ := bnd_in hF
 refine f_region Z ?_; clear Z; intro Z
 refine h_call Z H (js := []) rfl (caps := #[]) fn_7_YW4 rfl rfl rfl rfl rfl (by decide) rfl rfl (fun D1 hS => have hq := c_wire_New hx1 hS; hq) ?_; clear Z a; intro vv a w1 D2 hr hF2 Z
 obtain ⟨g1, rfl, I1, K⟩ := hr
 have H : Hf I D w I1 w1 [OEwire_Writer g1 n0, SlC NElaw02_Part v1_l l] := hF2 K
 clear hF2 K
 refine s_runk tW4 Z 1 rfl rfl ?_; clear Z a; intro a Z
 refine s_end Z [0, 1, 4, 5] rfl ?_; clear Z; intro Z
 refine p_then (wp_seq (f_region Z ?_)); clear Z; intro Z
 refine s_runk tW4 Z 1 rfl rfl ?_; clear Z a; intro a Z
 refine s_ob Z (v := .int .i64 (l.length : Int)) rfl rfl (by decide) rfl (Ob_slen tW4 rfl rfl rfl (H.slshape 1 rfl)) ?_; clear Z a; intro a Z
 refine s_runk tW4 Z 2 rfl rfl ?_; clear Z a; intro a Z
 refine s_end Z [0, 1, 4, 5, 6] rfl ?_; clear Z; intro Z
 refine p_then (wp_seq ?_)
 refine wp_seq (f_region Z ?_); clear Z; intro Z
 refine s_runk tW4 Z 1 rfl rfl ?_; clear Z a; intro a Z
 refine s_end Z [0, 1, 4, 5, 6, 7] rfl ?_; clear Z; intro Z
 refine p_then (wp_block ?_)
 refine f_iter hF (fun sg a' w' => match sg with | (i, w0) => Sl 145 [(0, v1_l), (1, .string behind), (4, .bool false), (5, .pointer (some ⟨g1, 0, none⟩)), (6, .int .i64 (min (l.length : Int) 40)), (7, .int .i64 i)] a' ∧ ∃ I2, Hf I D w I2 w' [OEwire_Writer g1 w0, SlC NElaw02_Part v1_l l]) ⟨Z.sub (ts := [0, 1, 4, 5, 6, 7]) rfl, ⟨I1, (H.sub [(0, false), (0, true)] rfl).eq rfl⟩⟩ ?_
 clear Z H hF a
 rintro rc ⟨i, w0⟩ a w2 ⟨Z, I2, H⟩ hF
 unfold F_law02_WireBack_l1 at hF
 try dsimp only at hF
 refine wp_seq ?_
 refine wp_seq (f_region Z ?_); clear Z; intro Z
 refine s_runk tW4 Z 3 rfl rfl ?_; clear Z a; intro a Z
 refine s_end Z [0, 1, 4, 5, 6, 7, 17, 18, 19] rfl ?_; clear Z; intro Z
 refine p_then ?_
 refine f_cond Z rfl (fun hc1 => ?_) (fun hc1 => ?_)
 ·replace hF := ite_t hc1 hF
  refine wp_skip ?_
  refine p_then ?_
  refine f_cut (fun a' w' => ∃ (w0_2 : Ewire_Writer), Sl 145 [(0, v1_l), (1, .string behind), (4, .bool false), (5, .pointer (some ⟨g1, 0, none⟩)), (6, .int .i64 (min (l.length : Int) 40)), (7, .int .i64 i), (17, .int .i64 i), (18, .int .i64 (min (l.length : Int) 40)), (19, .bool (decide (i < min (l.length : Int) 40))), (22, v1_l), (23, .int .i64 i), (24, .pointer (some ⟨blkOf v1_l, oofOf v1_l + (i).toNat * 5, none⟩)), (25, .pointer (some ⟨blkOf v1_l, oofOf v1_l + (i).toNat * 5, none⟩)), (26, .int .i64 ((l.getD (i).toNat default).k)), (34, .bool (((l.getD (i).toNat default).k) == 0)), (35, .bool (((l.getD (i).toNat default).k) == 0))] a' ∧ (∃ I2, Hf I D w I2 w' [OEwire_Writer g1 w0_2, SlC NElaw02_Part v1_l l]) ∧ F_law02_WireBack_k2 i rc w0_2 = some rr) ?_ ?_
  ·rintro a w3 ⟨w0_2, Z, ⟨I3, H⟩, hF⟩
   unfold F_law02_WireBack_k2 at hF
   try dsimp only at hF
   obtain ⟨hg1, hF⟩ := chk_in hF
   refine f_region Z ?_; clear Z; intro Z
   refine s_runk tW4 Z 1 rfl rfl ?_; clear Z a; intro a Z
   refine s_ob Z (v := .int .i64 (i + 1)) rfl rfl (by decide) rfl (Ob_add rfl rfl rfl (wrI hg1)) ?_; clear Z a; intro a Z
   refine s_runk tW4 Z 1 rfl rfl ?_; clear Z a; intro a Z
   refine s_end Z [0, 1, 4, 5, 6, 7, 17, 18, 19, 22, 23, 24, 25, 26, 34, 35, 20, 21] rfl ?_; clear Z; intro Z
   refine p_then ?_
   exact ⟨(i + 1, w0_2), ⟨Z.sub (ts := [0, 1, 4, 5, 6, 7]) rfl, ⟨I3, (H.sub [(0, false), (0, true)] rfl).eq rfl⟩⟩, hF⟩
  ·skip
   refine wp_block ?_
   refine wp_seq ?_
   obtain ⟨hg2, hF⟩ := chk_in hF
   refine f_region Z ?_; clear Z; intro Z
   refine s_runk tW4 Z 2 rfl rfl ?_; clear Z a; intro a Z
   refine s_ob Z (v := .pointer (some ⟨blkOf v1_l, oofOf v1_l + (i).toNat * 5, none⟩)) rfl rfl (by decide) rfl (Ob_sidx tW4 rfl rfl rfl rfl (slPl (H.sl 1 rfl) hg2) hg2) ?_; clear Z a; intro a Z
   refine s_runk tW4 Z 1 rfl rfl ?_; clear Z a; intro a Z
   refine s_ob Z (v := .int .i64 ((l.getD (i).toNat default).k)) rfl rfl (by decide) rfl (Ob_load tW4 rfl rfl rfl ((slFl (H.sl 1 rfl) hg2) 0 _ rfl)) ?_; clear Z a; intro a Z
   refine s_end Z [0, 1, 4, 5, 6, 7, 17, 18, 19, 22, 23, 24, 25, 26] rfl ?_; clear Z; intro Z
   refine p_then (wp_block ?_)
   refine wp_seq (f_region Z ?_); clear Z; intro Z
   refine s_runk tW4 Z 2 rfl rfl ?_; clear Z a; intro a Z
   refine s_end Z [0, 1, 4, 5, 6, 7, 17, 18, 19, 22, 23, 24, 25, 26, 35, 34] rfl ?_; clear Z; intro Z
   refine p_then ?_
   refine f_cond Z rfl (fun hc2 => ?_) (fun hc2 => ?_)
   ·replace hF := ite_t hc2 hF
    obtain ⟨hg3, hF⟩ := chk_in hF
    obtain ⟨n0_2, hx2, hF⟩ := bnd_in hF
    refine f_region Z ?_; clear Z; intro Z
    refine s_runk tW4 Z 3 rfl rfl ?_; clear Z a; intro a Z
    refine s_ob Z (v := .pointer (some ⟨blkOf v1_l, oofOf v1_l + (i).toNat * 5, none⟩)) rfl rfl (by decide) rfl (Ob_sidx tW4 rfl rfl rfl rfl (slPl (H.sl 1 rfl) hg3) hg3) ?_; clear Z a; intro a Z
    refine s_runk tW4 Z 1 rfl rfl ?_; clear Z a; intro a Z
    refine s_ob Z (v := .int .i64 ((l.getD (i).toNat default).n)) rfl rfl (by decide) rfl (Ob_load tW4 rfl rfl rfl ((slFl (H.sl 1 rfl) hg3) 1 _ rfl)) ?_; clear Z a; intro a Z
    refine s_runk tW4 Z 1 rfl rfl ?_; clear Z a; intro a Z
    refine h_call Z H (js := [(0, false)]) rfl (caps := #[]) fn_8_YW4 rfl rfl rfl rfl rfl (by decide) rfl rfl (fun D1 hS => have hq := c_wire_Writer_Num hx2 hS; hq) ?_; clear Z a; intro vv a w4 D2 hr hF2 Z
    obtain ⟨rfl, I4, K⟩ := hr
    have H : Hf I D w I4 w4 [OEwire_Writer g1 n0_2, SlC NElaw02_Part v1_l l] := hF2 K
    clear hF2 K
    refine s_runk tW4 Z 1 rfl rfl ?_; clear Z a; intro a Z
    refine s_end Z [0, 1, 4, 5, 6, 7, 17, 18, 19, 22, 23, 24, 25, 26, 35, 34, 36, 37, 38, 39, 40, 41, 42, 43] rfl ?_; clear Z; intro Z
    refine p_blk ?_
    refine p_blk ?_
    refine p_then ?_
    exact ⟨n0_2, Z.sub (ts := [0, 1, 4, 5, 6, 7, 17, 18, 19, 22, 23, 24, 25, 26, 34, 35]) rfl, ⟨I4, (H.sub [(0, false), (0, true)] rfl).eq rfl⟩, hF⟩
   ·replace hF := ite_f hc2 hF
    refine wp_seq (f_region Z ?_); clear Z; intro Z
    refine s_runk tW4 Z 2 rfl rfl ?_; clear Z a; intro a Z
    refine s_end Z [0, 1, 4, 5, 6, 7, 17, 18, 19, 22, 23, 24, 25, 26, 35, 34, 45, 44] rfl ?_; clear Z; intro Z
    refine p_then ?_
    refine f_cond Z rfl (fun hc3 => ?_) (fun hc3 => ?_)
    ·replace hF := ite_t hc3 hF
     obtain ⟨hg4, hF⟩ := chk_in hF
     obtain ⟨b, hx3, hF⟩ := bnd_in hF
     refine f_region Z ?_; clear Z; intro Z
     refine s_runk tW4 Z 3 rfl rfl ?_; clear Z a; intro a Z
     refine s_ob Z (v := .pointer (some ⟨blkOf v1_l, oofOf v1_l + (i).toNat * 5, none⟩)) rfl rfl (by decide) rfl (Ob_sidx tW4 rfl rfl rfl rfl (slPl (H.sl 1 rfl) hg4) hg4) ?_; clear Z a; intro a Z
     refine s_runk tW4 Z 1 rfl rfl ?_; clear Z a; intro a Z
     refine s_ob Z (v := .int .u64 ((l.getD (i).toNat default).b)) rfl rfl (by decide) rfl (Ob_load tW4 rfl rfl rfl ((slFl (H.sl 1 rfl) hg4) 2 _ rfl)) ?_; clear Z a; intro a Z
     refine h_call Z H (js := [(0, false)]) rfl (caps := #[]) fn_10_YW4 rfl rfl rfl rfl rfl (by decide) rfl rfl (fun D1 hS => have hq := c_wire_Writer_Big hx3 hS; hq) ?_; clear Z a; intro vv a w5 D2 hr hF2 Z
     obtain ⟨rfl, I5, K⟩ := hr
     have H : Hf I D w I5 w5 [OEwire_Writer g1 b, SlC NElaw02_Part v1_l l] := hF2 K
     clear hF2 K
     refine s_runk tW4 Z 1 rfl rfl ?_; clear Z a; intro a Z
     refine s_end Z [0, 1, 4, 5, 6, 7, 17, 18, 19, 22, 23, 24, 25, 26, 35, 34, 45, 44, 46, 47, 48, 49, 50, 51, 52] rfl ?_; clear Z; intro Z
     refine p_blk ?_
     refine p_blk ?_
     refine p_then ?_
     exact ⟨b, Z.sub (ts := [0, 1, 4, 5, 6, 7, 17, 18, 19, 22, 23, 24, 25, 26, 34, 35]) rfl, ⟨I5, (H.sub [(0, false), (0, true)] rfl).eq rfl⟩, hF⟩
    ·replace hF := ite_f hc3 hF
     refine wp_seq (f_region Z ?_); clear Z; intro Z
     refine s_runk tW4 Z 2 rfl rfl ?_; clear Z a; intro a Z
     refine s_end Z [0, 1, 4, 5, 6, 7, 17, 18, 19, 22, 23, 24, 25, 26, 35, 34, 45, 44, 54, 53] rfl ?_; clear Z; intro Z
     refine p_then ?_
     refine f_cond Z rfl (fun hc4 => ?_) (fun hc4 => ?_)
     ·replace hF := ite_t hc4 hF
      obtain ⟨hg5, hF⟩ := chk_in hF
      obtain ⟨t, hx4, hF⟩ := bnd_in hF
      refine f_region Z ?_; clear Z; intro Z
      refine s_runk tW4 Z 3 rfl rfl ?_; clear Z a; intro a Z
      refine s_ob Z (v := .pointer (some ⟨blkOf v1_l, oofOf v1_l + (i).toNat * 5, none⟩)) rfl rfl (by decide) rfl (Ob_sidx tW4 rfl rfl rfl rfl (slPl (H.sl 1 rfl) hg5) hg5) ?_; clear Z a; intro a Z
      refine s_runk tW4 Z 1 rfl rfl ?_; clear Z a; intro a Z
      refine s_ob Z (v := .string ((l.getD (i).toNat default).s)) rfl rfl (by decide) rfl (Ob_load tW4 rfl rfl rfl ((slFl (H.sl 1 rfl) hg5) 3 _ rfl)) ?_; clear Z a; intro a Z
      refine h_call Z H (js := [(0, false)]) rfl (caps := #[]) fn_12_YW4 rfl rfl rfl rfl rfl (by decide) rfl rfl (fun D1 hS => have hq := c_wire_Writer_Text hx4 hS; hq) ?_; clear Z a; intro vv a w6 D2 hr hF2 Z
      obtain ⟨rfl, I6, K⟩ := hr
      have H : Hf I D w I6 w6 [OEwire_Writer g1 t, SlC NElaw02_Part v1_l l] := hF2 K
      clear hF2 K
      refine s_runk tW4 Z 1 rfl rfl ?_; clear Z a; intro a Z
      refine s_end Z [0, 1, 4, 5, 6, 7, 17, 18, 19, 22, 23, 24, 25, 26, 35, 34, 45, 44, 54, 53, 55, 56, 57, 58, 59, 60, 61] rfl ?_; clear Z; intro Z
      refine p_blk ?_
      refine p_blk ?_
      refine p_then ?_
      exact ⟨t, Z.sub (ts := [0, 1, 4, 5, 6, 7, 17, 18, 19, 22, 23, 24, 25, 26, 34, 35]) rfl, ⟨I6, (H.sub [(0, false), (0, true)] rfl).eq rfl⟩, hF⟩
     ·replace hF := ite_f hc4 hF
      obtain ⟨hg6, hF⟩ := chk_in hF
      obtain ⟨f, hx5, hF⟩ := bnd_in hF
      refine f_region Z ?_; clear Z; intro Z
      refine s_runk tW4 Z 3 rfl rfl ?_; clear Z a; intro a Z
      refine s_ob Z (v := .pointer (some ⟨blkOf v1_l, oofOf v1_l + (i).toNat * 5, none⟩)) rfl rfl (by decide) rfl (Ob_sidx tW4 rfl rfl rfl rfl (slPl (H.sl 1 rfl) hg6) hg6) ?_; clear Z a; intro a Z
      refine s_runk tW4 Z 1 rfl rfl ?_; clear Z a; intro a Z
      refine s_ob Z (v := .bool ((l.getD (i).toNat default).f)) rfl rfl (by decide) rfl (Ob_load tW4 rfl rfl rfl ((slFl (H.sl 1 rfl) hg6) 4 _ rfl)) ?_; clear Z a; intro a Z
      refine h_call Z H (js := [(0, false)]) rfl (caps := #[]) fn_14_YW4 rfl rfl rfl rfl rfl (by decide) rfl rfl (fun D1 hS => have hq := c_wire_Writer_Flag hx5 hS; hq) ?_; clear Z a; intro vv a w7 D2 hr hF2 Z
      obtain ⟨rfl, I7, K⟩ := hr
      have H : Hf I D w I7 w7 [OEwire_Writer g1 f, SlC NElaw02_Part v1_l l] := hF2 K
      clear hF2 K
      refine s_runk tW4 Z 1 rfl rfl ?_; clear Z a; intro a Z
      refine s_end Z [0, 1, 4, 5, 6, 7, 17, 18, 19, 22, 23, 24, 25, 26, 35, 34, 45, 44, 54, 53, 27, 28, 29, 30, 31, 32, 33] rfl ?_; clear Z; intro Z
      refine p_blk ?_
      refine p_blk ?_
      refine p_then ?_
      exact ⟨f, Z.sub (ts := [0, 1, 4, 5, 6, 7, 17, 18, 19, 22, 23, 24, 25, 26, 34, 35]) rfl, ⟨I7, (H.sub [(0, false), (0, true)] rfl).eq rfl⟩, hF⟩
 ·replace hF := ite_f hc1 hF
  refine wp_exit ?_
  refine p_then_x ?_
  refine p_then_x ?_
  refine f_exit_here ?_
  refine p_then (wp_seq ?_)
  obtain ⟨d, hx6, hF⟩ := bnd_in hF
  refine f_region Z ?_; clear Z; intro Z
  refine s_runk tW4 Z 1 rfl rfl ?_; clear Z a; intro a Z
  refine h_call Z H (js := [(0, false)]) rfl (caps := #[]) fn_16_YW4 rfl rfl rfl rfl rfl (by decide) rfl rfl (fun D1 hS => have hq := c_wire_Writer_Done hx6 hS; hq) ?_; clear Z a; intro vv a w8 D2 hr hF2 Z
  obtain ⟨rfl, I8, K⟩ := hr
  have H : Hf I D w I8 w8 [SlC NElaw02_Part v1_l l] := hF2 K
  clear hF2 K
  refine s_runk tW4 Z 5 rfl rfl ?_; clear Z a; intro a Z
  refine s_end Z [0, 1, 4, 6, 8, 9] rfl ?_; clear Z; intro Z
  refine p_then (wp_seq ?_)
  obtain ⟨hg7, hF⟩ := chk_in hF
  obtain ⟨o, hx7, hF⟩ := bnd_in hF
  refine f_region Z ?_; clear Z; intro Z
  refine s_runk tW4 Z 2 rfl rfl ?_; clear Z a; intro a Z
  refine s_ob Z (v := .string (d.1 ++ behind)) rfl rfl (by decide) rfl (Ob_cat rfl rfl rfl hg7) ?_; clear Z a; intro a Z
  refine h_call Z H (js := []) rfl (caps := #[]) fn_19_YW4 rfl rfl rfl rfl rfl (by decide) rfl rfl (fun D1 hS => have hq := c_wire_Open hx7 hS; hq) ?_; clear Z a; intro vv a w9 D2 hr hF2 Z
  obtain ⟨g2, rfl, I9, K⟩ := hr
  have H : Hf I D w I9 w9 [BxC g2 65 [.string o.s, .int .i64 o.at_, .int .i64 o.e, .bool o.made], SlC NElaw02_Part v1_l l] := hF2 K
  clear hF2 K
  refine s_runk tW4 Z 1 rfl rfl ?_; clear Z a; intro a Z
  refine s_end Z [0, 1, 4, 6, 9, 10] rfl ?_; clear Z; intro Z
  refine p_then (wp_seq ?_)
  refine wp_seq (f_region Z ?_); clear Z; intro Z
  refine s_runk tW4 Z 1 rfl rfl ?_; clear Z a; intro a Z
  refine s_end Z [0, 1, 4, 6, 9, 10, 11] rfl ?_; clear Z; intro Z
  refine p_then (wp_block ?_)
  refine f_iter hF (fun sg a' w' => match sg with | (i_2, r_s, r_at_, r_e, r_made) => Sl 145 [(0, v1_l), (1, .string behind), (4, .bool false), (6, .int .i64 (min (l.length : Int) 40)), (9, .int .i64 d.2), (10, .pointer (some ⟨g2, 0, none⟩)), (11, .int .i64 i_2)] a' ∧ ∃ I2, Hf I D w I2 w' [BxC g2 65 [.string r_s, .int .i64 r_at_, .int .i64 r_e, .bool r_made], SlC NElaw02_Part v1_l l]) ⟨Z.sub (ts := [0, 1, 4, 6, 9, 10, 11]) rfl, ⟨I9, (H.sub [(0, false), (0, true)] rfl).eq rfl⟩⟩ ?_
  clear Z H hF a
  rintro rc_2 ⟨i_2, r_s, r_at_, r_e, r_made⟩ a w10 ⟨Z, I10, H⟩ hF
  unfold F_law02_WireBack_l3 at hF
  try dsimp only at hF
  refine wp_seq ?_
  refine wp_seq (f_region Z ?_); clear Z; intro Z
  refine s_runk tW4 Z 3 rfl rfl ?_; clear Z a; intro a Z
  refine s_end Z [0, 1, 4, 6, 9, 10, 11, 71, 72, 73] rfl ?_; clear Z; intro Z
  refine p_then ?_
  refine f_cond Z rfl (fun hc5 => ?_) (fun hc5 => ?_)
  ·replace hF := ite_t hc5 hF
   refine wp_skip ?_
   refine p_then ?_
   refine f_cut (fun a' w' => ∃ (r_s_2 : ByteArray) (r_at__2 : Int) (r_e_2 : Int) (r_made_2 : Bool), Sl 145 [(0, v1_l), (1, .string behind), (4, .bool false), (6, .int .i64 (min (l.length : Int) 40)), (9, .int .i64 d.2), (10, .pointer (some ⟨g2, 0, none⟩)), (11, .int .i64 i_2), (71, .int .i64 i_2), (72, .int .i64 (min (l.length : Int) 40)), (73, .bool (decide (i_2 < min (l.length : Int) 40))), (76, v1_l), (77, .int .i64 i_2), (78, .pointer (some ⟨blkOf v1_l, oofOf v1_l + (i_2).toNat * 5, none⟩)), (79, .pointer (some ⟨blkOf v1_l, oofOf v1_l + (i_2).toNat * 5, none⟩)), (80, .int .i64 ((l.getD (i_2).toNat default).k)), (89, .bool (((l.getD (i_2).toNat default).k) == 0)), (90, .bool (((l.getD (i_2).toNat default).k) == 0))] a' ∧ (∃ I2, Hf I D w I2 w' [BxC g2 65 [.string r_s_2, .int .i64 r_at__2, .int .i64 r_e_2, .bool r_made_2], SlC NElaw02_Part v1_l l]) ∧ F_law02_WireBack_k4 i_2 rc_2 r_s_2 r_at__2 r_e_2 r_made_2 = some rr) ?_ ?_
   ·rintro a w11 ⟨r_s_2, r_at__2, r_e_2, r_made_2, Z, ⟨I11, H⟩, hF⟩
    unfold F_law02_WireBack_k4 at hF
    try dsimp only at hF
    obtain ⟨hg8, hF⟩ := chk_in hF
    refine f_region Z ?_; clear Z; intro Z
    refine s_runk tW4 Z 1 rfl rfl ?_; clear Z a; intro a Z
    refine s_ob Z (v := .int .i64 (i_2 + 1)) rfl rfl (by decide) rfl (Ob_add rfl rfl rfl (wrI hg8)) ?_; clear Z a; intro a Z
    refine s_runk tW4 Z 1 rfl rfl ?_; clear Z a; intro a Z
    refine s_end Z [0, 1, 4, 6, 9, 10, 11, 71, 72, 73, 76, 77, 78, 79, 80, 89, 90, 74, 75] rfl ?_; clear Z; intro Z
    refine p_then ?_
    exact ⟨(i_2 + 1, r_s_2, r_at__2, r_e_2, r_made_2), ⟨Z.sub (ts := [0, 1, 4, 6, 9, 10, 11]) rfl, ⟨I11, (H.sub [(0, false), (0, true)] rfl).eq rfl⟩⟩, hF⟩
   ·skip
    refine wp_block ?_
    refine wp_seq ?_
    obtain ⟨hg9, hF⟩ := chk_in hF
    refine f_region Z ?_; clear Z; intro Z
    refine s_runk tW4 Z 2 rfl rfl ?_; clear Z a; intro a Z
    refine s_ob Z (v := .pointer (some ⟨blkOf v1_l, oofOf v1_l + (i_2).toNat * 5, none⟩)) rfl rfl (by decide) rfl (Ob_sidx tW4 rfl rfl rfl rfl (slPl (H.sl 1 rfl) hg9) hg9) ?_; clear Z a; intro a Z
    refine s_runk tW4 Z 1 rfl rfl ?_; clear Z a; intro a Z
    refine s_ob Z (v := .int .i64 ((l.getD (i_2).toNat default).k)) rfl rfl (by decide) rfl (Ob_load tW4 rfl rfl rfl ((slFl (H.sl 1 rfl) hg9) 0 _ rfl)) ?_; clear Z a; intro a Z
    refine s_end Z [0, 1, 4, 6, 9, 10, 11, 71, 72, 73, 76, 77, 78, 79, 80] rfl ?_; clear Z; intro Z
    refine p_then (wp_block ?_)
    refine wp_seq (f_region Z ?_); clear Z; intro Z
    refine s_runk tW4 Z 2 rfl rfl ?_; clear Z a; intro a Z
    refine s_end Z [0, 1, 4, 6, 9, 10, 11, 71, 72, 73, 76, 77, 78, 79, 80, 90, 89] rfl ?_; clear Z; intro Z
    refine p_then ?_
    refine f_cond Z rfl (fun hc6 => ?_) (fun hc6 => ?_)
    ·replace hF := ite_t hc6 hF
     refine wp_seq ?_
     obtain ⟨hg10, hF⟩ := chk_in hF
     refine f_region Z ?_; clear Z; intro Z
     refine s_runk tW4 Z 2 rfl rfl ?_; clear Z a; intro a Z
     refine s_ob Z (v := .pointer (some ⟨blkOf v1_l, oofOf v1_l + (i_2).toNat * 5, none⟩)) rfl rfl (by decide) rfl (Ob_sidx tW4 rfl rfl rfl rfl (slPl (H.sl 1 rfl) hg10) hg10) ?_; clear Z a; intro a Z
     refine s_runk tW4 Z 1 rfl rfl ?_; clear Z a; intro a Z
     refine s_ob Z (v := .int .i64 ((l.getD (i_2).toNat default).n)) rfl rfl (by decide) rfl (Ob_load tW4 rfl rfl rfl ((slFl (H.sl 1 rfl) hg10) 1 _ rfl)) ?_; clear Z a; intro a Z
     refine s_runk tW4 Z 2 rfl rfl ?_; clear Z a; intro a Z
     refine s_end Z [0, 1, 4, 6, 9, 10, 11, 71, 72, 73, 76, 77, 78, 79, 80, 90, 89, 91, 92, 93, 94, 95, 96, 12] rfl ?_; clear Z; intro Z
     refine p_then (wp_seq ?_)
     obtain ⟨n0_3, hx8, hF⟩ := bnd_in hF
     refine f_region Z ?_; clear Z; intro Z
     refine s_runk tW4 Z 2 rfl rfl ?_; clear Z a; intro a Z
     refine h_call Z H (js := [(0, false)]) rfl (caps := #[]) fn_20_YW4 rfl rfl rfl rfl rfl (by decide) rfl rfl (fun D1 hS => have hq := c_wire_Reader_Num hx8 hS; hq) ?_; clear Z a; intro vv a w12 D2 hr hF2 Z
     obtain ⟨rfl, I12, K⟩ := hr
     have H : Hf I D w I12 w12 [BxC g2 65 (cEwire_Reader n0_3.2), SlC NElaw02_Part v1_l l] := hF2 K
     clear hF2 K
     refine s_runk tW4 Z 2 rfl rfl ?_; clear Z a; intro a Z
     refine s_end Z [0, 1, 4, 6, 9, 10, 11, 71, 72, 73, 76, 77, 78, 79, 80, 90, 89, 91, 92, 93, 94, 95, 96, 12, 97, 98, 99, 100, 101] rfl ?_; clear Z; intro Z
     refine p_then ?_
     refine f_cond Z rfl (fun hc7 => ?_) (fun hc7 => ?_)
     ·replace hF := ite_t hc7 hF
      refine wp_seq (f_region Z ?_); clear Z; intro Z
      refine s_runk tW4 Z 1 rfl rfl ?_; clear Z a; intro a Z
      refine s_end Z [0, 1, 4, 6, 9, 10, 11, 71, 72, 73, 76, 77, 78, 79, 80, 90, 89, 91, 92, 93, 94, 95, 96, 12, 97, 98, 99, 100, 101] rfl ?_; clear Z; intro Z
      refine p_then (wp_ret ?_)
      refine p_blk_r ?_
      refine p_blk_r ?_
      refine p_then_r ?_
      refine p_then_r ?_
      refine p_blk_r ?_
      refine p_then_r ?_
      obtain rfl := some_in hF
      exact f_ret Z (run_results1 rfl Z rfl) ⟨rfl, I12, (H.sub [] rfl).eq rfl⟩
     ·replace hF := ite_f hc7 hF
      refine wp_skip ?_
      refine p_blk ?_
      refine p_blk ?_
      refine p_then ?_
      exact ⟨n0_3.2.s, n0_3.2.at_, n0_3.2.e, n0_3.2.made, Z.sub (ts := [0, 1, 4, 6, 9, 10, 11, 71, 72, 73, 76, 77, 78, 79, 80, 89, 90]) rfl, ⟨I12, (H.sub [(0, false), (0, true)] rfl).eq rfl⟩, hF⟩
    ·replace hF := ite_f hc6 hF
     refine wp_seq (f_region Z ?_); clear Z; intro Z
     refine s_runk tW4 Z 2 rfl rfl ?_; clear Z a; intro a Z
     refine s_end Z [0, 1, 4, 6, 9, 10, 11, 71, 72, 73, 76, 77, 78, 79, 80, 90, 89, 103, 102] rfl ?_; clear Z; intro Z
     refine p_then ?_
     refine f_cond Z rfl (fun hc8 => ?_) (fun hc8 => ?_)
     ·replace hF := ite_t hc8 hF
      refine wp_seq ?_
      obtain ⟨b_2, hx9, hF⟩ := bnd_in hF
      obtain ⟨hg11, hF⟩ := chk_in hF
      refine f_regionL Z (by kernel_rfl) (by kernel_rfl) (by decide) (by decide) [1] [(0, 0, 0), (1, 0, 0), (0, 0, 1), (0, 0, 1), (12, 0, 1), (28, 0, 1), (60, 0, 1), (127, 1, 1)] (by kernel_rfl) (fun jj vv => match jj with | 0 => vv = .pointer (some ⟨g2, 0, none⟩) | 1 => vv = .int .u64 b_2.1 | 2 => vv = v1_l | 3 => vv = .int .i64 i_2 | 4 => vv = .pointer (some ⟨blkOf v1_l, oofOf v1_l + (i_2).toNat * 5, none⟩) | 5 => vv = .pointer (some ⟨blkOf v1_l, oofOf v1_l + (i_2).toNat * 5 + 2, none⟩) | 6 => vv = .int .u64 ((l.getD (i_2).toNat default).b) | 7 => vv = .bool (b_2.1 != ((l.getD (i_2).toNat default).b)) | _ => True) (fun ss vals1 xw => match ss with | 0 => Gx I D w I10 w10 xw [BxC g2 65 [.string r_s, .int .i64 r_at_, .int .i64 r_e, .bool r_made], SlC NElaw02_Part v1_l l] | _ => Gx I D w I10 w10 xw [BxC g2 65 (cEwire_Reader b_2.2), SlC NElaw02_Part v1_l l]) (fun _ => Gx.start H) ?_ ?_
      ·intro fr hfr hfe
       refine .cons (fun ss hlo hhi vals1 xw hG hV => ?_) ?_
       ·obtain rfl : ss = 0 := Nat.le_antisymm hhi hlo
        rw [← hfe]
        have hS := (hfr vals1).sub (ts := [10]) (S' := [(10, .pointer (some ⟨g2, 0, none⟩))]) rfl
        exact L_val hS rfl (Ob_c tW4 rfl) ⟨rfl, hG⟩
       refine .cons (fun ss hlo hhi vals1 xw hG hV => ?_) ?_
       ·obtain rfl : ss = 0 := Nat.le_antisymm hhi hlo
        rw [← hfe]
        have hS := (hfr vals1).sub (ts := [104]) (S' := [(104, vals1 0)]) rfl
        replace hS := hS.conv (t := 104) rfl (show (vals1 0) = .pointer (some ⟨g2, 0, none⟩) from hV 0 (by decide))
        obtain ⟨I2, hI2, H⟩ := Gx.ex hG
        refine L_hcall H (js := [(0, false)]) rfl (caps := #[]) hS fn_22_YW4 rfl rfl rfl rfl rfl (fun D1 hS => have hq := c_wire_Reader_Big hx9 hS; hq) fun _ yw D1 hr hF2 => ?_
        obtain ⟨rfl, I3, K⟩ := hr
        obtain ⟨hK, H2⟩ := hF2 K
        exact ⟨rfl, Gx.go hG hI2 hK K.imm H2⟩
       refine .cons (fun ss hlo hhi vals1 xw hG hV => ?_) ?_
       ·obtain rfl | rfl : ss = 0 ∨ ss = 1 := st1 hlo hhi
        all_goals
        ·rw [← hfe]
         have hS := (hfr vals1).sub (ts := [0]) (S' := [(0, v1_l)]) rfl
         exact L_val hS rfl (Ob_c tW4 rfl) ⟨rfl, hG⟩
       refine .cons (fun ss hlo hhi vals1 xw hG hV => ?_) ?_
       ·obtain rfl | rfl : ss = 0 ∨ ss = 1 := st1 hlo hhi
        all_goals
        ·rw [← hfe]
         have hS := (hfr vals1).sub (ts := [11]) (S' := [(11, .int .i64 i_2)]) rfl
         exact L_val hS rfl (Ob_c tW4 rfl) ⟨rfl, hG⟩
       refine .cons (fun ss hlo hhi vals1 xw hG hV => ?_) ?_
       ·obtain rfl | rfl : ss = 0 ∨ ss = 1 := st1 hlo hhi
        all_goals
        ·rw [← hfe]
         have hS := (hfr vals1).sub (ts := [106, 107]) (S' := [(106, vals1 2), (107, vals1 3)]) rfl
         replace hS := hS.conv (t := 106) rfl (show (vals1 2) = v1_l from hV 2 (by decide))
         replace hS := hS.conv (t := 107) rfl (show (vals1 3) = .int .i64 i_2 from hV 3 (by decide))
         obtain ⟨I2, hI2, H⟩ := Gx.ex hG
         exact L_val hS rfl (Ob_sidx tW4 rfl rfl rfl rfl (slPl (H.sl 1 rfl) hg11) hg11) ⟨rfl, hG⟩
       refine .cons (fun ss hlo hhi vals1 xw hG hV => ?_) ?_
       ·obtain rfl | rfl : ss = 0 ∨ ss = 1 := st1 hlo hhi
        all_goals
        ·rw [← hfe]
         have hS := (hfr vals1).sub (ts := [108]) (S' := [(108, vals1 4)]) rfl
         replace hS := hS.conv (t := 108) rfl (show (vals1 4) = .pointer (some ⟨blkOf v1_l, oofOf v1_l + (i_2).toNat * 5, none⟩) from hV 4 (by decide))
         exact L_val hS rfl (Ob_c tW4 rfl) ⟨rfl, hG⟩
       refine .cons (fun ss hlo hhi vals1 xw hG hV => ?_) ?_
       ·obtain rfl | rfl : ss = 0 ∨ ss = 1 := st1 hlo hhi
        all_goals
        ·rw [← hfe]
         have hS := (hfr vals1).sub (ts := [109]) (S' := [(109, vals1 5)]) rfl
         replace hS := hS.conv (t := 109) rfl (show (vals1 5) = .pointer (some ⟨blkOf v1_l, oofOf v1_l + (i_2).toNat * 5 + 2, none⟩) from hV 5 (by decide))
         obtain ⟨I2, hI2, H⟩ := Gx.ex hG
         exact L_val hS rfl (Ob_load tW4 rfl rfl rfl ((slFl (H.sl 1 rfl) hg11) 2 _ rfl)) ⟨rfl, hG⟩
       refine .cons (fun ss hlo hhi vals1 xw hG hV => ?_) ?_
       ·obtain rfl : ss = 1 := Nat.le_antisymm hhi hlo
        rw [← hfe]
        have hS := (hfr vals1).sub (ts := [105, 110]) (S' := [(105, vals1 1), (110, vals1 6)]) rfl
        replace hS := hS.conv (t := 105) rfl (show (vals1 1) = .int .u64 b_2.1 from hV 1 (by decide))
        replace hS := hS.conv (t := 110) rfl (show (vals1 6) = .int .u64 ((l.getD (i_2).toNat default).b) from hV 6 (by decide))
        exact L_val hS rfl (Ob_c tW4 rfl) ⟨rfl, hG⟩
       exact .nil
      ·intro vals1 a w13 Z hG hV
       replace Z := Z.sub (ts := [0, 1, 4, 6, 9, 10, 11, 71, 72, 73, 76, 77, 78, 79, 80, 90, 89, 103, 102, 104, 105, 106, 107, 108, 109, 110, 111]) (S' := [(0, v1_l), (1, .string behind), (4, .bool false), (6, .int .i64 (min (l.length : Int) 40)), (9, .int .i64 d.2), (10, .pointer (some ⟨g2, 0, none⟩)), (11, .int .i64 i_2), (71, .int .i64 i_2), (72, .int .i64 (min (l.length : Int) 40)), (73, .bool (decide (i_2 < min (l.length : Int) 40))), (76, v1_l), (77, .int .i64 i_2), (78, .pointer (some ⟨blkOf v1_l, oofOf v1_l + (i_2).toNat * 5, none⟩)), (79, .pointer (some ⟨blkOf v1_l, oofOf v1_l + (i_2).toNat * 5, none⟩)), (80, .int .i64 ((l.getD (i_2).toNat default).k)), (90, .bool (((l.getD (i_2).toNat default).k) == 0)), (89, .bool (((l.getD (i_2).toNat default).k) == 0)), (103, .bool (((l.getD (i_2).toNat default).k) == 1)), (102, .bool (((l.getD (i_2).toNat default).k) == 1)), (104, vals1 0), (105, vals1 1), (106, vals1 2), (107, vals1 3), (108, vals1 4), (109, vals1 5), (110, vals1 6), (111, vals1 7)]) rfl
       replace Z := Z.conv (t := 104) rfl (show (vals1 0) = .pointer (some ⟨g2, 0, none⟩) from hV 0 (by decide))
       replace Z := Z.conv (t := 105) rfl (show (vals1 1) = .int .u64 b_2.1 from hV 1 (by decide))
       replace Z := Z.conv (t := 106) rfl (show (vals1 2) = v1_l from hV 2 (by decide))
       replace Z := Z.conv (t := 107) rfl (show (vals1 3) = .int .i64 i_2 from hV 3 (by decide))
       replace Z := Z.conv (t := 108) rfl (show (vals1 4) = .pointer (some ⟨blkOf v1_l, oofOf v1_l + (i_2).toNat * 5, none⟩) from hV 4 (by decide))
       replace Z := Z.conv (t := 109) rfl (show (vals1 5) = .pointer (some ⟨blkOf v1_l, oofOf v1_l + (i_2).toNat * 5 + 2, none⟩) from hV 5 (by decide))
       replace Z := Z.conv (t := 110) rfl (show (vals1 6) = .int .u64 ((l.getD (i_2).toNat default).b) from hV 6 (by decide))
       replace Z := Z.conv (t := 111) rfl (show (vals1 7) = .bool (b_2.1 != ((l.getD (i_2).toNat default).b)) from hV 7 (by decide))
       obtain ⟨I13, _, H⟩ := Gx.ex hG
       clear hG hV
       replace Z := Z.sub (ts := [0, 1, 4, 6, 9, 10, 11, 71, 72, 73, 76, 77, 78, 79, 80, 90, 89, 103, 102, 104, 105, 106, 107, 108, 109, 110, 111]) rfl
       replace H : Hf I D w I13 w13 [BxC g2 65 (cEwire_Reader b_2.2), SlC NElaw02_Part v1_l l] := H
       refine p_then ?_
       refine f_cond Z rfl (fun hc9 => ?_) (fun hc9 => ?_)
       ·replace hF := ite_t hc9 hF
        refine wp_seq (f_region Z ?_); clear Z; intro Z
        refine s_runk tW4 Z 1 rfl rfl ?_; clear Z a; intro a Z
        refine s_end Z [0, 1, 4, 6, 9, 10, 11, 71, 72, 73, 76, 77, 78, 79, 80, 90, 89, 103, 102, 104, 105, 106, 107, 108, 109, 110, 111] rfl ?_; clear Z; intro Z
        refine p_then (wp_ret ?_)
        refine p_blk_r ?_
        refine p_blk_r ?_
        refine p_then_r ?_
        refine p_then_r ?_
        refine p_blk_r ?_
        refine p_then_r ?_
        obtain rfl := some_in hF
        exact f_ret Z (run_results1 rfl Z rfl) ⟨rfl, I13, (H.sub [] rfl).eq rfl⟩
       ·replace hF := ite_f hc9 hF
        refine wp_skip ?_
        refine p_blk ?_
        refine p_blk ?_
        refine p_then ?_
        exact ⟨b_2.2.s, b_2.2.at_, b_2.2.e, b_2.2.made, Z.sub (ts := [0, 1, 4, 6, 9, 10, 11, 71, 72, 73, 76, 77, 78, 79, 80, 89, 90]) rfl, ⟨I13, (H.sub [(0, false), (0, true)] rfl).eq rfl⟩, hF⟩
     ·replace hF := ite_f hc8 hF
      refine wp_seq (f_region Z ?_); clear Z; intro Z
      refine s_runk tW4 Z 2 rfl rfl ?_; clear Z a; intro a Z
      refine s_end Z [0, 1, 4, 6, 9, 10, 11, 71, 72, 73, 76, 77, 78, 79, 80, 90, 89, 103, 102, 113, 112] rfl ?_; clear Z; intro Z
      refine p_then ?_
      refine f_cond Z rfl (fun hc10 => ?_) (fun hc10 => ?_)
      ·replace hF := ite_t hc10 hF
       refine wp_seq ?_
       obtain ⟨hg12, hF⟩ := chk_in hF
       obtain ⟨t_2, hx10, hF⟩ := bnd_in hF
       obtain ⟨hg13, hF⟩ := chk_in hF
       refine f_regionL Z (by kernel_rfl) (by kernel_rfl) (by decide) (by decide) [7] [(0, 0, 0), (0, 0, 0), (0, 0, 0), (6, 0, 0), (14, 0, 0), (30, 0, 0), (62, 0, 0), (127, 0, 0), (0, 0, 1), (0, 0, 1), (768, 0, 1), (1792, 0, 1), (3840, 0, 1), (8191, 1, 1)] (by kernel_rfl) (fun jj vv => cond (Nat.blt jj 7) (cond (Nat.blt jj 3) (cond (Nat.blt jj 1) (vv = .pointer (some ⟨g2, 0, none⟩)) (cond (Nat.blt jj 2) (vv = v1_l) (vv = .int .i64 i_2))) (cond (Nat.blt jj 5) (cond (Nat.blt jj 4) (vv = .pointer (some ⟨blkOf v1_l, oofOf v1_l + (i_2).toNat * 5, none⟩)) (vv = .pointer (some ⟨blkOf v1_l, oofOf v1_l + (i_2).toNat * 5 + 3, none⟩))) (cond (Nat.blt jj 6) (vv = .string ((l.getD (i_2).toNat default).s)) (vv = .int .i64 (((l.getD (i_2).toNat default).s).size : Int))))) (cond (Nat.blt jj 10) (cond (Nat.blt jj 8) (vv = .string t_2.1) (cond (Nat.blt jj 9) (vv = v1_l) (vv = .int .i64 i_2))) (cond (Nat.blt jj 12) (cond (Nat.blt jj 11) (vv = .pointer (some ⟨blkOf v1_l, oofOf v1_l + (i_2).toNat * 5, none⟩)) (vv = .pointer (some ⟨blkOf v1_l, oofOf v1_l + (i_2).toNat * 5 + 3, none⟩))) (cond (Nat.blt jj 13) (vv = .string ((l.getD (i_2).toNat default).s)) (vv = .bool (!seqB t_2.1 ((l.getD (i_2).toNat default).s))))))) (fun ss vals2 xw => match ss with | 0 => Gx I D w I10 w10 xw [BxC g2 65 [.string r_s, .int .i64 r_at_, .int .i64 r_e, .bool r_made], SlC NElaw02_Part v1_l l] | _ => Gx I D w I10 w10 xw [BxC g2 65 (cEwire_Reader t_2.2), SlC NElaw02_Part v1_l l]) (fun _ => Gx.start H) ?_ ?_
       ·intro fr hfr hfe
        refine .cons (fun ss hlo hhi vals2 xw hG hV => ?_) ?_
        ·obtain rfl : ss = 0 := Nat.le_antisymm hhi hlo
         rw [← hfe]
         have hS := (hfr vals2).sub (ts := [10]) (S' := [(10, .pointer (some ⟨g2, 0, none⟩))]) rfl
         exact L_val hS rfl (Ob_c tW4 rfl) ⟨rfl, hG⟩
        refine .cons (fun ss hlo hhi vals2 xw hG hV => ?_) ?_
        ·obtain rfl : ss = 0 := Nat.le_antisymm hhi hlo
         rw [← hfe]
         have hS := (hfr vals2).sub (ts := [0]) (S' := [(0, v1_l)]) rfl
         exact L_val hS rfl (Ob_c tW4 rfl) ⟨rfl, hG⟩
        refine .cons (fun ss hlo hhi vals2 xw hG hV => ?_) ?_
        ·obtain rfl : ss = 0 := Nat.le_antisymm hhi hlo
         rw [← hfe]
         have hS := (hfr vals2).sub (ts := [11]) (S' := [(11, .int .i64 i_2)]) rfl
         exact L_val hS rfl (Ob_c tW4 rfl) ⟨rfl, hG⟩
        refine .cons (fun ss hlo hhi vals2 xw hG hV => ?_) ?_
        ·obtain rfl : ss = 0 := Nat.le_antisymm hhi hlo
         rw [← hfe]
         have hS := (hfr vals2).sub (ts := [115, 116]) (S' := [(115, vals2 1), (116, vals2 2)]) rfl
         replace hS := hS.conv (t := 115) rfl (show (vals2 1) = v1_l from hV 1 (by decide))
         replace hS := hS.conv (t := 116) rfl (show (vals2 2) = .int .i64 i_2 from hV 2 (by decide))
         obtain ⟨I2, hI2, H⟩ := Gx.ex hG
         exact L_val hS rfl (Ob_sidx tW4 rfl rfl rfl rfl (slPl (H.sl 1 rfl) hg12) hg12) ⟨rfl, hG⟩
        refine .cons (fun ss hlo hhi vals2 xw hG hV => ?_) ?_
        ·obtain rfl : ss = 0 := Nat.le_antisymm hhi hlo
         rw [← hfe]
         have hS := (hfr vals2).sub (ts := [117]) (S' := [(117, vals2 3)]) rfl
         replace hS := hS.conv (t := 117) rfl (show (vals2 3) = .pointer (some ⟨blkOf v1_l, oofOf v1_l + (i_2).toNat * 5, none⟩) from hV 3 (by decide))
         exact L_val hS rfl (Ob_c tW4 rfl) ⟨rfl, hG⟩
        refine .cons (fun ss hlo hhi vals2 xw hG hV => ?_) ?_
        ·obtain rfl : ss = 0 := Nat.le_antisymm hhi hlo
         rw [← hfe]
         have hS := (hfr vals2).sub (ts := [118]) (S' := [(118, vals2 4)]) rfl
         replace hS := hS.conv (t := 118) rfl (show (vals2 4) = .pointer (some ⟨blkOf v1_l, oofOf v1_l + (i_2).toNat * 5 + 3, none⟩) from hV 4 (by decide))
         obtain ⟨I2, hI2, H⟩ := Gx.ex hG
         exact L_val hS rfl (Ob_load tW4 rfl rfl rfl ((slFl (H.sl 1 rfl) hg12) 3 _ rfl)) ⟨rfl, hG⟩
        refine .cons (fun ss hlo hhi vals2 xw hG hV => ?_) ?_
        ·obtain rfl : ss = 0 := Nat.le_antisymm hhi hlo
         rw [← hfe]
         have hS := (hfr vals2).sub (ts := [119]) (S' := [(119, vals2 5)]) rfl
         replace hS := hS.conv (t := 119) rfl (show (vals2 5) = .string ((l.getD (i_2).toNat default).s) from hV 5 (by decide))
         exact L_val hS rfl (Ob_c tW4 rfl) ⟨rfl, hG⟩
        refine .cons (fun ss hlo hhi vals2 xw hG hV => ?_) ?_
        ·obtain rfl : ss = 0 := Nat.le_antisymm hhi hlo
         rw [← hfe]
         have hS := (hfr vals2).sub (ts := [114, 120]) (S' := [(114, vals2 0), (120, vals2 6)]) rfl
         replace hS := hS.conv (t := 114) rfl (show (vals2 0) = .pointer (some ⟨g2, 0, none⟩) from hV 0 (by decide))
         replace hS := hS.conv (t := 120) rfl (show (vals2 6) = .int .i64 (((l.getD (i_2).toNat default).s).size : Int) from hV 6 (by decide))
         obtain ⟨I2, hI2, H⟩ := Gx.ex hG
         refine L_hcall H (js := [(0, false)]) rfl (caps := #[]) hS fn_24_YW4 rfl rfl rfl rfl rfl (fun D1 hS => have hq := c_wire_Reader_Text hx10 hS; hq) fun _ yw D1 hr hF2 => ?_
         obtain ⟨rfl, I3, K⟩ := hr
         obtain ⟨hK, H2⟩ := hF2 K
         exact ⟨rfl, Gx.go hG hI2 hK K.imm H2⟩
        refine .cons (fun ss hlo hhi vals2 xw hG hV => ?_) ?_
        ·obtain rfl | rfl : ss = 0 ∨ ss = 1 := st1 hlo hhi
         all_goals
         ·rw [← hfe]
          have hS := (hfr vals2).sub (ts := [0]) (S' := [(0, v1_l)]) rfl
          exact L_val hS rfl (Ob_c tW4 rfl) ⟨rfl, hG⟩
        refine .cons (fun ss hlo hhi vals2 xw hG hV => ?_) ?_
        ·obtain rfl | rfl : ss = 0 ∨ ss = 1 := st1 hlo hhi
         all_goals
         ·rw [← hfe]
          have hS := (hfr vals2).sub (ts := [11]) (S' := [(11, .int .i64 i_2)]) rfl
          exact L_val hS rfl (Ob_c tW4 rfl) ⟨rfl, hG⟩
        refine .cons (fun ss hlo hhi vals2 xw hG hV => ?_) ?_
        ·obtain rfl | rfl : ss = 0 ∨ ss = 1 := st1 hlo hhi
         all_goals
         ·rw [← hfe]
          have hS := (hfr vals2).sub (ts := [122, 123]) (S' := [(122, vals2 8), (123, vals2 9)]) rfl
          replace hS := hS.conv (t := 122) rfl (show (vals2 8) = v1_l from hV 8 (by decide))
          replace hS := hS.conv (t := 123) rfl (show (vals2 9) = .int .i64 i_2 from hV 9 (by decide))
          obtain ⟨I2, hI2, H⟩ := Gx.ex hG
          exact L_val hS rfl (Ob_sidx tW4 rfl rfl rfl rfl (slPl (H.sl 1 rfl) hg13) hg13) ⟨rfl, hG⟩
        refine .cons (fun ss hlo hhi vals2 xw hG hV => ?_) ?_
        ·obtain rfl | rfl : ss = 0 ∨ ss = 1 := st1 hlo hhi
         all_goals
         ·rw [← hfe]
          have hS := (hfr vals2).sub (ts := [124]) (S' := [(124, vals2 10)]) rfl
          replace hS := hS.conv (t := 124) rfl (show (vals2 10) = .pointer (some ⟨blkOf v1_l, oofOf v1_l + (i_2).toNat * 5, none⟩) from hV 10 (by decide))
          exact L_val hS rfl (Ob_c tW4 rfl) ⟨rfl, hG⟩
        refine .cons (fun ss hlo hhi vals2 xw hG hV => ?_) ?_
        ·obtain rfl | rfl : ss = 0 ∨ ss = 1 := st1 hlo hhi
         all_goals
         ·rw [← hfe]
          have hS := (hfr vals2).sub (ts := [125]) (S' := [(125, vals2 11)]) rfl
          replace hS := hS.conv (t := 125) rfl (show (vals2 11) = .pointer (some ⟨blkOf v1_l, oofOf v1_l + (i_2).toNat * 5 + 3, none⟩) from hV 11 (by decide))
          obtain ⟨I2, hI2, H⟩ := Gx.ex hG
          exact L_val hS rfl (Ob_load tW4 rfl rfl rfl ((slFl (H.sl 1 rfl) hg13) 3 _ rfl)) ⟨rfl, hG⟩
        refine .cons (fun ss hlo hhi vals2 xw hG hV => ?_) ?_
        ·obtain rfl : ss = 1 := Nat.le_antisymm hhi hlo
         rw [← hfe]
         have hS := (hfr vals2).sub (ts := [121, 126]) (S' := [(121, vals2 7), (126, vals2 12)]) rfl
         replace hS := hS.conv (t := 121) rfl (show (vals2 7) = .string t_2.1 from hV 7 (by decide))
         replace hS := hS.conv (t := 126) rfl (show (vals2 12) = .string ((l.getD (i_2).toNat default).s) from hV 12 (by decide))
         exact L_val hS rfl (Ob_c tW4 rfl) ⟨rfl, hG⟩
        exact .nil
       ·intro vals2 a w14 Z hG hV
        replace Z := Z.sub (ts := [0, 1, 4, 6, 9, 10, 11, 71, 72, 73, 76, 77, 78, 79, 80, 90, 89, 103, 102, 113, 112, 114, 115, 116, 117, 118, 119, 120, 121, 122, 123, 124, 125, 126, 127]) (S' := [(0, v1_l), (1, .string behind), (4, .bool false), (6, .int .i64 (min (l.length : Int) 40)), (9, .int .i64 d.2), (10, .pointer (some ⟨g2, 0, none⟩)), (11, .int .i64 i_2), (71, .int .i64 i_2), (72, .int .i64 (min (l.length : Int) 40)), (73, .bool (decide (i_2 < min (l.length : Int) 40))), (76, v1_l), (77, .int .i64 i_2), (78, .pointer (some ⟨blkOf v1_l, oofOf v1_l + (i_2).toNat * 5, none⟩)), (79, .pointer (some ⟨blkOf v1_l, oofOf v1_l + (i_2).toNat * 5, none⟩)), (80, .int .i64 ((l.getD (i_2).toNat default).k)), (90, .bool (((l.getD (i_2).toNat default).k) == 0)), (89, .bool (((l.getD (i_2).toNat default).k) == 0)), (103, .bool (((l.getD (i_2).toNat default).k) == 1)), (102, .bool (((l.getD (i_2).toNat default).k) == 1)), (113, .bool (((l.getD (i_2).toNat default).k) == 2)), (112, .bool (((l.getD (i_2).toNat default).k) == 2)), (114, vals2 0), (115, vals2 1), (116, vals2 2), (117, vals2 3), (118, vals2 4), (119, vals2 5), (120, vals2 6), (121, vals2 7), (122, vals2 8), (123, vals2 9), (124, vals2 10), (125, vals2 11), (126, vals2 12), (127, vals2 13)]) rfl
        replace Z := Z.conv (t := 114) rfl (show (vals2 0) = .pointer (some ⟨g2, 0, none⟩) from hV 0 (by decide))
        replace Z := Z.conv (t := 115) rfl (show (vals2 1) = v1_l from hV 1 (by decide))
        replace Z := Z.conv (t := 116) rfl (show (vals2 2) = .int .i64 i_2 from hV 2 (by decide))
        replace Z := Z.conv (t := 117) rfl (show (vals2 3) = .pointer (some ⟨blkOf v1_l, oofOf v1_l + (i_2).toNat * 5, none⟩) from hV 3 (by decide))
        replace Z := Z.conv (t := 118) rfl (show (vals2 4) = .pointer (some ⟨blkOf v1_l, oofOf v1_l + (i_2).toNat * 5 + 3, none⟩) from hV 4 (by decide))
        replace Z := Z.conv (t := 119) rfl (show (vals2 5) = .string ((l.getD (i_2).toNat default).s) from hV 5 (by decide))
        replace Z := Z.conv (t := 120) rfl (show (vals2 6) = .int .i64 (((l.getD (i_2).toNat default).s).size : Int) from hV 6 (by decide))
        replace Z := Z.conv (t := 121) rfl (show (vals2 7) = .string t_2.1 from hV 7 (by decide))
        replace Z := Z.conv (t := 122) rfl (show (vals2 8) = v1_l from hV 8 (by decide))
        replace Z := Z.conv (t := 123) rfl (show (vals2 9) = .int .i64 i_2 from hV 9 (by decide))
        replace Z := Z.conv (t := 124) rfl (show (vals2 10) = .pointer (some ⟨blkOf v1_l, oofOf v1_l + (i_2).toNat * 5, none⟩) from hV 10 (by decide))
        replace Z := Z.conv (t := 125) rfl (show (vals2 11) = .pointer (some ⟨blkOf v1_l, oofOf v1_l + (i_2).toNat * 5 + 3, none⟩) from hV 11 (by decide))
        replace Z := Z.conv (t := 126) rfl (show (vals2 12) = .string ((l.getD (i_2).toNat default).s) from hV 12 (by decide))
        replace Z := Z.conv (t := 127) rfl (show (vals2 13) = .bool (!seqB t_2.1 ((l.getD (i_2).toNat default).s)) from hV 13 (by decide))
        obtain ⟨I14, _, H⟩ := Gx.ex hG
        clear hG hV
        replace Z := Z.sub (ts := [0, 1, 4, 6, 9, 10, 11, 71, 72, 73, 76, 77, 78, 79, 80, 90, 89, 103, 102, 113, 112, 114, 115, 116, 117, 118, 119, 120, 121, 122, 123, 124, 125, 126, 127]) rfl
        replace H : Hf I D w I14 w14 [BxC g2 65 (cEwire_Reader t_2.2), SlC NElaw02_Part v1_l l] := H
        refine p_then ?_
        refine f_cond Z rfl (fun hc11 => ?_) (fun hc11 => ?_)
        ·replace hF := ite_t hc11 hF
         refine wp_seq (f_region Z ?_); clear Z; intro Z
         refine s_runk tW4 Z 1 rfl rfl ?_; clear Z a; intro a Z
         refine s_end Z [0, 1, 4, 6, 9, 10, 11, 71, 72, 73, 76, 77, 78, 79, 80, 90, 89, 103, 102, 113, 112, 114, 115, 116, 117, 118, 119, 120, 121, 122, 123, 124, 125, 126, 127] rfl ?_; clear Z; intro Z
         refine p_then (wp_ret ?_)
         refine p_blk_r ?_
         refine p_blk_r ?_
         refine p_then_r ?_
         refine p_then_r ?_
         refine p_blk_r ?_
         refine p_then_r ?_
         obtain rfl := some_in hF
         exact f_ret Z (run_results1 rfl Z rfl) ⟨rfl, I14, (H.sub [] rfl).eq rfl⟩
        ·replace hF := ite_f hc11 hF
         refine wp_skip ?_
         refine p_blk ?_
         refine p_blk ?_
         refine p_then ?_
         exact ⟨t_2.2.s, t_2.2.at_, t_2.2.e, t_2.2.made, Z.sub (ts := [0, 1, 4, 6, 9, 10, 11, 71, 72, 73, 76, 77, 78, 79, 80, 89, 90]) rfl, ⟨I14, (H.sub [(0, false), (0, true)] rfl).eq rfl⟩, hF⟩
      ·replace hF := ite_f hc10 hF
       refine wp_seq ?_
       obtain ⟨f_2, hx11, hF⟩ := bnd_in hF
       obtain ⟨hg14, hF⟩ := chk_in hF
       refine f_regionL Z (by kernel_rfl) (by kernel_rfl) (by decide) (by decide) [1] [(0, 0, 0), (1, 0, 0), (0, 0, 1), (0, 0, 1), (12, 0, 1), (28, 0, 1), (60, 0, 1), (127, 1, 1)] (by kernel_rfl) (fun jj vv => match jj with | 0 => vv = .pointer (some ⟨g2, 0, none⟩) | 1 => vv = .bool f_2.1 | 2 => vv = v1_l | 3 => vv = .int .i64 i_2 | 4 => vv = .pointer (some ⟨blkOf v1_l, oofOf v1_l + (i_2).toNat * 5, none⟩) | 5 => vv = .pointer (some ⟨blkOf v1_l, oofOf v1_l + (i_2).toNat * 5 + 4, none⟩) | 6 => vv = .bool ((l.getD (i_2).toNat default).f) | 7 => vv = .bool (!(f_2.1 == ((l.getD (i_2).toNat default).f))) | _ => True) (fun ss vals3 xw => match ss with | 0 => Gx I D w I10 w10 xw [BxC g2 65 [.string r_s, .int .i64 r_at_, .int .i64 r_e, .bool r_made], SlC NElaw02_Part v1_l l] | _ => Gx I D w I10 w10 xw [BxC g2 65 (cEwire_Reader f_2.2), SlC NElaw02_Part v1_l l]) (fun _ => Gx.start H) ?_ ?_
       ·intro fr hfr hfe
        refine .cons (fun ss hlo hhi vals3 xw hG hV => ?_) ?_
        ·obtain rfl : ss = 0 := Nat.le_antisymm hhi hlo
         rw [← hfe]
         have hS := (hfr vals3).sub (ts := [10]) (S' := [(10, .pointer (some ⟨g2, 0, none⟩))]) rfl
         exact L_val hS rfl (Ob_c tW4 rfl) ⟨rfl, hG⟩
        refine .cons (fun ss hlo hhi vals3 xw hG hV => ?_) ?_
        ·obtain rfl : ss = 0 := Nat.le_antisymm hhi hlo
         rw [← hfe]
         have hS := (hfr vals3).sub (ts := [81]) (S' := [(81, vals3 0)]) rfl
         replace hS := hS.conv (t := 81) rfl (show (vals3 0) = .pointer (some ⟨g2, 0, none⟩) from hV 0 (by decide))
         obtain ⟨I2, hI2, H⟩ := Gx.ex hG
         refine L_hcall H (js := [(0, false)]) rfl (caps := #[]) hS fn_26_YW4 rfl rfl rfl rfl rfl (fun D1 hS => have hq := c_wire_Reader_Flag hx11 hS; hq) fun _ yw D1 hr hF2 => ?_
         obtain ⟨rfl, I3, K⟩ := hr
         obtain ⟨hK, H2⟩ := hF2 K
         exact ⟨rfl, Gx.go hG hI2 hK K.imm H2⟩
        refine .cons (fun ss hlo hhi vals3 xw hG hV => ?_) ?_
        ·obtain rfl | rfl : ss = 0 ∨ ss = 1 := st1 hlo hhi
         all_goals
         ·rw [← hfe]
          have hS := (hfr vals3).sub (ts := [0]) (S' := [(0, v1_l)]) rfl
          exact L_val hS rfl (Ob_c tW4 rfl) ⟨rfl, hG⟩
        refine .cons (fun ss hlo hhi vals3 xw hG hV => ?_) ?_
        ·obtain rfl | rfl : ss = 0 ∨ ss = 1 := st1 hlo hhi
         all_goals
         ·rw [← hfe]
          have hS := (hfr vals3).sub (ts := [11]) (S' := [(11, .int .i64 i_2)]) rfl
          exact L_val hS rfl (Ob_c tW4 rfl) ⟨rfl, hG⟩
        refine .cons (fun ss hlo hhi vals3 xw hG hV => ?_) ?_
        ·obtain rfl | rfl : ss = 0 ∨ ss = 1 := st1 hlo hhi
         all_goals
         ·rw [← hfe]
          have hS := (hfr vals3).sub (ts := [83, 84]) (S' := [(83, vals3 2), (84, vals3 3)]) rfl
          replace hS := hS.conv (t := 83) rfl (show (vals3 2) = v1_l from hV 2 (by decide))
          replace hS := hS.conv (t := 84) rfl (show (vals3 3) = .int .i64 i_2 from hV 3 (by decide))
          obtain ⟨I2, hI2, H⟩ := Gx.ex hG
          exact L_val hS rfl (Ob_sidx tW4 rfl rfl rfl rfl (slPl (H.sl 1 rfl) hg14) hg14) ⟨rfl, hG⟩
        refine .cons (fun ss hlo hhi vals3 xw hG hV => ?_) ?_
        ·obtain rfl | rfl : ss = 0 ∨ ss = 1 := st1 hlo hhi
         all_goals
         ·rw [← hfe]
          have hS := (hfr vals3).sub (ts := [85]) (S' := [(85, vals3 4)]) rfl
          replace hS := hS.conv (t := 85) rfl (show (vals3 4) = .pointer (some ⟨blkOf v1_l, oofOf v1_l + (i_2).toNat * 5, none⟩) from hV 4 (by decide))
          exact L_val hS rfl (Ob_c tW4 rfl) ⟨rfl, hG⟩
        refine .cons (fun ss hlo hhi vals3 xw hG hV => ?_) ?_
        ·obtain rfl | rfl : ss = 0 ∨ ss = 1 := st1 hlo hhi
         all_goals
         ·rw [← hfe]
          have hS := (hfr vals3).sub (ts := [86]) (S' := [(86, vals3 5)]) rfl
          replace hS := hS.conv (t := 86) rfl (show (vals3 5) = .pointer (some ⟨blkOf v1_l, oofOf v1_l + (i_2).toNat * 5 + 4, none⟩) from hV 5 (by decide))
          obtain ⟨I2, hI2, H⟩ := Gx.ex hG
          exact L_val hS rfl (Ob_load tW4 rfl rfl rfl ((slFl (H.sl 1 rfl) hg14) 4 _ rfl)) ⟨rfl, hG⟩
        refine .cons (fun ss hlo hhi vals3 xw hG hV => ?_) ?_
        ·obtain rfl : ss = 1 := Nat.le_antisymm hhi hlo
         rw [← hfe]
         have hS := (hfr vals3).sub (ts := [82, 87]) (S' := [(82, vals3 1), (87, vals3 6)]) rfl
         replace hS := hS.conv (t := 82) rfl (show (vals3 1) = .bool f_2.1 from hV 1 (by decide))
         replace hS := hS.conv (t := 87) rfl (show (vals3 6) = .bool ((l.getD (i_2).toNat default).f) from hV 6 (by decide))
         exact L_val hS rfl (Ob_c tW4 rfl) ⟨rfl, hG⟩
        exact .nil
       ·intro vals3 a w15 Z hG hV
        replace Z := Z.sub (ts := [0, 1, 4, 6, 9, 10, 11, 71, 72, 73, 76, 77, 78, 79, 80, 90, 89, 103, 102, 113, 112, 81, 82, 83, 84, 85, 86, 87, 88]) (S' := [(0, v1_l), (1, .string behind), (4, .bool false), (6, .int .i64 (min (l.length : Int) 40)), (9, .int .i64 d.2), (10, .pointer (some ⟨g2, 0, none⟩)), (11, .int .i64 i_2), (71, .int .i64 i_2), (72, .int .i64 (min (l.length : Int) 40)), (73, .bool (decide (i_2 < min (l.length : Int) 40))), (76, v1_l), (77, .int .i64 i_2), (78, .pointer (some ⟨blkOf v1_l, oofOf v1_l + (i_2).toNat * 5, none⟩)), (79, .pointer (some ⟨blkOf v1_l, oofOf v1_l + (i_2).toNat * 5, none⟩)), (80, .int .i64 ((l.getD (i_2).toNat default).k)), (90, .bool (((l.getD (i_2).toNat default).k) == 0)), (89, .bool (((l.getD (i_2).toNat default).k) == 0)), (103, .bool (((l.getD (i_2).toNat default).k) == 1)), (102, .bool (((l.getD (i_2).toNat default).k) == 1)), (113, .bool (((l.getD (i_2).toNat default).k) == 2)), (112, .bool (((l.getD (i_2).toNat default).k) == 2)), (81, vals3 0), (82, vals3 1), (83, vals3 2), (84, vals3 3), (85, vals3 4), (86, vals3 5), (87, vals3 6), (88, vals3 7)]) rfl
        replace Z := Z.conv (t := 81) rfl (show (vals3 0) = .pointer (some ⟨g2, 0, none⟩) from hV 0 (by decide))
        replace Z := Z.conv (t := 82) rfl (show (vals3 1) = .bool f_2.1 from hV 1 (by decide))
        replace Z := Z.conv (t := 83) rfl (show (vals3 2) = v1_l from hV 2 (by decide))
        replace Z := Z.conv (t := 84) rfl (show (vals3 3) = .int .i64 i_2 from hV 3 (by decide))
        replace Z := Z.conv (t := 85) rfl (show (vals3 4) = .pointer (some ⟨blkOf v1_l, oofOf v1_l + (i_2).toNat * 5, none⟩) from hV 4 (by decide))
        replace Z := Z.conv (t := 86) rfl (show (vals3 5) = .pointer (some ⟨blkOf v1_l, oofOf v1_l + (i_2).toNat * 5 + 4, none⟩) from hV 5 (by decide))
        replace Z := Z.conv (t := 87) rfl (show (vals3 6) = .bool ((l.getD (i_2).toNat default).f) from hV 6 (by decide))
        replace Z := Z.conv (t := 88) rfl (show (vals3 7) = .bool (!(f_2.1 == ((l.getD (i_2).toNat default).f))) from hV 7 (by decide))
        obtain ⟨I15, _, H⟩ := Gx.ex hG
        clear hG hV
        replace Z := Z.sub (ts := [0, 1, 4, 6, 9, 10, 11, 71, 72, 73, 76, 77, 78, 79, 80, 90, 89, 103, 102, 113, 112, 81, 82, 83, 84, 85, 86, 87, 88]) rfl
        replace H : Hf I D w I15 w15 [BxC g2 65 (cEwire_Reader f_2.2), SlC NElaw02_Part v1_l l] := H
        refine p_then ?_
        refine f_cond Z rfl (fun hc12 => ?_) (fun hc12 => ?_)
        ·replace hF := ite_t hc12 hF
         refine wp_seq (f_region Z ?_); clear Z; intro Z
         refine s_runk tW4 Z 1 rfl rfl ?_; clear Z a; intro a Z
         refine s_end Z [0, 1, 4, 6, 9, 10, 11, 71, 72, 73, 76, 77, 78, 79, 80, 90, 89, 103, 102, 113, 112, 81, 82, 83, 84, 85, 86, 87, 88] rfl ?_; clear Z; intro Z
         refine p_then (wp_ret ?_)
         refine p_blk_r ?_
         refine p_blk_r ?_
         refine p_then_r ?_
         refine p_then_r ?_
         refine p_blk_r ?_
         refine p_then_r ?_
         obtain rfl := some_in hF
         exact f_ret Z (run_results1 rfl Z rfl) ⟨rfl, I15, (H.sub [] rfl).eq rfl⟩
        ·replace hF := ite_f hc12 hF
         refine wp_skip ?_
         refine p_blk ?_
         refine p_blk ?_
         refine p_then ?_
         exact ⟨f_2.2.s, f_2.2.at_, f_2.2.e, f_2.2.made, Z.sub (ts := [0, 1, 4, 6, 9, 10, 11, 71, 72, 73, 76, 77, 78, 79, 80, 89, 90]) rfl, ⟨I15, (H.sub [(0, false), (0, true)] rfl).eq rfl⟩, hF⟩
  ·replace hF := ite_f hc5 hF
   refine wp_exit ?_
   refine p_then_x ?_
   refine p_then_x ?_
   refine f_exit_here ?_
   refine p_then (wp_seq ?_)
   obtain ⟨e, hx12, hF⟩ := bnd_in hF
   obtain ⟨l_2, hx13, hF⟩ := bnd_in hF
   obtain ⟨a0, hx14, hF⟩ := bnd_in hF
   refine f_region Z ?_; clear Z; intro Z
   refine s_runk tW4 Z 3 rfl rfl ?_; clear Z a; intro a Z
   refine g_ob Z (p := (d.2 == 0)) (v := .pointer (some ⟨g2, 0, none⟩)) (S' := [(10, .pointer (some ⟨g2, 0, none⟩))]) rfl rfl rfl (wantB_t _) rfl (by decide) (fun hp hS => hS.sub (ts := [10]) rfl) (fun hp => Ob_c tW4 rfl) ?_; clear Z a; intro a Z
   refine h_gcall Z H (js := [(0, false)]) rfl (p := (d.2 == 0)) (v := .int .i64 e) (S' := [(131, .pointer (some ⟨g2, 0, none⟩))]) (caps := #[]) (fun _ => [BxC g2 65 [.string r_s, .int .i64 r_at_, .int .i64 r_e, .bool r_made]]) fn_28_YW4 rfl rfl rfl (wantB_t _) rfl (by decide) (fun hp hS => (hS.conv (t := 131) rfl (cond_t hp)).sub (ts := [131]) rfl) rfl rfl rfl rfl (fun hp D1 hS => have hq := c_wire_Reader_Err (gif_in hx12 hp) hS; hq) (fun hp => H.sub [(0, false), (0, true)] rfl) ?_; clear Z a H; intro a w16 I16 H Z
   replace H : Hf I D w I16 w16 [BxC g2 65 [.string r_s, .int .i64 r_at_, .int .i64 r_e, .bool r_made], SlC NElaw02_Part v1_l l] := H
   refine g_ob Z (p := (d.2 == 0)) (v := .bool (e == 0)) (S' := [(132, .int .i64 e)]) rfl rfl rfl (wantB_t _) rfl (by decide) (fun hp hS => (hS.conv (t := 132) rfl (cond_t hp)).sub (ts := [132]) rfl) (fun hp => Ob_c tW4 rfl) ?_; clear Z a; intro a Z
   refine s_ob Z (v := .bool ((d.2 == 0) && (e == 0))) rfl rfl (by decide) rfl (Ob_pick rfl rfl rfl rfl (pick_and _ _)) ?_; clear Z a; intro a Z
   refine s_runk tW4 Z 1 rfl rfl ?_; clear Z a; intro a Z
   refine g_ob Z (p := ((d.2 == 0) && (e == 0))) (v := .pointer (some ⟨g2, 0, none⟩)) (S' := [(10, .pointer (some ⟨g2, 0, none⟩))]) rfl rfl rfl (wantB_t _) rfl (by decide) (fun hp hS => hS.sub (ts := [10]) rfl) (fun hp => Ob_c tW4 rfl) ?_; clear Z a; intro a Z
   refine h_gcall Z H (js := [(0, false)]) rfl (p := ((d.2 == 0) && (e == 0))) (v := .int .i64 l_2) (S' := [(136, .pointer (some ⟨g2, 0, none⟩))]) (caps := #[]) (fun _ => [BxC g2 65 [.string r_s, .int .i64 r_at_, .int .i64 r_e, .bool r_made]]) fn_29_YW4 rfl rfl rfl (wantB_t _) rfl (by decide) (fun hp hS => (hS.conv (t := 136) rfl (cond_t hp)).sub (ts := [136]) rfl) rfl rfl rfl rfl (fun hp D1 hS => have hq := c_wire_Reader_Left (gif_in hx13 hp) hS; hq) (fun hp => H.sub [(0, false), (0, true)] rfl) ?_; clear Z a H; intro a w17 I17 H Z
   replace H : Hf I D w I17 w17 [BxC g2 65 [.string r_s, .int .i64 r_at_, .int .i64 r_e, .bool r_made], SlC NElaw02_Part v1_l l] := H
   refine g_ob Z (p := ((d.2 == 0) && (e == 0))) (v := .string behind) (S' := [(1, .string behind)]) rfl rfl rfl (wantB_t _) rfl (by decide) (fun hp hS => hS.sub (ts := [1]) rfl) (fun hp => Ob_c tW4 rfl) ?_; clear Z a; intro a Z
   refine g_ob Z (p := ((d.2 == 0) && (e == 0))) (v := .int .i64 (behind.size : Int)) (S' := [(138, .string behind)]) rfl rfl rfl (wantB_t _) rfl (by decide) (fun hp hS => (hS.conv (t := 138) rfl (cond_t hp)).sub (ts := [138]) rfl) (fun hp => Ob_c tW4 rfl) ?_; clear Z a; intro a Z
   refine g_ob Z (p := ((d.2 == 0) && (e == 0))) (v := .bool (l_2 == (behind.size : Int))) (S' := [(137, .int .i64 l_2), (139, .int .i64 (behind.size : Int))]) rfl rfl rfl (wantB_t _) rfl (by decide) (fun hp hS => ((hS.conv (t := 137) rfl (cond_t hp)).conv (t := 139) rfl (cond_t hp)).sub (ts := [137, 139]) rfl) (fun hp => Ob_c tW4 rfl) ?_; clear Z a; intro a Z
   refine s_ob Z (v := .bool (((d.2 == 0) && (e == 0)) && (l_2 == (behind.size : Int)))) rfl rfl (by decide) rfl (Ob_pick rfl rfl rfl rfl (pick_and _ _)) ?_; clear Z a; intro a Z
   refine s_runk tW4 Z 1 rfl rfl ?_; clear Z a; intro a Z
   refine g_call Z (p := (((d.2 == 0) && (e == 0)) && (l_2 == (behind.size : Int)))) (v := .bool a0) (S' := []) (caps := #[]) fn_18_YW4 rfl rfl rfl (wantB_t _) rfl (by decide) (fun hp hS => hS.sub (ts := []) rfl) rfl rfl rfl rfl (fun hp => have hq := c_law02_awake (gif_in hx14 hp) (H.pick0 (js := []) rfl rfl); plainC hq) ?_; clear Z a; intro a w18 hb Z
   replace H : Hf I D w I17 w18 [BxC g2 65 [.string r_s, .int .i64 r_at_, .int .i64 r_e, .bool r_made], SlC NElaw02_Part v1_l l] := H.blw hb
   clear hb
   refine s_ob Z (v := .bool ((((d.2 == 0) && (e == 0)) && (l_2 == (behind.size : Int))) && a0)) rfl rfl (by decide) rfl (Ob_pick rfl rfl rfl rfl (pick_and _ _)) ?_; clear Z a; intro a Z
   refine s_runk tW4 Z 1 rfl rfl ?_; clear Z a; intro a Z
   refine s_end Z [4] rfl ?_; clear Z; intro Z
   refine p_then (wp_ret ?_)
   obtain rfl := some_in hF
   exact f_ret Z (run_results1 rfl Z rfl) ⟨rfl, I17, (H.sub [] rfl).eq rfl⟩

end Go.Proofs.Ytlgejpompnbfoaa
