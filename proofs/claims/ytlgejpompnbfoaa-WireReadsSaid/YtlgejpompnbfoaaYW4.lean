/- Wire: the laws. -/
import Derived.Test.YtlgejpompnbfoaaYWire
namespace Go.Proofs.Ytlgejpompnbfoaa
open Go.RowKit
structure Elaw02_Part where
  k : Int
  n : Int
  b : Int
  s : ByteArray
  f : Bool

instance : Inhabited Elaw02_Part := ⟨⟨0, 0, 0, ByteArray.empty, false⟩⟩

def cElaw02_Part (x : Elaw02_Part) : List Value := [.int .i64 x.k, .int .i64 x.n, .int .u64 x.b, .string x.s, .bool x.f]

def NElaw02_Part : Rp Elaw02_Part := Rp.flat 5 (fun _ => True) (fun x => cElaw02_Part x) (fun _ => rfl) (fun x c hc => by simp only [cElaw02_Part, List.mem_cons, List.not_mem_nil, or_false] at hc; rcases hc with rfl | rfl | rfl | rfl | rfl <;> rfl)

def TB_YW4L : TabL := ⟨[(30720, 0), (30721, 1), (30722, 2), (30723, 3), (30724, 4), (51202, 2)], [9], [4], [(22, (30, 5))], [(3, (1, false)), (4, (1, false)), (9, (1, false)), (27, (2, true)), (28, (1, false)), (50, (3, true)), (63, (4, true)), (65, (4, true))]⟩

def TB_YW4 : Tab Try.prog := ⟨TB_YW4L, by kernel_rfl⟩

theorem fn_7_YW4 : IsFn Try.prog 7 := ⟨_, Try.func7, by kernel_rfl, by kernel_rfl⟩

theorem fn_8_YW4 : IsFn Try.prog 8 := ⟨_, Try.func8, by kernel_rfl, by kernel_rfl⟩

theorem fn_12_YW4 : IsFn Try.prog 12 := ⟨_, Try.func12, by kernel_rfl, by kernel_rfl⟩

theorem fn_14_YW4 : IsFn Try.prog 14 := ⟨_, Try.func14, by kernel_rfl, by kernel_rfl⟩

theorem fn_16_YW4 : IsFn Try.prog 16 := ⟨_, Try.func16, by kernel_rfl, by kernel_rfl⟩

theorem fn_18_YW4 : IsFn Try.prog 18 := ⟨_, Try.func18, by kernel_rfl, by kernel_rfl⟩

theorem fn_19_YW4 : IsFn Try.prog 19 := ⟨_, Try.func19, by kernel_rfl, by kernel_rfl⟩

theorem fn_20_YW4 : IsFn Try.prog 20 := ⟨_, Try.func20, by kernel_rfl, by kernel_rfl⟩

theorem fn_21_YW4 : IsFn Try.prog 21 := ⟨_, Try.func21, by kernel_rfl, by kernel_rfl⟩

theorem fn_22_YW4 : IsFn Try.prog 22 := ⟨_, Try.func22, by kernel_rfl, by kernel_rfl⟩

theorem fn_23_YW4 : IsFn Try.prog 23 := ⟨_, Try.func23, by kernel_rfl, by kernel_rfl⟩

theorem fn_24_YW4 : IsFn Try.prog 24 := ⟨_, Try.func24, by kernel_rfl, by kernel_rfl⟩

theorem fn_25_YW4 : IsFn Try.prog 25 := ⟨_, Try.func25, by kernel_rfl, by kernel_rfl⟩

theorem fn_26_YW4 : IsFn Try.prog 26 := ⟨_, Try.func26, by kernel_rfl, by kernel_rfl⟩

theorem fn_27_YW4 : IsFn Try.prog 27 := ⟨_, Try.func27, by kernel_rfl, by kernel_rfl⟩

theorem fn_28_YW4 : IsFn Try.prog 28 := ⟨_, Try.func28, by kernel_rfl, by kernel_rfl⟩

theorem fn_29_YW4 : IsFn Try.prog 29 := ⟨_, Try.func29, by kernel_rfl, by kernel_rfl⟩

theorem fn_30_YW4 : IsFn Try.prog 30 := ⟨_, Try.func30, by kernel_rfl, by kernel_rfl⟩

theorem fn_31_YW4 : IsFn Try.prog 31 := ⟨_, Try.func31, by kernel_rfl, by kernel_rfl⟩

theorem fn_32_YW4 : IsFn Try.prog 32 := ⟨_, Try.func32, by kernel_rfl, by kernel_rfl⟩

def F_law02_awake : Option Bool := (F_wire_New).bind fun n0 => ((F_wire_Writer_Text n0 ⟨#[97, 98]⟩).bind fun t => ((F_wire_Writer_Flag t true).bind fun f => ((F_wire_Writer_Num f 300).bind fun n0_2 => ((F_wire_Writer_Done n0_2).bind fun d => ((F_wire_Open d.1).bind fun o => ((gif ((seqB d.1 ⟨#[2, 97, 98, 1, 249, 1, 44]⟩) && (d.2 == 0)) (F_wire_Reader_Text o 2) default).bind fun t_2 => ((gif (((seqB d.1 ⟨#[2, 97, 98, 1, 249, 1, 44]⟩) && (d.2 == 0)) && (seqB t_2.1 ⟨#[97, 98]⟩)) (F_wire_Reader_Flag (cond ((seqB d.1 ⟨#[2, 97, 98, 1, 249, 1, 44]⟩) && (d.2 == 0)) t_2.2 o)) default).bind fun f_2 => ((gif ((((seqB d.1 ⟨#[2, 97, 98, 1, 249, 1, 44]⟩) && (d.2 == 0)) && (seqB t_2.1 ⟨#[97, 98]⟩)) && f_2.1) (F_wire_Reader_Num (cond (((seqB d.1 ⟨#[2, 97, 98, 1, 249, 1, 44]⟩) && (d.2 == 0)) && (seqB t_2.1 ⟨#[97, 98]⟩)) f_2.2 (cond ((seqB d.1 ⟨#[2, 97, 98, 1, 249, 1, 44]⟩) && (d.2 == 0)) t_2.2 o)) 300) default).bind fun n0_3 => ((gif (((((seqB d.1 ⟨#[2, 97, 98, 1, 249, 1, 44]⟩) && (d.2 == 0)) && (seqB t_2.1 ⟨#[97, 98]⟩)) && f_2.1) && (n0_3.1 == 300)) (F_wire_Reader_End (cond ((((seqB d.1 ⟨#[2, 97, 98, 1, 249, 1, 44]⟩) && (d.2 == 0)) && (seqB t_2.1 ⟨#[97, 98]⟩)) && f_2.1) n0_3.2 (cond (((seqB d.1 ⟨#[2, 97, 98, 1, 249, 1, 44]⟩) && (d.2 == 0)) && (seqB t_2.1 ⟨#[97, 98]⟩)) f_2.2 (cond ((seqB d.1 ⟨#[2, 97, 98, 1, 249, 1, 44]⟩) && (d.2 == 0)) t_2.2 o)))) default).bind fun e => (some ((((((seqB d.1 ⟨#[2, 97, 98, 1, 249, 1, 44]⟩) && (d.2 == 0)) && (seqB t_2.1 ⟨#[97, 98]⟩)) && f_2.1) && (n0_3.1 == 300)) && (e == 0))))))))))))

set_option maxHeartbeats 1000000 in
theorem c_law02_awake {I D : Dm} {w : World} {rr : Bool} (hF : F_law02_awake = some rr) (H : St I D w []) :
    Calls Try.prog 18 #[] w (Ret fun vv w' => vv = .bool rr ∧ ∃ I', Hf I D w I' w' []) := by
  replace H := H.hf
  unfold F_law02_awake at hF
  refine f_enter 39 Try.func18 rfl rfl (Nat.le_of_ble_eq_true rfl) fun a hok => ?_
  replace hok := hok.sub (ts := []) rfl
  refine wp_seq ?_
  refine f_region hok ?_; clear hok; intro hok
  refine s_runk TB_YW4 hok 1 rfl rfl ?_; clear hok a; intro a hok
  refine s_end hok [0] rfl ?_; clear hok; intro hok
  refine p_then ?_
  refine wp_seq ?_
  obtain ⟨n0, hx1, hF⟩ := bnd_in hF
  obtain ⟨t, hx2, hF⟩ := bnd_in hF
  obtain ⟨f, hx3, hF⟩ := bnd_in hF
  obtain ⟨n0_2, hx4, hF⟩ := bnd_in hF
  obtain ⟨d, hx5, hF⟩ := bnd_in hF
  refine f_region hok ?_; clear hok; intro hok
  refine h_call hok H (js := []) rfl (caps := #[]) fn_7_YW4 rfl rfl rfl rfl rfl (by decide) rfl rfl (fun D1 hS => have hq := c_wire_New hx1 hS; hq) ?_; clear hok a; intro vv a w1 D2 hr hF2 hok
  obtain ⟨g1, rfl, I1, K⟩ := hr
  have H : Hf I D w I1 w1 [OEwire_Writer g1 n0] := hF2 K
  clear hF2 K
  refine h_call hok H (js := [(0, false)]) rfl (caps := #[]) fn_12_YW4 rfl rfl rfl rfl rfl (by decide) rfl rfl (fun D1 hS => have hq := c_wire_Writer_Text hx2 hS; hq) ?_; clear hok a; intro vv a w2 D2 hr hF2 hok
  obtain ⟨rfl, I2, K⟩ := hr
  have H : Hf I D w I2 w2 [OEwire_Writer g1 t] := hF2 K
  clear hF2 K
  refine h_call hok H (js := [(0, false)]) rfl (caps := #[]) fn_14_YW4 rfl rfl rfl rfl rfl (by decide) rfl rfl (fun D1 hS => have hq := c_wire_Writer_Flag hx3 hS; hq) ?_; clear hok a; intro vv a w3 D2 hr hF2 hok
  obtain ⟨rfl, I3, K⟩ := hr
  have H : Hf I D w I3 w3 [OEwire_Writer g1 f] := hF2 K
  clear hF2 K
  refine h_call hok H (js := [(0, false)]) rfl (caps := #[]) fn_8_YW4 rfl rfl rfl rfl rfl (by decide) rfl rfl (fun D1 hS => have hq := c_wire_Writer_Num hx4 hS; hq) ?_; clear hok a; intro vv a w4 D2 hr hF2 hok
  obtain ⟨rfl, I4, K⟩ := hr
  have H : Hf I D w I4 w4 [OEwire_Writer g1 n0_2] := hF2 K
  clear hF2 K
  refine h_call hok H (js := [(0, false)]) rfl (caps := #[]) fn_16_YW4 rfl rfl rfl rfl rfl (by decide) rfl rfl (fun D1 hS => have hq := c_wire_Writer_Done hx5 hS; hq) ?_; clear hok a; intro vv a w5 D2 hr hF2 hok
  obtain ⟨rfl, I5, K⟩ := hr
  have H : Hf I D w I5 w5 [] := hF2 K
  clear hF2 K
  refine s_runk TB_YW4 hok 5 rfl rfl ?_; clear hok a; intro a hok
  refine s_end hok [0, 1, 2] rfl ?_; clear hok; intro hok
  refine p_then ?_
  refine wp_seq ?_
  obtain ⟨o, hx6, hF⟩ := bnd_in hF
  refine f_region hok ?_; clear hok; intro hok
  refine s_runk TB_YW4 hok 1 rfl rfl ?_; clear hok a; intro a hok
  refine h_call hok H (js := []) rfl (caps := #[]) fn_19_YW4 rfl rfl rfl rfl rfl (by decide) rfl rfl (fun D1 hS => have hq := c_wire_Open hx6 hS; hq) ?_; clear hok a; intro vv a w6 D2 hr hF2 hok
  obtain ⟨g2, rfl, I6, K⟩ := hr
  have H : Hf I D w I6 w6 [BxC g2 65 [.string o.s, .int .i64 o.at_, .int .i64 o.e, .bool o.made]] := hF2 K
  clear hF2 K
  refine s_runk TB_YW4 hok 1 rfl rfl ?_; clear hok a; intro a hok
  refine s_end hok [0, 1, 2, 3] rfl ?_; clear hok; intro hok
  refine p_then ?_
  refine wp_seq ?_
  obtain ⟨t_2, hx7, hF⟩ := bnd_in hF
  obtain ⟨f_2, hx8, hF⟩ := bnd_in hF
  obtain ⟨n0_3, hx9, hF⟩ := bnd_in hF
  obtain ⟨e, hx10, hF⟩ := bnd_in hF
  refine f_region hok ?_; clear hok; intro hok
  refine s_runk TB_YW4 hok 3 rfl rfl ?_; clear hok a; intro a hok
  refine g_ob hok (p := (seqB d.1 ⟨#[2, 97, 98, 1, 249, 1, 44]⟩)) (v := .int .i64 d.2) (S' := [(2, .int .i64 d.2)]) rfl rfl rfl (wantB_t _) rfl (by decide) (fun hp hS => hS.sub (ts := [2]) rfl) (fun hp => Ob_c TB_YW4 rfl) ?_; clear hok a; intro a hok
  refine g_ob hok (p := (seqB d.1 ⟨#[2, 97, 98, 1, 249, 1, 44]⟩)) (v := .bool (d.2 == 0)) (S' := [(17, .int .i64 d.2)]) rfl rfl rfl (wantB_t _) rfl (by decide) (fun hp hS => (hS.conv (t := 17) rfl (cond_t hp)).sub (ts := [17]) rfl) (fun hp => Ob_c TB_YW4 rfl) ?_; clear hok a; intro a hok
  refine s_ob hok (v := .bool ((seqB d.1 ⟨#[2, 97, 98, 1, 249, 1, 44]⟩) && (d.2 == 0))) rfl rfl (by decide) rfl (Ob_pick rfl rfl rfl rfl (pick_and _ _)) ?_; clear hok a; intro a hok
  refine s_runk TB_YW4 hok 1 rfl rfl ?_; clear hok a; intro a hok
  refine g_ob hok (p := ((seqB d.1 ⟨#[2, 97, 98, 1, 249, 1, 44]⟩) && (d.2 == 0))) (v := .pointer (some ⟨g2, 0, none⟩)) (S' := [(3, .pointer (some ⟨g2, 0, none⟩))]) rfl rfl rfl (wantB_t _) rfl (by decide) (fun hp hS => hS.sub (ts := [3]) rfl) (fun hp => Ob_c TB_YW4 rfl) ?_; clear hok a; intro a hok
  refine h_gcall hok H (js := [(0, false)]) rfl (p := ((seqB d.1 ⟨#[2, 97, 98, 1, 249, 1, 44]⟩) && (d.2 == 0))) (v := .string t_2.1) (S' := [(21, .pointer (some ⟨g2, 0, none⟩))]) (caps := #[]) (fun qq => [BxC g2 65 [.string ((cond qq t_2.2 o).s), .int .i64 ((cond qq t_2.2 o).at_), .int .i64 ((cond qq t_2.2 o).e), .bool ((cond qq t_2.2 o).made)]]) fn_24_YW4 rfl rfl rfl (wantB_t _) rfl (by decide) (fun hp hS => (hS.conv (t := 21) rfl (cond_t hp)).sub (ts := [21]) rfl) rfl rfl rfl rfl (fun hp D1 hS => have hq := c_wire_Reader_Text (gif_in hx7 hp) hS; hq) (fun hp => H.sub [(0, false)] rfl) ?_; clear hok a H; intro a w7 I7 H hok
  replace H : Hf I D w I7 w7 [BxC g2 65 [.string ((cond ((seqB d.1 ⟨#[2, 97, 98, 1, 249, 1, 44]⟩) && (d.2 == 0)) t_2.2 o).s), .int .i64 ((cond ((seqB d.1 ⟨#[2, 97, 98, 1, 249, 1, 44]⟩) && (d.2 == 0)) t_2.2 o).at_), .int .i64 ((cond ((seqB d.1 ⟨#[2, 97, 98, 1, 249, 1, 44]⟩) && (d.2 == 0)) t_2.2 o).e), .bool ((cond ((seqB d.1 ⟨#[2, 97, 98, 1, 249, 1, 44]⟩) && (d.2 == 0)) t_2.2 o).made)]] := H
  refine g_ob hok (p := ((seqB d.1 ⟨#[2, 97, 98, 1, 249, 1, 44]⟩) && (d.2 == 0))) (v := .bool (seqB t_2.1 ⟨#[97, 98]⟩)) (S' := [(22, .string t_2.1)]) rfl rfl rfl (wantB_t _) rfl (by decide) (fun hp hS => (hS.conv (t := 22) rfl (cond_t hp)).sub (ts := [22]) rfl) (fun hp => Ob_c TB_YW4 rfl) ?_; clear hok a; intro a hok
  refine s_ob hok (v := .bool (((seqB d.1 ⟨#[2, 97, 98, 1, 249, 1, 44]⟩) && (d.2 == 0)) && (seqB t_2.1 ⟨#[97, 98]⟩))) rfl rfl (by decide) rfl (Ob_pick rfl rfl rfl rfl (pick_and _ _)) ?_; clear hok a; intro a hok
  refine s_runk TB_YW4 hok 1 rfl rfl ?_; clear hok a; intro a hok
  refine g_ob hok (p := (((seqB d.1 ⟨#[2, 97, 98, 1, 249, 1, 44]⟩) && (d.2 == 0)) && (seqB t_2.1 ⟨#[97, 98]⟩))) (v := .pointer (some ⟨g2, 0, none⟩)) (S' := [(3, .pointer (some ⟨g2, 0, none⟩))]) rfl rfl rfl (wantB_t _) rfl (by decide) (fun hp hS => hS.sub (ts := [3]) rfl) (fun hp => Ob_c TB_YW4 rfl) ?_; clear hok a; intro a hok
  refine h_gcall hok H (js := [(0, false)]) rfl (p := (((seqB d.1 ⟨#[2, 97, 98, 1, 249, 1, 44]⟩) && (d.2 == 0)) && (seqB t_2.1 ⟨#[97, 98]⟩))) (v := .bool f_2.1) (S' := [(26, .pointer (some ⟨g2, 0, none⟩))]) (caps := #[]) (fun qq => [BxC g2 65 [.string ((cond qq f_2.2 (cond ((seqB d.1 ⟨#[2, 97, 98, 1, 249, 1, 44]⟩) && (d.2 == 0)) t_2.2 o)).s), .int .i64 ((cond qq f_2.2 (cond ((seqB d.1 ⟨#[2, 97, 98, 1, 249, 1, 44]⟩) && (d.2 == 0)) t_2.2 o)).at_), .int .i64 ((cond qq f_2.2 (cond ((seqB d.1 ⟨#[2, 97, 98, 1, 249, 1, 44]⟩) && (d.2 == 0)) t_2.2 o)).e), .bool ((cond qq f_2.2 (cond ((seqB d.1 ⟨#[2, 97, 98, 1, 249, 1, 44]⟩) && (d.2 == 0)) t_2.2 o)).made)]]) fn_26_YW4 rfl rfl rfl (wantB_t _) rfl (by decide) (fun hp hS => (hS.conv (t := 26) rfl (cond_t hp)).sub (ts := [26]) rfl) rfl rfl rfl rfl (fun hp D1 hS => have hq := c_wire_Reader_Flag (gif_in hx8 hp) hS; hq) (fun hp => H.sub [(0, false)] rfl) ?_; clear hok a H; intro a w8 I8 H hok
  replace H : Hf I D w I8 w8 [BxC g2 65 [.string ((cond (((seqB d.1 ⟨#[2, 97, 98, 1, 249, 1, 44]⟩) && (d.2 == 0)) && (seqB t_2.1 ⟨#[97, 98]⟩)) f_2.2 (cond ((seqB d.1 ⟨#[2, 97, 98, 1, 249, 1, 44]⟩) && (d.2 == 0)) t_2.2 o)).s), .int .i64 ((cond (((seqB d.1 ⟨#[2, 97, 98, 1, 249, 1, 44]⟩) && (d.2 == 0)) && (seqB t_2.1 ⟨#[97, 98]⟩)) f_2.2 (cond ((seqB d.1 ⟨#[2, 97, 98, 1, 249, 1, 44]⟩) && (d.2 == 0)) t_2.2 o)).at_), .int .i64 ((cond (((seqB d.1 ⟨#[2, 97, 98, 1, 249, 1, 44]⟩) && (d.2 == 0)) && (seqB t_2.1 ⟨#[97, 98]⟩)) f_2.2 (cond ((seqB d.1 ⟨#[2, 97, 98, 1, 249, 1, 44]⟩) && (d.2 == 0)) t_2.2 o)).e), .bool ((cond (((seqB d.1 ⟨#[2, 97, 98, 1, 249, 1, 44]⟩) && (d.2 == 0)) && (seqB t_2.1 ⟨#[97, 98]⟩)) f_2.2 (cond ((seqB d.1 ⟨#[2, 97, 98, 1, 249, 1, 44]⟩) && (d.2 == 0)) t_2.2 o)).made)]] := H
  refine s_ob hok (v := .bool ((((seqB d.1 ⟨#[2, 97, 98, 1, 249, 1, 44]⟩) && (d.2 == 0)) && (seqB t_2.1 ⟨#[97, 98]⟩)) && f_2.1)) rfl rfl (by decide) rfl (Ob_pick rfl rfl rfl rfl (pick_and _ _)) ?_; clear hok a; intro a hok
  refine s_runk TB_YW4 hok 1 rfl rfl ?_; clear hok a; intro a hok
  refine g_ob hok (p := ((((seqB d.1 ⟨#[2, 97, 98, 1, 249, 1, 44]⟩) && (d.2 == 0)) && (seqB t_2.1 ⟨#[97, 98]⟩)) && f_2.1)) (v := .pointer (some ⟨g2, 0, none⟩)) (S' := [(3, .pointer (some ⟨g2, 0, none⟩))]) rfl rfl rfl (wantB_t _) rfl (by decide) (fun hp hS => hS.sub (ts := [3]) rfl) (fun hp => Ob_c TB_YW4 rfl) ?_; clear hok a; intro a hok
  refine h_gcall hok H (js := [(0, false)]) rfl (p := ((((seqB d.1 ⟨#[2, 97, 98, 1, 249, 1, 44]⟩) && (d.2 == 0)) && (seqB t_2.1 ⟨#[97, 98]⟩)) && f_2.1)) (v := .int .i64 n0_3.1) (S' := [(30, .pointer (some ⟨g2, 0, none⟩))]) (caps := #[]) (fun qq => [BxC g2 65 [.string ((cond qq n0_3.2 (cond (((seqB d.1 ⟨#[2, 97, 98, 1, 249, 1, 44]⟩) && (d.2 == 0)) && (seqB t_2.1 ⟨#[97, 98]⟩)) f_2.2 (cond ((seqB d.1 ⟨#[2, 97, 98, 1, 249, 1, 44]⟩) && (d.2 == 0)) t_2.2 o))).s), .int .i64 ((cond qq n0_3.2 (cond (((seqB d.1 ⟨#[2, 97, 98, 1, 249, 1, 44]⟩) && (d.2 == 0)) && (seqB t_2.1 ⟨#[97, 98]⟩)) f_2.2 (cond ((seqB d.1 ⟨#[2, 97, 98, 1, 249, 1, 44]⟩) && (d.2 == 0)) t_2.2 o))).at_), .int .i64 ((cond qq n0_3.2 (cond (((seqB d.1 ⟨#[2, 97, 98, 1, 249, 1, 44]⟩) && (d.2 == 0)) && (seqB t_2.1 ⟨#[97, 98]⟩)) f_2.2 (cond ((seqB d.1 ⟨#[2, 97, 98, 1, 249, 1, 44]⟩) && (d.2 == 0)) t_2.2 o))).e), .bool ((cond qq n0_3.2 (cond (((seqB d.1 ⟨#[2, 97, 98, 1, 249, 1, 44]⟩) && (d.2 == 0)) && (seqB t_2.1 ⟨#[97, 98]⟩)) f_2.2 (cond ((seqB d.1 ⟨#[2, 97, 98, 1, 249, 1, 44]⟩) && (d.2 == 0)) t_2.2 o))).made)]]) fn_20_YW4 rfl rfl rfl (wantB_t _) rfl (by decide) (fun hp hS => (hS.conv (t := 30) rfl (cond_t hp)).sub (ts := [30]) rfl) rfl rfl rfl rfl (fun hp D1 hS => have hq := c_wire_Reader_Num (gif_in hx9 hp) hS; hq) (fun hp => H.sub [(0, false)] rfl) ?_; clear hok a H; intro a w9 I9 H hok
  replace H : Hf I D w I9 w9 [BxC g2 65 [.string ((cond ((((seqB d.1 ⟨#[2, 97, 98, 1, 249, 1, 44]⟩) && (d.2 == 0)) && (seqB t_2.1 ⟨#[97, 98]⟩)) && f_2.1) n0_3.2 (cond (((seqB d.1 ⟨#[2, 97, 98, 1, 249, 1, 44]⟩) && (d.2 == 0)) && (seqB t_2.1 ⟨#[97, 98]⟩)) f_2.2 (cond ((seqB d.1 ⟨#[2, 97, 98, 1, 249, 1, 44]⟩) && (d.2 == 0)) t_2.2 o))).s), .int .i64 ((cond ((((seqB d.1 ⟨#[2, 97, 98, 1, 249, 1, 44]⟩) && (d.2 == 0)) && (seqB t_2.1 ⟨#[97, 98]⟩)) && f_2.1) n0_3.2 (cond (((seqB d.1 ⟨#[2, 97, 98, 1, 249, 1, 44]⟩) && (d.2 == 0)) && (seqB t_2.1 ⟨#[97, 98]⟩)) f_2.2 (cond ((seqB d.1 ⟨#[2, 97, 98, 1, 249, 1, 44]⟩) && (d.2 == 0)) t_2.2 o))).at_), .int .i64 ((cond ((((seqB d.1 ⟨#[2, 97, 98, 1, 249, 1, 44]⟩) && (d.2 == 0)) && (seqB t_2.1 ⟨#[97, 98]⟩)) && f_2.1) n0_3.2 (cond (((seqB d.1 ⟨#[2, 97, 98, 1, 249, 1, 44]⟩) && (d.2 == 0)) && (seqB t_2.1 ⟨#[97, 98]⟩)) f_2.2 (cond ((seqB d.1 ⟨#[2, 97, 98, 1, 249, 1, 44]⟩) && (d.2 == 0)) t_2.2 o))).e), .bool ((cond ((((seqB d.1 ⟨#[2, 97, 98, 1, 249, 1, 44]⟩) && (d.2 == 0)) && (seqB t_2.1 ⟨#[97, 98]⟩)) && f_2.1) n0_3.2 (cond (((seqB d.1 ⟨#[2, 97, 98, 1, 249, 1, 44]⟩) && (d.2 == 0)) && (seqB t_2.1 ⟨#[97, 98]⟩)) f_2.2 (cond ((seqB d.1 ⟨#[2, 97, 98, 1, 249, 1, 44]⟩) && (d.2 == 0)) t_2.2 o))).made)]] := H
  refine g_ob hok (p := ((((seqB d.1 ⟨#[2, 97, 98, 1, 249, 1, 44]⟩) && (d.2 == 0)) && (seqB t_2.1 ⟨#[97, 98]⟩)) && f_2.1)) (v := .bool (n0_3.1 == 300)) (S' := [(31, .int .i64 n0_3.1)]) rfl rfl rfl (wantB_t _) rfl (by decide) (fun hp hS => (hS.conv (t := 31) rfl (cond_t hp)).sub (ts := [31]) rfl) (fun hp => Ob_c TB_YW4 rfl) ?_; clear hok a; intro a hok
  refine s_ob hok (v := .bool (((((seqB d.1 ⟨#[2, 97, 98, 1, 249, 1, 44]⟩) && (d.2 == 0)) && (seqB t_2.1 ⟨#[97, 98]⟩)) && f_2.1) && (n0_3.1 == 300))) rfl rfl (by decide) rfl (Ob_pick rfl rfl rfl rfl (pick_and _ _)) ?_; clear hok a; intro a hok
  refine s_runk TB_YW4 hok 1 rfl rfl ?_; clear hok a; intro a hok
  refine g_ob hok (p := (((((seqB d.1 ⟨#[2, 97, 98, 1, 249, 1, 44]⟩) && (d.2 == 0)) && (seqB t_2.1 ⟨#[97, 98]⟩)) && f_2.1) && (n0_3.1 == 300))) (v := .pointer (some ⟨g2, 0, none⟩)) (S' := [(3, .pointer (some ⟨g2, 0, none⟩))]) rfl rfl rfl (wantB_t _) rfl (by decide) (fun hp hS => hS.sub (ts := [3]) rfl) (fun hp => Ob_c TB_YW4 rfl) ?_; clear hok a; intro a hok
  refine h_gcall hok H (js := [(0, false)]) rfl (p := (((((seqB d.1 ⟨#[2, 97, 98, 1, 249, 1, 44]⟩) && (d.2 == 0)) && (seqB t_2.1 ⟨#[97, 98]⟩)) && f_2.1) && (n0_3.1 == 300))) (v := .int .i64 e) (S' := [(35, .pointer (some ⟨g2, 0, none⟩))]) (caps := #[]) (fun _ => [BxC g2 65 [.string ((cond ((((seqB d.1 ⟨#[2, 97, 98, 1, 249, 1, 44]⟩) && (d.2 == 0)) && (seqB t_2.1 ⟨#[97, 98]⟩)) && f_2.1) n0_3.2 (cond (((seqB d.1 ⟨#[2, 97, 98, 1, 249, 1, 44]⟩) && (d.2 == 0)) && (seqB t_2.1 ⟨#[97, 98]⟩)) f_2.2 (cond ((seqB d.1 ⟨#[2, 97, 98, 1, 249, 1, 44]⟩) && (d.2 == 0)) t_2.2 o))).s), .int .i64 ((cond ((((seqB d.1 ⟨#[2, 97, 98, 1, 249, 1, 44]⟩) && (d.2 == 0)) && (seqB t_2.1 ⟨#[97, 98]⟩)) && f_2.1) n0_3.2 (cond (((seqB d.1 ⟨#[2, 97, 98, 1, 249, 1, 44]⟩) && (d.2 == 0)) && (seqB t_2.1 ⟨#[97, 98]⟩)) f_2.2 (cond ((seqB d.1 ⟨#[2, 97, 98, 1, 249, 1, 44]⟩) && (d.2 == 0)) t_2.2 o))).at_), .int .i64 ((cond ((((seqB d.1 ⟨#[2, 97, 98, 1, 249, 1, 44]⟩) && (d.2 == 0)) && (seqB t_2.1 ⟨#[97, 98]⟩)) && f_2.1) n0_3.2 (cond (((seqB d.1 ⟨#[2, 97, 98, 1, 249, 1, 44]⟩) && (d.2 == 0)) && (seqB t_2.1 ⟨#[97, 98]⟩)) f_2.2 (cond ((seqB d.1 ⟨#[2, 97, 98, 1, 249, 1, 44]⟩) && (d.2 == 0)) t_2.2 o))).e), .bool ((cond ((((seqB d.1 ⟨#[2, 97, 98, 1, 249, 1, 44]⟩) && (d.2 == 0)) && (seqB t_2.1 ⟨#[97, 98]⟩)) && f_2.1) n0_3.2 (cond (((seqB d.1 ⟨#[2, 97, 98, 1, 249, 1, 44]⟩) && (d.2 == 0)) && (seqB t_2.1 ⟨#[97, 98]⟩)) f_2.2 (cond ((seqB d.1 ⟨#[2, 97, 98, 1, 249, 1, 44]⟩) && (d.2 == 0)) t_2.2 o))).made)]]) fn_31_YW4 rfl rfl rfl (wantB_t _) rfl (by decide) (fun hp hS => (hS.conv (t := 35) rfl (cond_t hp)).sub (ts := [35]) rfl) rfl rfl rfl rfl (fun hp D1 hS => have hq := c_wire_Reader_End (gif_in hx10 hp) hS; hq) (fun hp => H.sub [(0, false)] rfl) ?_; clear hok a H; intro a w10 I10 H hok
  replace H : Hf I D w I10 w10 [BxC g2 65 [.string ((cond ((((seqB d.1 ⟨#[2, 97, 98, 1, 249, 1, 44]⟩) && (d.2 == 0)) && (seqB t_2.1 ⟨#[97, 98]⟩)) && f_2.1) n0_3.2 (cond (((seqB d.1 ⟨#[2, 97, 98, 1, 249, 1, 44]⟩) && (d.2 == 0)) && (seqB t_2.1 ⟨#[97, 98]⟩)) f_2.2 (cond ((seqB d.1 ⟨#[2, 97, 98, 1, 249, 1, 44]⟩) && (d.2 == 0)) t_2.2 o))).s), .int .i64 ((cond ((((seqB d.1 ⟨#[2, 97, 98, 1, 249, 1, 44]⟩) && (d.2 == 0)) && (seqB t_2.1 ⟨#[97, 98]⟩)) && f_2.1) n0_3.2 (cond (((seqB d.1 ⟨#[2, 97, 98, 1, 249, 1, 44]⟩) && (d.2 == 0)) && (seqB t_2.1 ⟨#[97, 98]⟩)) f_2.2 (cond ((seqB d.1 ⟨#[2, 97, 98, 1, 249, 1, 44]⟩) && (d.2 == 0)) t_2.2 o))).at_), .int .i64 ((cond ((((seqB d.1 ⟨#[2, 97, 98, 1, 249, 1, 44]⟩) && (d.2 == 0)) && (seqB t_2.1 ⟨#[97, 98]⟩)) && f_2.1) n0_3.2 (cond (((seqB d.1 ⟨#[2, 97, 98, 1, 249, 1, 44]⟩) && (d.2 == 0)) && (seqB t_2.1 ⟨#[97, 98]⟩)) f_2.2 (cond ((seqB d.1 ⟨#[2, 97, 98, 1, 249, 1, 44]⟩) && (d.2 == 0)) t_2.2 o))).e), .bool ((cond ((((seqB d.1 ⟨#[2, 97, 98, 1, 249, 1, 44]⟩) && (d.2 == 0)) && (seqB t_2.1 ⟨#[97, 98]⟩)) && f_2.1) n0_3.2 (cond (((seqB d.1 ⟨#[2, 97, 98, 1, 249, 1, 44]⟩) && (d.2 == 0)) && (seqB t_2.1 ⟨#[97, 98]⟩)) f_2.2 (cond ((seqB d.1 ⟨#[2, 97, 98, 1, 249, 1, 44]⟩) && (d.2 == 0)) t_2.2 o))).made)]] := H
  refine g_ob hok (p := (((((seqB d.1 ⟨#[2, 97, 98, 1, 249, 1, 44]⟩) && (d.2 == 0)) && (seqB t_2.1 ⟨#[97, 98]⟩)) && f_2.1) && (n0_3.1 == 300))) (v := .bool (e == 0)) (S' := [(36, .int .i64 e)]) rfl rfl rfl (wantB_t _) rfl (by decide) (fun hp hS => (hS.conv (t := 36) rfl (cond_t hp)).sub (ts := [36]) rfl) (fun hp => Ob_c TB_YW4 rfl) ?_; clear hok a; intro a hok
  refine s_ob hok (v := .bool ((((((seqB d.1 ⟨#[2, 97, 98, 1, 249, 1, 44]⟩) && (d.2 == 0)) && (seqB t_2.1 ⟨#[97, 98]⟩)) && f_2.1) && (n0_3.1 == 300)) && (e == 0))) rfl rfl (by decide) rfl (Ob_pick rfl rfl rfl rfl (pick_and _ _)) ?_; clear hok a; intro a hok
  refine s_runk TB_YW4 hok 1 rfl rfl ?_; clear hok a; intro a hok
  refine s_end hok [0] rfl ?_; clear hok; intro hok
  refine p_then ?_
  refine wp_ret ?_
  obtain rfl := some_in hF
  exact f_ret hok (run_results1 rfl hok rfl) ⟨rfl, I10, (H.sub [] rfl).eq rfl⟩

def F_law02_WireReads_k2 (i : Int) (rc : (Int × ByteArray × Int × Int × Bool × ByteArray × Int × Int) → Option Bool) (ok : Bool) (r_s_2 : ByteArray) (r_at__2 : Int) (r_e_2 : Int) (r_made_2 : Bool) (x_s_2 : ByteArray) (x_at__2 : Int) (x_e_2 : Int) : Option Bool := (gif (!!ok) (F_wire_Reader_Err ({ s := r_s_2, at_ := r_at__2, e := r_e_2, made := r_made_2 } : Ewire_Reader)) default).bind fun e => ((gif (!(!ok || (e != x_e_2))) (F_wire_Reader_Left ({ s := r_s_2, at_ := r_at__2, e := r_e_2, made := r_made_2 } : Ewire_Reader)) default).bind fun l_2 => ((gif (!(!ok || (e != x_e_2))) (F_ref02_Reader_Left ({ s := x_s_2, at_ := x_at__2, e := x_e_2 } : Eref02_Reader)) default).bind fun l_3 => ((gif (!((!ok || (e != x_e_2)) || (l_2 != l_3))) (F_wire_Reader_End ({ s := r_s_2, at_ := r_at__2, e := r_e_2, made := r_made_2 } : Ewire_Reader)) default).bind fun e_2 => ((gif (!((!ok || (e != x_e_2)) || (l_2 != l_3))) (F_ref02_Reader_End ({ s := x_s_2, at_ := x_at__2, e := x_e_2 } : Eref02_Reader)) default).bind fun e_3 => (if (((!ok || (e != x_e_2)) || (l_2 != l_3)) || (e_2 != e_3)) = true then (some false) else (chk (inI (i + 1)) (rc (i + 1, r_s_2, r_at__2, r_e_2, r_made_2, x_s_2, x_at__2, x_e_2))))))))

def F_law02_WireReads_l1 (l : List Elaw02_Part) (rc : (Int × ByteArray × Int × Int × Bool × ByteArray × Int × Int) → Option Bool) (sg : Int × ByteArray × Int × Int × Bool × ByteArray × Int × Int) : Option Bool := match sg with | (i, r_s, r_at_, r_e, r_made, x_s, x_at_, x_e) => if ((decide (i < (l.length : Int))) && (decide (i < 40))) = true then (chk ((0 : Int) ≤ i ∧ i < (l.length : Int)) (if (((l.getD (i).toNat default).k) == 0) = true then (chk ((0 : Int) ≤ i ∧ i < (l.length : Int)) ((F_wire_Reader_Num ({ s := r_s, at_ := r_at_, e := r_e, made := r_made } : Ewire_Reader) ((l.getD (i).toNat default).n)).bind fun n0 => (chk ((0 : Int) ≤ i ∧ i < (l.length : Int)) ((F_ref02_Reader_Num ({ s := x_s, at_ := x_at_, e := x_e } : Eref02_Reader) ((l.getD (i).toNat default).n)).bind fun n0_2 => (F_law02_WireReads_k2 i rc (n0.1 == n0_2.1) n0.2.s n0.2.at_ n0.2.e n0.2.made n0_2.2.s n0_2.2.at_ n0_2.2.e))))) else (if (((l.getD (i).toNat default).k) == 1) = true then ((F_wire_Reader_Big ({ s := r_s, at_ := r_at_, e := r_e, made := r_made } : Ewire_Reader)).bind fun b => ((F_ref02_Reader_Big ({ s := x_s, at_ := x_at_, e := x_e } : Eref02_Reader)).bind fun b_2 => (F_law02_WireReads_k2 i rc (b.1 == b_2.1) b.2.s b.2.at_ b.2.e b.2.made b_2.2.s b_2.2.at_ b_2.2.e))) else (if (((l.getD (i).toNat default).k) == 2) = true then (chk ((0 : Int) ≤ i ∧ i < (l.length : Int)) ((F_wire_Reader_Text ({ s := r_s, at_ := r_at_, e := r_e, made := r_made } : Ewire_Reader) ((l.getD (i).toNat default).n)).bind fun t => (chk ((0 : Int) ≤ i ∧ i < (l.length : Int)) ((F_ref02_Reader_Text ({ s := x_s, at_ := x_at_, e := x_e } : Eref02_Reader) ((l.getD (i).toNat default).n)).bind fun t_2 => (F_law02_WireReads_k2 i rc (seqB t.1 t_2.1) t.2.s t.2.at_ t.2.e t.2.made t_2.2.s t_2.2.at_ t_2.2.e))))) else ((F_wire_Reader_Flag ({ s := r_s, at_ := r_at_, e := r_e, made := r_made } : Ewire_Reader)).bind fun f => ((F_ref02_Reader_Flag ({ s := x_s, at_ := x_at_, e := x_e } : Eref02_Reader)).bind fun f_2 => (F_law02_WireReads_k2 i rc (f.1 == f_2.1) f.2.s f.2.at_ f.2.e f.2.made f_2.2.s f_2.2.at_ f_2.2.e))))))) else ((F_law02_awake).bind fun a0 => (some a0))

def F_law02_WireReads (s0 : ByteArray) (l : List Elaw02_Part) : Option Bool := (F_wire_Open s0).bind fun o => (iter (F_law02_WireReads_l1 l) FU (0, o.s, o.at_, o.e, o.made, s0, 0, 0))

set_option maxHeartbeats 1000000 in
theorem c_law02_WireReads {I D : Dm} {s0 : ByteArray} {l : List Elaw02_Part} {v1_l : Value} {w : World} {rr : Bool} (hF : F_law02_WireReads s0 l = some rr) (H : St I D w [SlC NElaw02_Part v1_l l]) :
    Calls Try.prog 4 #[.string s0, v1_l] w (Ret fun vv w' => vv = .bool rr ∧ ∃ I', Hf I D w I' w' []) := by
  replace H := H.hf
  unfold F_law02_WireReads at hF
  refine f_enter 101 Try.func4 rfl rfl (Nat.le_of_ble_eq_true rfl) fun a hok => ?_
  replace hok := hok.sub (ts := [0, 1]) rfl
  refine wp_seq ?_
  refine f_region hok ?_; clear hok; intro hok
  refine s_runk TB_YW4 hok 1 rfl rfl ?_; clear hok a; intro a hok
  refine s_end hok [0, 1, 4] rfl ?_; clear hok; intro hok
  refine p_then ?_
  refine wp_seq ?_
  obtain ⟨o, hx1, hF⟩ := bnd_in hF
  refine f_region hok ?_; clear hok; intro hok
  refine s_runk TB_YW4 hok 1 rfl rfl ?_; clear hok a; intro a hok
  refine h_call hok H (js := []) rfl (caps := #[]) fn_19_YW4 rfl rfl rfl rfl rfl (by decide) rfl rfl (fun D1 hS => have hq := c_wire_Open hx1 hS; hq) ?_; clear hok a; intro vv a w1 D2 hr hF2 hok
  obtain ⟨g1, rfl, I1, K⟩ := hr
  have H : Hf I D w I1 w1 [BxC g1 65 [.string o.s, .int .i64 o.at_, .int .i64 o.e, .bool o.made], SlC NElaw02_Part v1_l l] := hF2 K
  clear hF2 K
  refine s_runk TB_YW4 hok 1 rfl rfl ?_; clear hok a; intro a hok
  refine s_end hok [0, 1, 4, 5] rfl ?_; clear hok; intro hok
  refine p_then ?_
  refine wp_seq ?_
  refine f_region hok ?_; clear hok; intro hok
  refine s_runk TB_YW4 hok 1 rfl rfl ?_; clear hok a; intro a hok
  refine s_ob hok (v := .agg #[.string s0, .int .i64 0, .int .i64 0]) rfl rfl (by decide) rfl (Ob_build (vs := [(0, .string s0)]) rfl rfl (by go_simp <;> rfl)) ?_; clear hok a; intro a hok
  refine h_boxv hok H (cl := [.string s0, .int .i64 0, .int .i64 0]) rfl rfl rfl (by decide) rfl rfl rfl ?_; clear hok a H; intro a w2 b1 H hok
  refine s_runk TB_YW4 hok 1 rfl rfl ?_; clear hok a; intro a hok
  refine s_end hok [1, 4, 5, 6] rfl ?_; clear hok; intro hok
  refine p_then ?_
  refine wp_seq ?_
  refine wp_seq ?_
  refine f_region hok ?_; clear hok; intro hok
  refine s_runk TB_YW4 hok 1 rfl rfl ?_; clear hok a; intro a hok
  refine s_end hok [1, 4, 5, 6, 7] rfl ?_; clear hok; intro hok
  refine p_then ?_
  refine wp_block ?_
  refine f_iter hF (fun sg a' w' => match sg with | (i, r_s, r_at_, r_e, r_made, x_s, x_at_, x_e) => Sl 101 [(1, v1_l), (4, .bool false), (5, .pointer (some ⟨g1, 0, none⟩)), (6, .pointer (some ⟨b1, 0, none⟩)), (7, .int .i64 i)] a' ∧ ∃ I2, Hf I D w I2 w' [BxC g1 65 [.string r_s, .int .i64 r_at_, .int .i64 r_e, .bool r_made], BxC b1 50 [.string x_s, .int .i64 x_at_, .int .i64 x_e], SlC NElaw02_Part v1_l l]) ⟨hok.sub (ts := [1, 4, 5, 6, 7]) rfl, ⟨I1, (H.sub [(1, false), (0, false), (0, true)] rfl).eq rfl⟩⟩ ?_
  clear hok H hF a
  rintro rc ⟨i, r_s, r_at_, r_e, r_made, x_s, x_at_, x_e⟩ a w3 ⟨hok, I2, H⟩ hF
  unfold F_law02_WireReads_l1 at hF
  try dsimp only at hF
  refine wp_seq ?_
  refine wp_seq ?_
  refine f_region hok ?_; clear hok; intro hok
  refine s_runk TB_YW4 hok 2 rfl rfl ?_; clear hok a; intro a hok
  refine s_ob hok (v := .int .i64 (l.length : Int)) rfl rfl (by decide) rfl (Ob_slen TB_YW4 rfl rfl rfl (H.slshape 2 rfl)) ?_; clear hok a; intro a hok
  refine s_runk TB_YW4 hok 2 rfl rfl ?_; clear hok a; intro a hok
  refine g_ob hok (p := (decide (i < (l.length : Int)))) (v := .int .i64 i) (S' := [(7, .int .i64 i)]) rfl rfl rfl (wantB_t _) rfl (by decide) (fun hp hS => hS.sub (ts := [7]) rfl) (fun hp => Ob_c TB_YW4 rfl) ?_; clear hok a; intro a hok
  refine g_ob hok (p := (decide (i < (l.length : Int)))) (v := .bool (decide (i < 40))) (S' := [(19, .int .i64 i)]) rfl rfl rfl (wantB_t _) rfl (by decide) (fun hp hS => (hS.conv (t := 19) rfl (cond_t hp)).sub (ts := [19]) rfl) (fun hp => Ob_c TB_YW4 rfl) ?_; clear hok a; intro a hok
  refine s_ob hok (v := .bool ((decide (i < (l.length : Int))) && (decide (i < 40)))) rfl rfl (by decide) rfl (Ob_pick rfl rfl rfl rfl (pick_and _ _)) ?_; clear hok a; intro a hok
  refine s_end hok [1, 4, 5, 6, 7, 14, 15, 16, 17, 18, 21] rfl ?_; clear hok; intro hok
  refine p_then ?_
  refine f_cond hok rfl (fun hc1 => ?_) (fun hc1 => ?_)
  · replace hF := ite_t hc1 hF
    refine wp_skip ?_
    refine p_then ?_
    refine wp_seq ?_
    refine wp_block ?_
    refine wp_seq ?_
    refine f_region hok ?_; clear hok; intro hok
    refine s_runk TB_YW4 hok 1 rfl rfl ?_; clear hok a; intro a hok
    refine s_end hok [1, 4, 5, 6, 7, 14, 15, 16, 17, 18, 21, 8] rfl ?_; clear hok; intro hok
    refine p_then ?_
    refine f_cut (fun a' w' => ∃ (ok : Bool) (r_s_2 : ByteArray) (r_at__2 : Int) (r_e_2 : Int) (r_made_2 : Bool) (x_s_2 : ByteArray) (x_at__2 : Int) (x_e_2 : Int), Sl 101 [(1, v1_l), (4, .bool false), (5, .pointer (some ⟨g1, 0, none⟩)), (6, .pointer (some ⟨b1, 0, none⟩)), (7, .int .i64 i), (8, .bool ok), (14, .int .i64 i), (15, v1_l), (16, .int .i64 (l.length : Int)), (17, .bool (decide (i < (l.length : Int)))), (18, .bool (decide (i < (l.length : Int)))), (21, .bool ((decide (i < (l.length : Int))) && (decide (i < 40)))), (24, v1_l), (25, .int .i64 i), (26, .pointer (some ⟨blkOf v1_l, oofOf v1_l + (i).toNat * 5, none⟩)), (27, .pointer (some ⟨blkOf v1_l, oofOf v1_l + (i).toNat * 5, none⟩)), (28, .int .i64 ((l.getD (i).toNat default).k)), (34, .bool (((l.getD (i).toNat default).k) == 0)), (35, .bool (((l.getD (i).toNat default).k) == 0))] a' ∧ (∃ I2, Hf I D w I2 w' [BxC g1 65 [.string r_s_2, .int .i64 r_at__2, .int .i64 r_e_2, .bool r_made_2], BxC b1 50 [.string x_s_2, .int .i64 x_at__2, .int .i64 x_e_2], SlC NElaw02_Part v1_l l]) ∧ F_law02_WireReads_k2 i rc ok r_s_2 r_at__2 r_e_2 r_made_2 x_s_2 x_at__2 x_e_2 = some rr) ?_ ?_
    · rintro a w4 ⟨ok, r_s_2, r_at__2, r_e_2, r_made_2, x_s_2, x_at__2, x_e_2, hok, ⟨I3, H⟩, hF⟩
      unfold F_law02_WireReads_k2 at hF
      try dsimp only at hF
      refine wp_seq ?_
      obtain ⟨e, hx2, hF⟩ := bnd_in hF
      obtain ⟨l_2, hx3, hF⟩ := bnd_in hF
      obtain ⟨l_3, hx4, hF⟩ := bnd_in hF
      obtain ⟨e_2, hx5, hF⟩ := bnd_in hF
      obtain ⟨e_3, hx6, hF⟩ := bnd_in hF
      refine f_regionL hok (by kernel_rfl) (by kernel_rfl) (by decide) (by decide) [4, 13, 15, 20, 22] [(0, 0, 0), (1, 0, 0), (3, 0, 0), (7, 0, 0), (15, 0, 0), (7, 0, 1), (39, 0, 1), (103, 0, 1), (231, 0, 1), (511, 1, 1), (1023, 1, 1), (2047, 1, 1), (4095, 1, 1), (8191, 1, 1), (4095, 1, 2), (32767, 2, 2), (65535, 3, 3), (131071, 3, 3), (262143, 3, 3), (524287, 3, 3), (1048575, 3, 3), (524287, 3, 4), (4194303, 4, 4), (8388607, 5, 5), (16777215, 5, 5)] (by kernel_rfl) (fun jj vv => cond (Nat.blt jj 12) (cond (Nat.blt jj 6) (cond (Nat.blt jj 3) (cond (Nat.blt jj 1) (vv = .bool ok) (cond (Nat.blt jj 2) (vv = .bool !ok) (vv = .bool !ok))) (cond (Nat.blt jj 4) (vv = cond (!!ok) (.pointer (some ⟨g1, 0, none⟩)) undef) (cond (Nat.blt jj 5) (vv = cond (!!ok) (.int .i64 e) undef) (vv = cond (!!ok) (.pointer (some ⟨b1, 0, none⟩)) undef)))) (cond (Nat.blt jj 9) (cond (Nat.blt jj 7) (vv = cond (!!ok) (.pointer (some ⟨b1, 0, none⟩)) undef) (cond (Nat.blt jj 8) (vv = cond (!!ok) (.pointer (some ⟨b1, 2, none⟩)) undef) (vv = cond (!!ok) (.int .i64 x_e_2) undef))) (cond (Nat.blt jj 10) (vv = cond (!!ok) (.bool (e != x_e_2)) undef) (cond (Nat.blt jj 11) (vv = .bool (!ok || (e != x_e_2))) (vv = .bool (!ok || (e != x_e_2))))))) (cond (Nat.blt jj 18) (cond (Nat.blt jj 15) (cond (Nat.blt jj 13) (vv = cond (!(!ok || (e != x_e_2))) (.pointer (some ⟨g1, 0, none⟩)) undef) (cond (Nat.blt jj 14) (vv = cond (!(!ok || (e != x_e_2))) (.int .i64 l_2) undef) (vv = cond (!(!ok || (e != x_e_2))) (.pointer (some ⟨b1, 0, none⟩)) undef))) (cond (Nat.blt jj 16) (vv = cond (!(!ok || (e != x_e_2))) (.int .i64 l_3) undef) (cond (Nat.blt jj 17) (vv = cond (!(!ok || (e != x_e_2))) (.bool (l_2 != l_3)) undef) (vv = .bool ((!ok || (e != x_e_2)) || (l_2 != l_3)))))) (cond (Nat.blt jj 21) (cond (Nat.blt jj 19) (vv = .bool ((!ok || (e != x_e_2)) || (l_2 != l_3))) (cond (Nat.blt jj 20) (vv = cond (!((!ok || (e != x_e_2)) || (l_2 != l_3))) (.pointer (some ⟨g1, 0, none⟩)) undef) (vv = cond (!((!ok || (e != x_e_2)) || (l_2 != l_3))) (.int .i64 e_2) undef))) (cond (Nat.blt jj 23) (cond (Nat.blt jj 22) (vv = cond (!((!ok || (e != x_e_2)) || (l_2 != l_3))) (.pointer (some ⟨b1, 0, none⟩)) undef) (vv = cond (!((!ok || (e != x_e_2)) || (l_2 != l_3))) (.int .i64 e_3) undef)) (cond (Nat.blt jj 24) (vv = cond (!((!ok || (e != x_e_2)) || (l_2 != l_3))) (.bool (e_2 != e_3)) undef) (vv = .bool (((!ok || (e != x_e_2)) || (l_2 != l_3)) || (e_2 != e_3)))))))) (fun ss vals1 xw => match ss with | 0 => Gx I D w I3 w4 xw [BxC g1 65 [.string r_s_2, .int .i64 r_at__2, .int .i64 r_e_2, .bool r_made_2], BxC b1 50 [.string x_s_2, .int .i64 x_at__2, .int .i64 x_e_2], SlC NElaw02_Part v1_l l] | 1 => Gx I D w I3 w4 xw [BxC g1 65 [.string r_s_2, .int .i64 r_at__2, .int .i64 r_e_2, .bool r_made_2], BxC b1 50 [.string x_s_2, .int .i64 x_at__2, .int .i64 x_e_2], SlC NElaw02_Part v1_l l] | 2 => Gx I D w I3 w4 xw [BxC g1 65 [.string r_s_2, .int .i64 r_at__2, .int .i64 r_e_2, .bool r_made_2], BxC b1 50 [.string x_s_2, .int .i64 x_at__2, .int .i64 x_e_2], SlC NElaw02_Part v1_l l] | 3 => Gx I D w I3 w4 xw [BxC b1 50 [.string x_s_2, .int .i64 x_at__2, .int .i64 x_e_2], BxC g1 65 [.string r_s_2, .int .i64 r_at__2, .int .i64 r_e_2, .bool r_made_2], SlC NElaw02_Part v1_l l] | 4 => Gx I D w I3 w4 xw [BxC g1 65 [.string r_s_2, .int .i64 r_at__2, .int .i64 r_e_2, .bool r_made_2], BxC b1 50 [.string x_s_2, .int .i64 x_at__2, .int .i64 x_e_2], SlC NElaw02_Part v1_l l] | _ => Gx I D w I3 w4 xw [BxC b1 50 [.string x_s_2, .int .i64 x_at__2, .int .i64 x_e_2], BxC g1 65 [.string r_s_2, .int .i64 r_at__2, .int .i64 r_e_2, .bool r_made_2], SlC NElaw02_Part v1_l l]) (fun _ => Gx.start H) ?_ ?_
      · intro fr hfr hfe
        refine .cons (fun ss hlo hhi vals1 xw hG hV => ?_) ?_
        · obtain rfl : ss = 0 := Nat.le_antisymm hhi hlo
          rw [← hfe]
          have hS := (hfr vals1).sub (ts := [8]) (S' := [(8, .bool ok)]) rfl
          exact L_val hS rfl (Ob_c TB_YW4 rfl) ⟨rfl, hG⟩
        refine .cons (fun ss hlo hhi vals1 xw hG hV => ?_) ?_
        · obtain rfl : ss = 0 := Nat.le_antisymm hhi hlo
          rw [← hfe]
          have hS := (hfr vals1).sub (ts := [75]) (S' := [(75, vals1 0)]) rfl
          have hf0 : (vals1 0) = .bool ok := hV 0 (by decide)
          replace hS := hS.conv (t := 75) rfl hf0
          exact L_val hS rfl (Ob_c TB_YW4 rfl) ⟨rfl, hG⟩
        refine .cons (fun ss hlo hhi vals1 xw hG hV => ?_) ?_
        · obtain rfl : ss = 0 := Nat.le_antisymm hhi hlo
          rw [← hfe]
          have hS := (hfr vals1).sub (ts := [76]) (S' := [(76, vals1 1)]) rfl
          have hf1 : (vals1 1) = .bool !ok := hV 1 (by decide)
          replace hS := hS.conv (t := 76) rfl hf1
          exact L_val hS rfl (Ob_c TB_YW4 rfl) ⟨rfl, hG⟩
        refine .cons (fun ss hlo hhi vals1 xw hG hV => ?_) ?_
        · obtain rfl : ss = 0 := Nat.le_antisymm hhi hlo
          rw [← hfe]
          have hS := (hfr vals1).sub (ts := [77, 5]) (S' := [(77, vals1 2), (5, .pointer (some ⟨g1, 0, none⟩))]) rfl
          have hf2 : (vals1 2) = .bool !ok := hV 2 (by decide)
          replace hS := hS.conv (t := 77) rfl hf2
          refine L_gw (p := (!!ok)) hS rfl rfl rfl (wantB_f _) (fun hp => ?_) (fun hp => ⟨by rw [hp]; rfl, hG⟩)
          exact L_val hS rfl (Ob_c TB_YW4 rfl) ⟨(by rw [hp]; rfl), hG⟩
        refine .cons (fun ss hlo hhi vals1 xw hG hV => ?_) ?_
        · obtain rfl : ss = 0 := Nat.le_antisymm hhi hlo
          rw [← hfe]
          have hS := (hfr vals1).sub (ts := [78, 77]) (S' := [(78, vals1 3), (77, vals1 2)]) rfl
          have hf3 : (vals1 3) = cond (!!ok) (.pointer (some ⟨g1, 0, none⟩)) undef := hV 3 (by decide)
          replace hS := hS.conv (t := 78) rfl hf3
          have hf2 : (vals1 2) = .bool !ok := hV 2 (by decide)
          replace hS := hS.conv (t := 77) rfl hf2
          refine L_gw (p := (!!ok)) hS rfl rfl rfl (wantB_f _) (fun hp => ?_) (fun hp => ⟨by rw [hp]; rfl, ?_⟩)
          · obtain ⟨I2, hI2, H⟩ := Gx.ex hG
            replace hS := hS.conv (t := 78) rfl (cond_t hp)
            refine L_hcall H (js := [(0, false)]) rfl (caps := #[]) hS fn_28_YW4 rfl rfl rfl rfl rfl (fun D1 hS => have hq := c_wire_Reader_Err (gif_in hx2 hp) hS; hq) fun _ yw D1 hr hF2 => ?_
            obtain ⟨rfl, I3, K⟩ := hr
            obtain ⟨hK, H2⟩ := hF2 K
            exact ⟨by rw [hp]; rfl, by first | (rw [hp]; exact Gx.go hG hI2 hK K.imm H2) | exact Gx.go hG hI2 hK K.imm H2⟩
          · (try rw [hp]); obtain ⟨I2, hI2, H⟩ := Gx.ex hG; exact Gx.go hG hI2 (Keep.refl _ _) (fun _ h => h) (H.sub [(0, false), (0, false), (0, true)] rfl)
        refine .cons (fun ss hlo hhi vals1 xw hG hV => ?_) ?_
        · obtain rfl | rfl : ss = 0 ∨ ss = 1 := st1 hlo hhi
          · rw [← hfe]
            have hS := (hfr vals1).sub (ts := [77, 6]) (S' := [(77, vals1 2), (6, .pointer (some ⟨b1, 0, none⟩))]) rfl
            have hf2 : (vals1 2) = .bool !ok := hV 2 (by decide)
            replace hS := hS.conv (t := 77) rfl hf2
            refine L_gw (p := (!!ok)) hS rfl rfl rfl (wantB_f _) (fun hp => ?_) (fun hp => ⟨by rw [hp]; rfl, hG⟩)
            exact L_val hS rfl (Ob_c TB_YW4 rfl) ⟨(by rw [hp]; rfl), hG⟩
          · rw [← hfe]
            have hS := (hfr vals1).sub (ts := [77, 6]) (S' := [(77, vals1 2), (6, .pointer (some ⟨b1, 0, none⟩))]) rfl
            have hf2 : (vals1 2) = .bool !ok := hV 2 (by decide)
            replace hS := hS.conv (t := 77) rfl hf2
            refine L_gw (p := (!!ok)) hS rfl rfl rfl (wantB_f _) (fun hp => ?_) (fun hp => ⟨by rw [hp]; rfl, hG⟩)
            exact L_val hS rfl (Ob_c TB_YW4 rfl) ⟨(by rw [hp]; rfl), hG⟩
        refine .cons (fun ss hlo hhi vals1 xw hG hV => ?_) ?_
        · obtain rfl | rfl : ss = 0 ∨ ss = 1 := st1 hlo hhi
          · rw [← hfe]
            have hS := (hfr vals1).sub (ts := [80, 77]) (S' := [(80, vals1 5), (77, vals1 2)]) rfl
            have hf5 : (vals1 5) = cond (!!ok) (.pointer (some ⟨b1, 0, none⟩)) undef := hV 5 (by decide)
            replace hS := hS.conv (t := 80) rfl hf5
            have hf2 : (vals1 2) = .bool !ok := hV 2 (by decide)
            replace hS := hS.conv (t := 77) rfl hf2
            refine L_gw (p := (!!ok)) hS rfl rfl rfl (wantB_f _) (fun hp => ?_) (fun hp => ⟨by rw [hp]; rfl, hG⟩)
            replace hS := hS.conv (t := 80) rfl (cond_t hp)
            exact L_val hS rfl (Ob_c TB_YW4 rfl) ⟨(by rw [hp]; rfl), hG⟩
          · rw [← hfe]
            have hS := (hfr vals1).sub (ts := [80, 77]) (S' := [(80, vals1 5), (77, vals1 2)]) rfl
            have hf5 : (vals1 5) = cond (!!ok) (.pointer (some ⟨b1, 0, none⟩)) undef := hV 5 (by decide)
            replace hS := hS.conv (t := 80) rfl hf5
            have hf2 : (vals1 2) = .bool !ok := hV 2 (by decide)
            replace hS := hS.conv (t := 77) rfl hf2
            refine L_gw (p := (!!ok)) hS rfl rfl rfl (wantB_f _) (fun hp => ?_) (fun hp => ⟨by rw [hp]; rfl, hG⟩)
            replace hS := hS.conv (t := 80) rfl (cond_t hp)
            exact L_val hS rfl (Ob_c TB_YW4 rfl) ⟨(by rw [hp]; rfl), hG⟩
        refine .cons (fun ss hlo hhi vals1 xw hG hV => ?_) ?_
        · obtain rfl | rfl : ss = 0 ∨ ss = 1 := st1 hlo hhi
          · rw [← hfe]
            have hS := (hfr vals1).sub (ts := [81, 77]) (S' := [(81, vals1 6), (77, vals1 2)]) rfl
            have hf6 : (vals1 6) = cond (!!ok) (.pointer (some ⟨b1, 0, none⟩)) undef := hV 6 (by decide)
            replace hS := hS.conv (t := 81) rfl hf6
            have hf2 : (vals1 2) = .bool !ok := hV 2 (by decide)
            replace hS := hS.conv (t := 77) rfl hf2
            refine L_gw (p := (!!ok)) hS rfl rfl rfl (wantB_f _) (fun hp => ?_) (fun hp => ⟨by rw [hp]; rfl, hG⟩)
            replace hS := hS.conv (t := 81) rfl (cond_t hp)
            exact L_val hS rfl (Ob_c TB_YW4 rfl) ⟨(by rw [hp]; rfl), hG⟩
          · rw [← hfe]
            have hS := (hfr vals1).sub (ts := [81, 77]) (S' := [(81, vals1 6), (77, vals1 2)]) rfl
            have hf6 : (vals1 6) = cond (!!ok) (.pointer (some ⟨b1, 0, none⟩)) undef := hV 6 (by decide)
            replace hS := hS.conv (t := 81) rfl hf6
            have hf2 : (vals1 2) = .bool !ok := hV 2 (by decide)
            replace hS := hS.conv (t := 77) rfl hf2
            refine L_gw (p := (!!ok)) hS rfl rfl rfl (wantB_f _) (fun hp => ?_) (fun hp => ⟨by rw [hp]; rfl, hG⟩)
            replace hS := hS.conv (t := 81) rfl (cond_t hp)
            exact L_val hS rfl (Ob_c TB_YW4 rfl) ⟨(by rw [hp]; rfl), hG⟩
        refine .cons (fun ss hlo hhi vals1 xw hG hV => ?_) ?_
        · obtain rfl | rfl : ss = 0 ∨ ss = 1 := st1 hlo hhi
          · rw [← hfe]
            have hS := (hfr vals1).sub (ts := [82, 77]) (S' := [(82, vals1 7), (77, vals1 2)]) rfl
            have hf7 : (vals1 7) = cond (!!ok) (.pointer (some ⟨b1, 2, none⟩)) undef := hV 7 (by decide)
            replace hS := hS.conv (t := 82) rfl hf7
            have hf2 : (vals1 2) = .bool !ok := hV 2 (by decide)
            replace hS := hS.conv (t := 77) rfl hf2
            refine L_gw (p := (!!ok)) hS rfl rfl rfl (wantB_f _) (fun hp => ?_) (fun hp => ⟨by rw [hp]; rfl, hG⟩)
            replace hS := hS.conv (t := 82) rfl (cond_t hp)
            obtain ⟨I2, hI2, H⟩ := Gx.ex hG
            exact L_val hS rfl (Ob_load TB_YW4 rfl rfl rfl ((H.bx 1 rfl).cell 2 rfl)) ⟨(by rw [hp]; rfl), hG⟩
          · rw [← hfe]
            have hS := (hfr vals1).sub (ts := [82, 77]) (S' := [(82, vals1 7), (77, vals1 2)]) rfl
            have hf7 : (vals1 7) = cond (!!ok) (.pointer (some ⟨b1, 2, none⟩)) undef := hV 7 (by decide)
            replace hS := hS.conv (t := 82) rfl hf7
            have hf2 : (vals1 2) = .bool !ok := hV 2 (by decide)
            replace hS := hS.conv (t := 77) rfl hf2
            refine L_gw (p := (!!ok)) hS rfl rfl rfl (wantB_f _) (fun hp => ?_) (fun hp => ⟨by rw [hp]; rfl, hG⟩)
            replace hS := hS.conv (t := 82) rfl (cond_t hp)
            obtain ⟨I2, hI2, H⟩ := Gx.ex hG
            exact L_val hS rfl (Ob_load TB_YW4 rfl rfl rfl ((H.bx 1 rfl).cell 2 rfl)) ⟨(by rw [hp]; rfl), hG⟩
        refine .cons (fun ss hlo hhi vals1 xw hG hV => ?_) ?_
        · obtain rfl : ss = 1 := Nat.le_antisymm hhi hlo
          rw [← hfe]
          have hS := (hfr vals1).sub (ts := [79, 83, 77]) (S' := [(79, vals1 4), (83, vals1 8), (77, vals1 2)]) rfl
          have hf4 : (vals1 4) = cond (!!ok) (.int .i64 e) undef := hV 4 (by decide)
          replace hS := hS.conv (t := 79) rfl hf4
          have hf8 : (vals1 8) = cond (!!ok) (.int .i64 x_e_2) undef := hV 8 (by decide)
          replace hS := hS.conv (t := 83) rfl hf8
          have hf2 : (vals1 2) = .bool !ok := hV 2 (by decide)
          replace hS := hS.conv (t := 77) rfl hf2
          refine L_gw (p := (!!ok)) hS rfl rfl rfl (wantB_f _) (fun hp => ?_) (fun hp => ⟨by rw [hp]; rfl, hG⟩)
          replace hS := hS.conv (t := 79) rfl (cond_t hp)
          replace hS := hS.conv (t := 83) rfl (cond_t hp)
          exact L_val hS rfl (Ob_c TB_YW4 rfl) ⟨(by rw [hp]; rfl), hG⟩
        refine .cons (fun ss hlo hhi vals1 xw hG hV => ?_) ?_
        · obtain rfl : ss = 1 := Nat.le_antisymm hhi hlo
          rw [← hfe]
          have hS := (hfr vals1).sub (ts := [77, 84]) (S' := [(77, vals1 2), (84, vals1 9)]) rfl
          have hf2 : (vals1 2) = .bool !ok := hV 2 (by decide)
          replace hS := hS.conv (t := 77) rfl hf2
          have hf9 : (vals1 9) = cond (!!ok) (.bool (e != x_e_2)) undef := hV 9 (by decide)
          replace hS := hS.conv (t := 84) rfl hf9
          exact L_val hS rfl (Ob_pick rfl rfl rfl rfl (pick_or _ _)) ⟨rfl, hG⟩
        refine .cons (fun ss hlo hhi vals1 xw hG hV => ?_) ?_
        · obtain rfl : ss = 1 := Nat.le_antisymm hhi hlo
          rw [← hfe]
          have hS := (hfr vals1).sub (ts := [85]) (S' := [(85, vals1 10)]) rfl
          have hf10 : (vals1 10) = .bool (!ok || (e != x_e_2)) := hV 10 (by decide)
          replace hS := hS.conv (t := 85) rfl hf10
          exact L_val hS rfl (Ob_c TB_YW4 rfl) ⟨rfl, hG⟩
        refine .cons (fun ss hlo hhi vals1 xw hG hV => ?_) ?_
        · obtain rfl : ss = 1 := Nat.le_antisymm hhi hlo
          rw [← hfe]
          have hS := (hfr vals1).sub (ts := [86, 5]) (S' := [(86, vals1 11), (5, .pointer (some ⟨g1, 0, none⟩))]) rfl
          have hf11 : (vals1 11) = .bool (!ok || (e != x_e_2)) := hV 11 (by decide)
          replace hS := hS.conv (t := 86) rfl hf11
          refine L_gw (p := (!(!ok || (e != x_e_2)))) hS rfl rfl rfl (wantB_f _) (fun hp => ?_) (fun hp => ⟨by rw [hp]; rfl, hG⟩)
          exact L_val hS rfl (Ob_c TB_YW4 rfl) ⟨(by rw [hp]; rfl), hG⟩
        refine .cons (fun ss hlo hhi vals1 xw hG hV => ?_) ?_
        · obtain rfl : ss = 1 := Nat.le_antisymm hhi hlo
          rw [← hfe]
          have hS := (hfr vals1).sub (ts := [87, 86]) (S' := [(87, vals1 12), (86, vals1 11)]) rfl
          have hf12 : (vals1 12) = cond (!(!ok || (e != x_e_2))) (.pointer (some ⟨g1, 0, none⟩)) undef := hV 12 (by decide)
          replace hS := hS.conv (t := 87) rfl hf12
          have hf11 : (vals1 11) = .bool (!ok || (e != x_e_2)) := hV 11 (by decide)
          replace hS := hS.conv (t := 86) rfl hf11
          refine L_gw (p := (!(!ok || (e != x_e_2)))) hS rfl rfl rfl (wantB_f _) (fun hp => ?_) (fun hp => ⟨by rw [hp]; rfl, ?_⟩)
          · obtain ⟨I2, hI2, H⟩ := Gx.ex hG
            replace hS := hS.conv (t := 87) rfl (cond_t hp)
            refine L_hcall H (js := [(0, false)]) rfl (caps := #[]) hS fn_29_YW4 rfl rfl rfl rfl rfl (fun D1 hS => have hq := c_wire_Reader_Left (gif_in hx3 hp) hS; hq) fun _ yw D1 hr hF2 => ?_
            obtain ⟨rfl, I3, K⟩ := hr
            obtain ⟨hK, H2⟩ := hF2 K
            exact ⟨by rw [hp]; rfl, by first | (rw [hp]; exact Gx.go hG hI2 hK K.imm H2) | exact Gx.go hG hI2 hK K.imm H2⟩
          · (try rw [hp]); obtain ⟨I2, hI2, H⟩ := Gx.ex hG; exact Gx.go hG hI2 (Keep.refl _ _) (fun _ h => h) (H.sub [(0, false), (0, false), (0, true)] rfl)
        refine .cons (fun ss hlo hhi vals1 xw hG hV => ?_) ?_
        · obtain rfl | rfl : ss = 1 ∨ ss = 2 := st1 hlo hhi
          · rw [← hfe]
            have hS := (hfr vals1).sub (ts := [86, 6]) (S' := [(86, vals1 11), (6, .pointer (some ⟨b1, 0, none⟩))]) rfl
            have hf11 : (vals1 11) = .bool (!ok || (e != x_e_2)) := hV 11 (by decide)
            replace hS := hS.conv (t := 86) rfl hf11
            refine L_gw (p := (!(!ok || (e != x_e_2)))) hS rfl rfl rfl (wantB_f _) (fun hp => ?_) (fun hp => ⟨by rw [hp]; rfl, hG⟩)
            exact L_val hS rfl (Ob_c TB_YW4 rfl) ⟨(by rw [hp]; rfl), hG⟩
          · rw [← hfe]
            have hS := (hfr vals1).sub (ts := [86, 6]) (S' := [(86, vals1 11), (6, .pointer (some ⟨b1, 0, none⟩))]) rfl
            have hf11 : (vals1 11) = .bool (!ok || (e != x_e_2)) := hV 11 (by decide)
            replace hS := hS.conv (t := 86) rfl hf11
            refine L_gw (p := (!(!ok || (e != x_e_2)))) hS rfl rfl rfl (wantB_f _) (fun hp => ?_) (fun hp => ⟨by rw [hp]; rfl, hG⟩)
            exact L_val hS rfl (Ob_c TB_YW4 rfl) ⟨(by rw [hp]; rfl), hG⟩
        refine .cons (fun ss hlo hhi vals1 xw hG hV => ?_) ?_
        · obtain rfl : ss = 2 := Nat.le_antisymm hhi hlo
          rw [← hfe]
          have hS := (hfr vals1).sub (ts := [89, 86]) (S' := [(89, vals1 14), (86, vals1 11)]) rfl
          have hf14 : (vals1 14) = cond (!(!ok || (e != x_e_2))) (.pointer (some ⟨b1, 0, none⟩)) undef := hV 14 (by decide)
          replace hS := hS.conv (t := 89) rfl hf14
          have hf11 : (vals1 11) = .bool (!ok || (e != x_e_2)) := hV 11 (by decide)
          replace hS := hS.conv (t := 86) rfl hf11
          refine L_gw (p := (!(!ok || (e != x_e_2)))) hS rfl rfl rfl (wantB_f _) (fun hp => ?_) (fun hp => ⟨by rw [hp]; rfl, ?_⟩)
          · obtain ⟨I2, hI2, H⟩ := Gx.ex hG
            replace hS := hS.conv (t := 89) rfl (cond_t hp)
            refine L_hcall H (js := [(1, false)]) rfl (caps := #[]) hS fn_30_YW4 rfl rfl rfl rfl rfl (fun D1 hS => have hq := c_ref02_Reader_Left (gif_in hx4 hp) hS; hq) fun _ yw D1 hr hF2 => ?_
            obtain ⟨rfl, I3, K⟩ := hr
            obtain ⟨hK, H2⟩ := hF2 K
            exact ⟨by rw [hp]; rfl, by first | (rw [hp]; exact Gx.go hG hI2 hK K.imm H2) | exact Gx.go hG hI2 hK K.imm H2⟩
          · (try rw [hp]); obtain ⟨I2, hI2, H⟩ := Gx.ex hG; exact Gx.go hG hI2 (Keep.refl _ _) (fun _ h => h) (H.sub [(1, false), (0, false), (0, true)] rfl)
        refine .cons (fun ss hlo hhi vals1 xw hG hV => ?_) ?_
        · obtain rfl : ss = 3 := Nat.le_antisymm hhi hlo
          rw [← hfe]
          have hS := (hfr vals1).sub (ts := [88, 90, 86]) (S' := [(88, vals1 13), (90, vals1 15), (86, vals1 11)]) rfl
          have hf13 : (vals1 13) = cond (!(!ok || (e != x_e_2))) (.int .i64 l_2) undef := hV 13 (by decide)
          replace hS := hS.conv (t := 88) rfl hf13
          have hf15 : (vals1 15) = cond (!(!ok || (e != x_e_2))) (.int .i64 l_3) undef := hV 15 (by decide)
          replace hS := hS.conv (t := 90) rfl hf15
          have hf11 : (vals1 11) = .bool (!ok || (e != x_e_2)) := hV 11 (by decide)
          replace hS := hS.conv (t := 86) rfl hf11
          refine L_gw (p := (!(!ok || (e != x_e_2)))) hS rfl rfl rfl (wantB_f _) (fun hp => ?_) (fun hp => ⟨by rw [hp]; rfl, hG⟩)
          replace hS := hS.conv (t := 88) rfl (cond_t hp)
          replace hS := hS.conv (t := 90) rfl (cond_t hp)
          exact L_val hS rfl (Ob_c TB_YW4 rfl) ⟨(by rw [hp]; rfl), hG⟩
        refine .cons (fun ss hlo hhi vals1 xw hG hV => ?_) ?_
        · obtain rfl : ss = 3 := Nat.le_antisymm hhi hlo
          rw [← hfe]
          have hS := (hfr vals1).sub (ts := [86, 91]) (S' := [(86, vals1 11), (91, vals1 16)]) rfl
          have hf11 : (vals1 11) = .bool (!ok || (e != x_e_2)) := hV 11 (by decide)
          replace hS := hS.conv (t := 86) rfl hf11
          have hf16 : (vals1 16) = cond (!(!ok || (e != x_e_2))) (.bool (l_2 != l_3)) undef := hV 16 (by decide)
          replace hS := hS.conv (t := 91) rfl hf16
          exact L_val hS rfl (Ob_pick rfl rfl rfl rfl (pick_or _ _)) ⟨rfl, hG⟩
        refine .cons (fun ss hlo hhi vals1 xw hG hV => ?_) ?_
        · obtain rfl : ss = 3 := Nat.le_antisymm hhi hlo
          rw [← hfe]
          have hS := (hfr vals1).sub (ts := [92]) (S' := [(92, vals1 17)]) rfl
          have hf17 : (vals1 17) = .bool ((!ok || (e != x_e_2)) || (l_2 != l_3)) := hV 17 (by decide)
          replace hS := hS.conv (t := 92) rfl hf17
          exact L_val hS rfl (Ob_c TB_YW4 rfl) ⟨rfl, hG⟩
        refine .cons (fun ss hlo hhi vals1 xw hG hV => ?_) ?_
        · obtain rfl : ss = 3 := Nat.le_antisymm hhi hlo
          rw [← hfe]
          have hS := (hfr vals1).sub (ts := [93, 5]) (S' := [(93, vals1 18), (5, .pointer (some ⟨g1, 0, none⟩))]) rfl
          have hf18 : (vals1 18) = .bool ((!ok || (e != x_e_2)) || (l_2 != l_3)) := hV 18 (by decide)
          replace hS := hS.conv (t := 93) rfl hf18
          refine L_gw (p := (!((!ok || (e != x_e_2)) || (l_2 != l_3)))) hS rfl rfl rfl (wantB_f _) (fun hp => ?_) (fun hp => ⟨by rw [hp]; rfl, hG⟩)
          exact L_val hS rfl (Ob_c TB_YW4 rfl) ⟨(by rw [hp]; rfl), hG⟩
        refine .cons (fun ss hlo hhi vals1 xw hG hV => ?_) ?_
        · obtain rfl : ss = 3 := Nat.le_antisymm hhi hlo
          rw [← hfe]
          have hS := (hfr vals1).sub (ts := [94, 93]) (S' := [(94, vals1 19), (93, vals1 18)]) rfl
          have hf19 : (vals1 19) = cond (!((!ok || (e != x_e_2)) || (l_2 != l_3))) (.pointer (some ⟨g1, 0, none⟩)) undef := hV 19 (by decide)
          replace hS := hS.conv (t := 94) rfl hf19
          have hf18 : (vals1 18) = .bool ((!ok || (e != x_e_2)) || (l_2 != l_3)) := hV 18 (by decide)
          replace hS := hS.conv (t := 93) rfl hf18
          refine L_gw (p := (!((!ok || (e != x_e_2)) || (l_2 != l_3)))) hS rfl rfl rfl (wantB_f _) (fun hp => ?_) (fun hp => ⟨by rw [hp]; rfl, ?_⟩)
          · obtain ⟨I2, hI2, H⟩ := Gx.ex hG
            replace hS := hS.conv (t := 94) rfl (cond_t hp)
            refine L_hcall H (js := [(1, false)]) rfl (caps := #[]) hS fn_31_YW4 rfl rfl rfl rfl rfl (fun D1 hS => have hq := c_wire_Reader_End (gif_in hx5 hp) hS; hq) fun _ yw D1 hr hF2 => ?_
            obtain ⟨rfl, I3, K⟩ := hr
            obtain ⟨hK, H2⟩ := hF2 K
            exact ⟨by rw [hp]; rfl, by first | (rw [hp]; exact Gx.go hG hI2 hK K.imm H2) | exact Gx.go hG hI2 hK K.imm H2⟩
          · (try rw [hp]); obtain ⟨I2, hI2, H⟩ := Gx.ex hG; exact Gx.go hG hI2 (Keep.refl _ _) (fun _ h => h) (H.sub [(1, false), (0, false), (0, true)] rfl)
        refine .cons (fun ss hlo hhi vals1 xw hG hV => ?_) ?_
        · obtain rfl | rfl : ss = 3 ∨ ss = 4 := st1 hlo hhi
          · rw [← hfe]
            have hS := (hfr vals1).sub (ts := [93, 6]) (S' := [(93, vals1 18), (6, .pointer (some ⟨b1, 0, none⟩))]) rfl
            have hf18 : (vals1 18) = .bool ((!ok || (e != x_e_2)) || (l_2 != l_3)) := hV 18 (by decide)
            replace hS := hS.conv (t := 93) rfl hf18
            refine L_gw (p := (!((!ok || (e != x_e_2)) || (l_2 != l_3)))) hS rfl rfl rfl (wantB_f _) (fun hp => ?_) (fun hp => ⟨by rw [hp]; rfl, hG⟩)
            exact L_val hS rfl (Ob_c TB_YW4 rfl) ⟨(by rw [hp]; rfl), hG⟩
          · rw [← hfe]
            have hS := (hfr vals1).sub (ts := [93, 6]) (S' := [(93, vals1 18), (6, .pointer (some ⟨b1, 0, none⟩))]) rfl
            have hf18 : (vals1 18) = .bool ((!ok || (e != x_e_2)) || (l_2 != l_3)) := hV 18 (by decide)
            replace hS := hS.conv (t := 93) rfl hf18
            refine L_gw (p := (!((!ok || (e != x_e_2)) || (l_2 != l_3)))) hS rfl rfl rfl (wantB_f _) (fun hp => ?_) (fun hp => ⟨by rw [hp]; rfl, hG⟩)
            exact L_val hS rfl (Ob_c TB_YW4 rfl) ⟨(by rw [hp]; rfl), hG⟩
        refine .cons (fun ss hlo hhi vals1 xw hG hV => ?_) ?_
        · obtain rfl : ss = 4 := Nat.le_antisymm hhi hlo
          rw [← hfe]
          have hS := (hfr vals1).sub (ts := [96, 93]) (S' := [(96, vals1 21), (93, vals1 18)]) rfl
          have hf21 : (vals1 21) = cond (!((!ok || (e != x_e_2)) || (l_2 != l_3))) (.pointer (some ⟨b1, 0, none⟩)) undef := hV 21 (by decide)
          replace hS := hS.conv (t := 96) rfl hf21
          have hf18 : (vals1 18) = .bool ((!ok || (e != x_e_2)) || (l_2 != l_3)) := hV 18 (by decide)
          replace hS := hS.conv (t := 93) rfl hf18
          refine L_gw (p := (!((!ok || (e != x_e_2)) || (l_2 != l_3)))) hS rfl rfl rfl (wantB_f _) (fun hp => ?_) (fun hp => ⟨by rw [hp]; rfl, ?_⟩)
          · obtain ⟨I2, hI2, H⟩ := Gx.ex hG
            replace hS := hS.conv (t := 96) rfl (cond_t hp)
            refine L_hcall H (js := [(1, false)]) rfl (caps := #[]) hS fn_32_YW4 rfl rfl rfl rfl rfl (fun D1 hS => have hq := c_ref02_Reader_End (gif_in hx6 hp) hS; hq) fun _ yw D1 hr hF2 => ?_
            obtain ⟨rfl, I3, K⟩ := hr
            obtain ⟨hK, H2⟩ := hF2 K
            exact ⟨by rw [hp]; rfl, by first | (rw [hp]; exact Gx.go hG hI2 hK K.imm H2) | exact Gx.go hG hI2 hK K.imm H2⟩
          · (try rw [hp]); obtain ⟨I2, hI2, H⟩ := Gx.ex hG; exact Gx.go hG hI2 (Keep.refl _ _) (fun _ h => h) (H.sub [(1, false), (0, false), (0, true)] rfl)
        refine .cons (fun ss hlo hhi vals1 xw hG hV => ?_) ?_
        · obtain rfl : ss = 5 := Nat.le_antisymm hhi hlo
          rw [← hfe]
          have hS := (hfr vals1).sub (ts := [95, 97, 93]) (S' := [(95, vals1 20), (97, vals1 22), (93, vals1 18)]) rfl
          have hf20 : (vals1 20) = cond (!((!ok || (e != x_e_2)) || (l_2 != l_3))) (.int .i64 e_2) undef := hV 20 (by decide)
          replace hS := hS.conv (t := 95) rfl hf20
          have hf22 : (vals1 22) = cond (!((!ok || (e != x_e_2)) || (l_2 != l_3))) (.int .i64 e_3) undef := hV 22 (by decide)
          replace hS := hS.conv (t := 97) rfl hf22
          have hf18 : (vals1 18) = .bool ((!ok || (e != x_e_2)) || (l_2 != l_3)) := hV 18 (by decide)
          replace hS := hS.conv (t := 93) rfl hf18
          refine L_gw (p := (!((!ok || (e != x_e_2)) || (l_2 != l_3)))) hS rfl rfl rfl (wantB_f _) (fun hp => ?_) (fun hp => ⟨by rw [hp]; rfl, hG⟩)
          replace hS := hS.conv (t := 95) rfl (cond_t hp)
          replace hS := hS.conv (t := 97) rfl (cond_t hp)
          exact L_val hS rfl (Ob_c TB_YW4 rfl) ⟨(by rw [hp]; rfl), hG⟩
        refine .cons (fun ss hlo hhi vals1 xw hG hV => ?_) ?_
        · obtain rfl : ss = 5 := Nat.le_antisymm hhi hlo
          rw [← hfe]
          have hS := (hfr vals1).sub (ts := [93, 98]) (S' := [(93, vals1 18), (98, vals1 23)]) rfl
          have hf18 : (vals1 18) = .bool ((!ok || (e != x_e_2)) || (l_2 != l_3)) := hV 18 (by decide)
          replace hS := hS.conv (t := 93) rfl hf18
          have hf23 : (vals1 23) = cond (!((!ok || (e != x_e_2)) || (l_2 != l_3))) (.bool (e_2 != e_3)) undef := hV 23 (by decide)
          replace hS := hS.conv (t := 98) rfl hf23
          exact L_val hS rfl (Ob_pick rfl rfl rfl rfl (pick_or _ _)) ⟨rfl, hG⟩
        exact .nil
      · intro vals1 a w5 hok hG hV
        replace hok := hok.sub (ts := [1, 4, 5, 6, 7, 8, 14, 15, 16, 17, 18, 21, 24, 25, 26, 27, 28, 34, 35, 75, 76, 77, 85, 86, 92, 93, 99]) (S' := [(1, v1_l), (4, .bool false), (5, .pointer (some ⟨g1, 0, none⟩)), (6, .pointer (some ⟨b1, 0, none⟩)), (7, .int .i64 i), (8, .bool ok), (14, .int .i64 i), (15, v1_l), (16, .int .i64 (l.length : Int)), (17, .bool (decide (i < (l.length : Int)))), (18, .bool (decide (i < (l.length : Int)))), (21, .bool ((decide (i < (l.length : Int))) && (decide (i < 40)))), (24, v1_l), (25, .int .i64 i), (26, .pointer (some ⟨blkOf v1_l, oofOf v1_l + (i).toNat * 5, none⟩)), (27, .pointer (some ⟨blkOf v1_l, oofOf v1_l + (i).toNat * 5, none⟩)), (28, .int .i64 ((l.getD (i).toNat default).k)), (34, .bool (((l.getD (i).toNat default).k) == 0)), (35, .bool (((l.getD (i).toNat default).k) == 0)), (75, vals1 0), (76, vals1 1), (77, vals1 2), (85, vals1 10), (86, vals1 11), (92, vals1 17), (93, vals1 18), (99, vals1 24)]) rfl
        replace hok := hok.conv (t := 75) rfl (show (vals1 0) = .bool ok from hV 0 (by decide))
        replace hok := hok.conv (t := 76) rfl (show (vals1 1) = .bool !ok from hV 1 (by decide))
        replace hok := hok.conv (t := 77) rfl (show (vals1 2) = .bool !ok from hV 2 (by decide))
        replace hok := hok.conv (t := 85) rfl (show (vals1 10) = .bool (!ok || (e != x_e_2)) from hV 10 (by decide))
        replace hok := hok.conv (t := 86) rfl (show (vals1 11) = .bool (!ok || (e != x_e_2)) from hV 11 (by decide))
        replace hok := hok.conv (t := 92) rfl (show (vals1 17) = .bool ((!ok || (e != x_e_2)) || (l_2 != l_3)) from hV 17 (by decide))
        replace hok := hok.conv (t := 93) rfl (show (vals1 18) = .bool ((!ok || (e != x_e_2)) || (l_2 != l_3)) from hV 18 (by decide))
        replace hok := hok.conv (t := 99) rfl (show (vals1 24) = .bool (((!ok || (e != x_e_2)) || (l_2 != l_3)) || (e_2 != e_3)) from hV 24 (by decide))
        obtain ⟨I4, _, H⟩ := Gx.ex hG
        clear hG hV
        replace hok := hok.sub (ts := [1, 4, 5, 6, 7, 8, 14, 15, 16, 17, 18, 21, 24, 25, 26, 27, 28, 34, 35, 75, 76, 77, 85, 86, 92, 93, 99]) rfl
        replace H : Hf I D w I4 w5 [BxC b1 50 [.string x_s_2, .int .i64 x_at__2, .int .i64 x_e_2], BxC g1 65 [.string r_s_2, .int .i64 r_at__2, .int .i64 r_e_2, .bool r_made_2], SlC NElaw02_Part v1_l l] := H
        refine p_then ?_
        refine f_cond hok rfl (fun hc2 => ?_) (fun hc2 => ?_)
        · replace hF := ite_t hc2 hF
          refine wp_seq ?_
          refine f_region hok ?_; clear hok; intro hok
          refine s_runk TB_YW4 hok 1 rfl rfl ?_; clear hok a; intro a hok
          refine s_end hok [1, 4, 5, 6, 7, 8, 14, 15, 16, 17, 18, 21, 24, 25, 26, 27, 28, 34, 35, 75, 76, 77, 85, 86, 92, 93, 99] rfl ?_; clear hok; intro hok
          refine p_then ?_
          refine wp_ret ?_
          refine p_blk_r ?_
          refine p_then_r ?_
          refine p_then_r ?_
          refine p_blk_r ?_
          refine p_then_r ?_
          obtain rfl := some_in hF
          exact f_ret hok (run_results1 rfl hok rfl) ⟨rfl, I4, (H.sub [] rfl).eq rfl⟩
        · replace hF := ite_f hc2 hF
          refine wp_skip ?_
          refine p_blk ?_
          refine p_then ?_
          obtain ⟨hg1, hF⟩ := chk_in hF
          refine f_region hok ?_; clear hok; intro hok
          refine s_runk TB_YW4 hok 1 rfl rfl ?_; clear hok a; intro a hok
          refine s_ob hok (v := .int .i64 (i + 1)) rfl rfl (by decide) rfl (Ob_add rfl rfl rfl (wrI hg1)) ?_; clear hok a; intro a hok
          refine s_runk TB_YW4 hok 1 rfl rfl ?_; clear hok a; intro a hok
          refine s_end hok [1, 4, 5, 6, 7, 8, 14, 15, 16, 17, 18, 21, 24, 25, 26, 27, 28, 34, 35, 75, 76, 77, 85, 86, 92, 93, 99, 22, 23] rfl ?_; clear hok; intro hok
          refine p_then ?_
          exact ⟨(i + 1, r_s_2, r_at__2, r_e_2, r_made_2, x_s_2, x_at__2, x_e_2), ⟨hok.sub (ts := [1, 4, 5, 6, 7]) rfl, ⟨I4, (H.sub [(1, false), (0, false), (0, true)] rfl).eq rfl⟩⟩, hF⟩
    · skip
      refine wp_seq ?_
      obtain ⟨hg2, hF⟩ := chk_in hF
      refine f_region hok ?_; clear hok; intro hok
      refine s_runk TB_YW4 hok 2 rfl rfl ?_; clear hok a; intro a hok
      refine s_ob hok (v := .pointer (some ⟨blkOf v1_l, oofOf v1_l + (i).toNat * 5, none⟩)) rfl rfl (by decide) rfl (Ob_sidx TB_YW4 rfl rfl rfl rfl (slPl (H.sl 2 rfl) hg2) hg2) ?_; clear hok a; intro a hok
      refine s_runk TB_YW4 hok 1 rfl rfl ?_; clear hok a; intro a hok
      refine s_ob hok (v := .int .i64 ((l.getD (i).toNat default).k)) rfl rfl (by decide) rfl (Ob_load TB_YW4 rfl rfl rfl ((slFl (H.sl 2 rfl) hg2) 0 _ rfl)) ?_; clear hok a; intro a hok
      refine s_end hok [1, 4, 5, 6, 7, 14, 15, 16, 17, 18, 21, 8, 24, 25, 26, 27, 28] rfl ?_; clear hok; intro hok
      refine p_then ?_
      refine wp_block ?_
      refine wp_seq ?_
      refine f_region hok ?_; clear hok; intro hok
      refine s_runk TB_YW4 hok 2 rfl rfl ?_; clear hok a; intro a hok
      refine s_end hok [1, 4, 5, 6, 7, 14, 15, 16, 17, 18, 21, 8, 24, 25, 26, 27, 28, 35, 34] rfl ?_; clear hok; intro hok
      refine p_then ?_
      refine f_cond hok rfl (fun hc3 => ?_) (fun hc3 => ?_)
      · replace hF := ite_t hc3 hF
        obtain ⟨hg3, hF⟩ := chk_in hF
        obtain ⟨n0, hx7, hF⟩ := bnd_in hF
        obtain ⟨hg4, hF⟩ := chk_in hF
        obtain ⟨n0_2, hx8, hF⟩ := bnd_in hF
        refine f_regionL hok (by kernel_rfl) (by kernel_rfl) (by decide) (by decide) [6, 13] [(0, 0, 0), (0, 0, 0), (0, 0, 0), (6, 0, 0), (14, 0, 0), (30, 0, 0), (63, 0, 0), (0, 0, 1), (0, 0, 1), (0, 0, 1), (768, 0, 1), (1792, 0, 1), (3840, 0, 1), (8191, 1, 1), (16383, 2, 2), (32767, 2, 2)] (by kernel_rfl) (fun jj vv => cond (Nat.blt jj 8) (cond (Nat.blt jj 4) (cond (Nat.blt jj 2) (cond (Nat.blt jj 1) (vv = .pointer (some ⟨g1, 0, none⟩)) (vv = v1_l)) (cond (Nat.blt jj 3) (vv = .int .i64 i) (vv = .pointer (some ⟨blkOf v1_l, oofOf v1_l + (i).toNat * 5, none⟩)))) (cond (Nat.blt jj 6) (cond (Nat.blt jj 5) (vv = .pointer (some ⟨blkOf v1_l, oofOf v1_l + (i).toNat * 5 + 1, none⟩)) (vv = .int .i64 ((l.getD (i).toNat default).n))) (cond (Nat.blt jj 7) (vv = .int .i64 n0.1) (vv = .pointer (some ⟨b1, 0, none⟩))))) (cond (Nat.blt jj 12) (cond (Nat.blt jj 10) (cond (Nat.blt jj 9) (vv = v1_l) (vv = .int .i64 i)) (cond (Nat.blt jj 11) (vv = .pointer (some ⟨blkOf v1_l, oofOf v1_l + (i).toNat * 5, none⟩)) (vv = .pointer (some ⟨blkOf v1_l, oofOf v1_l + (i).toNat * 5 + 1, none⟩)))) (cond (Nat.blt jj 14) (cond (Nat.blt jj 13) (vv = .int .i64 ((l.getD (i).toNat default).n)) (vv = .int .i64 n0_2.1)) (cond (Nat.blt jj 15) (vv = .bool (n0.1 == n0_2.1)) (vv = .bool (n0.1 == n0_2.1)))))) (fun ss vals2 xw => match ss with | 0 => Gx I D w I2 w3 xw [BxC g1 65 [.string r_s, .int .i64 r_at_, .int .i64 r_e, .bool r_made], BxC b1 50 [.string x_s, .int .i64 x_at_, .int .i64 x_e], SlC NElaw02_Part v1_l l] | 1 => Gx I D w I2 w3 xw [BxC g1 65 [.string n0.2.s, .int .i64 n0.2.at_, .int .i64 n0.2.e, .bool n0.2.made], BxC b1 50 [.string x_s, .int .i64 x_at_, .int .i64 x_e], SlC NElaw02_Part v1_l l] | _ => Gx I D w I2 w3 xw [BxC b1 50 [.string n0_2.2.s, .int .i64 n0_2.2.at_, .int .i64 n0_2.2.e], BxC g1 65 [.string n0.2.s, .int .i64 n0.2.at_, .int .i64 n0.2.e, .bool n0.2.made], SlC NElaw02_Part v1_l l]) (fun _ => Gx.start H) ?_ ?_
        · intro fr hfr hfe
          refine .cons (fun ss hlo hhi vals2 xw hG hV => ?_) ?_
          · obtain rfl : ss = 0 := Nat.le_antisymm hhi hlo
            rw [← hfe]
            have hS := (hfr vals2).sub (ts := [5]) (S' := [(5, .pointer (some ⟨g1, 0, none⟩))]) rfl
            exact L_val hS rfl (Ob_c TB_YW4 rfl) ⟨rfl, hG⟩
          refine .cons (fun ss hlo hhi vals2 xw hG hV => ?_) ?_
          · obtain rfl : ss = 0 := Nat.le_antisymm hhi hlo
            rw [← hfe]
            have hS := (hfr vals2).sub (ts := [1]) (S' := [(1, v1_l)]) rfl
            exact L_val hS rfl (Ob_c TB_YW4 rfl) ⟨rfl, hG⟩
          refine .cons (fun ss hlo hhi vals2 xw hG hV => ?_) ?_
          · obtain rfl : ss = 0 := Nat.le_antisymm hhi hlo
            rw [← hfe]
            have hS := (hfr vals2).sub (ts := [7]) (S' := [(7, .int .i64 i)]) rfl
            exact L_val hS rfl (Ob_c TB_YW4 rfl) ⟨rfl, hG⟩
          refine .cons (fun ss hlo hhi vals2 xw hG hV => ?_) ?_
          · obtain rfl : ss = 0 := Nat.le_antisymm hhi hlo
            rw [← hfe]
            have hS := (hfr vals2).sub (ts := [37, 38]) (S' := [(37, vals2 1), (38, vals2 2)]) rfl
            have hf1 : (vals2 1) = v1_l := hV 1 (by decide)
            replace hS := hS.conv (t := 37) rfl hf1
            have hf2 : (vals2 2) = .int .i64 i := hV 2 (by decide)
            replace hS := hS.conv (t := 38) rfl hf2
            obtain ⟨I2, hI2, H⟩ := Gx.ex hG
            exact L_val hS rfl (Ob_sidx TB_YW4 rfl rfl rfl rfl (slPl (H.sl 2 rfl) hg3) hg3) ⟨rfl, hG⟩
          refine .cons (fun ss hlo hhi vals2 xw hG hV => ?_) ?_
          · obtain rfl : ss = 0 := Nat.le_antisymm hhi hlo
            rw [← hfe]
            have hS := (hfr vals2).sub (ts := [39]) (S' := [(39, vals2 3)]) rfl
            have hf3 : (vals2 3) = .pointer (some ⟨blkOf v1_l, oofOf v1_l + (i).toNat * 5, none⟩) := hV 3 (by decide)
            replace hS := hS.conv (t := 39) rfl hf3
            exact L_val hS rfl (Ob_c TB_YW4 rfl) ⟨rfl, hG⟩
          refine .cons (fun ss hlo hhi vals2 xw hG hV => ?_) ?_
          · obtain rfl : ss = 0 := Nat.le_antisymm hhi hlo
            rw [← hfe]
            have hS := (hfr vals2).sub (ts := [40]) (S' := [(40, vals2 4)]) rfl
            have hf4 : (vals2 4) = .pointer (some ⟨blkOf v1_l, oofOf v1_l + (i).toNat * 5 + 1, none⟩) := hV 4 (by decide)
            replace hS := hS.conv (t := 40) rfl hf4
            obtain ⟨I2, hI2, H⟩ := Gx.ex hG
            exact L_val hS rfl (Ob_load TB_YW4 rfl rfl rfl ((slFl (H.sl 2 rfl) hg3) 1 _ rfl)) ⟨rfl, hG⟩
          refine .cons (fun ss hlo hhi vals2 xw hG hV => ?_) ?_
          · obtain rfl : ss = 0 := Nat.le_antisymm hhi hlo
            rw [← hfe]
            have hS := (hfr vals2).sub (ts := [36, 41]) (S' := [(36, vals2 0), (41, vals2 5)]) rfl
            have hf0 : (vals2 0) = .pointer (some ⟨g1, 0, none⟩) := hV 0 (by decide)
            replace hS := hS.conv (t := 36) rfl hf0
            have hf5 : (vals2 5) = .int .i64 ((l.getD (i).toNat default).n) := hV 5 (by decide)
            replace hS := hS.conv (t := 41) rfl hf5
            obtain ⟨I2, hI2, H⟩ := Gx.ex hG
            refine L_hcall H (js := [(0, false)]) rfl (caps := #[]) hS fn_20_YW4 rfl rfl rfl rfl rfl (fun D1 hS => have hq := c_wire_Reader_Num hx7 hS; hq) fun _ yw D1 hr hF2 => ?_
            obtain ⟨rfl, I3, K⟩ := hr
            obtain ⟨hK, H2⟩ := hF2 K
            exact ⟨rfl, Gx.go hG hI2 hK K.imm H2⟩
          refine .cons (fun ss hlo hhi vals2 xw hG hV => ?_) ?_
          · obtain rfl | rfl : ss = 0 ∨ ss = 1 := st1 hlo hhi
            · rw [← hfe]
              have hS := (hfr vals2).sub (ts := [6]) (S' := [(6, .pointer (some ⟨b1, 0, none⟩))]) rfl
              exact L_val hS rfl (Ob_c TB_YW4 rfl) ⟨rfl, hG⟩
            · rw [← hfe]
              have hS := (hfr vals2).sub (ts := [6]) (S' := [(6, .pointer (some ⟨b1, 0, none⟩))]) rfl
              exact L_val hS rfl (Ob_c TB_YW4 rfl) ⟨rfl, hG⟩
          refine .cons (fun ss hlo hhi vals2 xw hG hV => ?_) ?_
          · obtain rfl | rfl : ss = 0 ∨ ss = 1 := st1 hlo hhi
            · rw [← hfe]
              have hS := (hfr vals2).sub (ts := [1]) (S' := [(1, v1_l)]) rfl
              exact L_val hS rfl (Ob_c TB_YW4 rfl) ⟨rfl, hG⟩
            · rw [← hfe]
              have hS := (hfr vals2).sub (ts := [1]) (S' := [(1, v1_l)]) rfl
              exact L_val hS rfl (Ob_c TB_YW4 rfl) ⟨rfl, hG⟩
          refine .cons (fun ss hlo hhi vals2 xw hG hV => ?_) ?_
          · obtain rfl | rfl : ss = 0 ∨ ss = 1 := st1 hlo hhi
            · rw [← hfe]
              have hS := (hfr vals2).sub (ts := [7]) (S' := [(7, .int .i64 i)]) rfl
              exact L_val hS rfl (Ob_c TB_YW4 rfl) ⟨rfl, hG⟩
            · rw [← hfe]
              have hS := (hfr vals2).sub (ts := [7]) (S' := [(7, .int .i64 i)]) rfl
              exact L_val hS rfl (Ob_c TB_YW4 rfl) ⟨rfl, hG⟩
          refine .cons (fun ss hlo hhi vals2 xw hG hV => ?_) ?_
          · obtain rfl | rfl : ss = 0 ∨ ss = 1 := st1 hlo hhi
            · rw [← hfe]
              have hS := (hfr vals2).sub (ts := [44, 45]) (S' := [(44, vals2 8), (45, vals2 9)]) rfl
              have hf8 : (vals2 8) = v1_l := hV 8 (by decide)
              replace hS := hS.conv (t := 44) rfl hf8
              have hf9 : (vals2 9) = .int .i64 i := hV 9 (by decide)
              replace hS := hS.conv (t := 45) rfl hf9
              obtain ⟨I2, hI2, H⟩ := Gx.ex hG
              exact L_val hS rfl (Ob_sidx TB_YW4 rfl rfl rfl rfl (slPl (H.sl 2 rfl) hg4) hg4) ⟨rfl, hG⟩
            · rw [← hfe]
              have hS := (hfr vals2).sub (ts := [44, 45]) (S' := [(44, vals2 8), (45, vals2 9)]) rfl
              have hf8 : (vals2 8) = v1_l := hV 8 (by decide)
              replace hS := hS.conv (t := 44) rfl hf8
              have hf9 : (vals2 9) = .int .i64 i := hV 9 (by decide)
              replace hS := hS.conv (t := 45) rfl hf9
              obtain ⟨I2, hI2, H⟩ := Gx.ex hG
              exact L_val hS rfl (Ob_sidx TB_YW4 rfl rfl rfl rfl (slPl (H.sl 2 rfl) hg4) hg4) ⟨rfl, hG⟩
          refine .cons (fun ss hlo hhi vals2 xw hG hV => ?_) ?_
          · obtain rfl | rfl : ss = 0 ∨ ss = 1 := st1 hlo hhi
            · rw [← hfe]
              have hS := (hfr vals2).sub (ts := [46]) (S' := [(46, vals2 10)]) rfl
              have hf10 : (vals2 10) = .pointer (some ⟨blkOf v1_l, oofOf v1_l + (i).toNat * 5, none⟩) := hV 10 (by decide)
              replace hS := hS.conv (t := 46) rfl hf10
              exact L_val hS rfl (Ob_c TB_YW4 rfl) ⟨rfl, hG⟩
            · rw [← hfe]
              have hS := (hfr vals2).sub (ts := [46]) (S' := [(46, vals2 10)]) rfl
              have hf10 : (vals2 10) = .pointer (some ⟨blkOf v1_l, oofOf v1_l + (i).toNat * 5, none⟩) := hV 10 (by decide)
              replace hS := hS.conv (t := 46) rfl hf10
              exact L_val hS rfl (Ob_c TB_YW4 rfl) ⟨rfl, hG⟩
          refine .cons (fun ss hlo hhi vals2 xw hG hV => ?_) ?_
          · obtain rfl | rfl : ss = 0 ∨ ss = 1 := st1 hlo hhi
            · rw [← hfe]
              have hS := (hfr vals2).sub (ts := [47]) (S' := [(47, vals2 11)]) rfl
              have hf11 : (vals2 11) = .pointer (some ⟨blkOf v1_l, oofOf v1_l + (i).toNat * 5 + 1, none⟩) := hV 11 (by decide)
              replace hS := hS.conv (t := 47) rfl hf11
              obtain ⟨I2, hI2, H⟩ := Gx.ex hG
              exact L_val hS rfl (Ob_load TB_YW4 rfl rfl rfl ((slFl (H.sl 2 rfl) hg4) 1 _ rfl)) ⟨rfl, hG⟩
            · rw [← hfe]
              have hS := (hfr vals2).sub (ts := [47]) (S' := [(47, vals2 11)]) rfl
              have hf11 : (vals2 11) = .pointer (some ⟨blkOf v1_l, oofOf v1_l + (i).toNat * 5 + 1, none⟩) := hV 11 (by decide)
              replace hS := hS.conv (t := 47) rfl hf11
              obtain ⟨I2, hI2, H⟩ := Gx.ex hG
              exact L_val hS rfl (Ob_load TB_YW4 rfl rfl rfl ((slFl (H.sl 2 rfl) hg4) 1 _ rfl)) ⟨rfl, hG⟩
          refine .cons (fun ss hlo hhi vals2 xw hG hV => ?_) ?_
          · obtain rfl : ss = 1 := Nat.le_antisymm hhi hlo
            rw [← hfe]
            have hS := (hfr vals2).sub (ts := [43, 48]) (S' := [(43, vals2 7), (48, vals2 12)]) rfl
            have hf7 : (vals2 7) = .pointer (some ⟨b1, 0, none⟩) := hV 7 (by decide)
            replace hS := hS.conv (t := 43) rfl hf7
            have hf12 : (vals2 12) = .int .i64 ((l.getD (i).toNat default).n) := hV 12 (by decide)
            replace hS := hS.conv (t := 48) rfl hf12
            obtain ⟨I2, hI2, H⟩ := Gx.ex hG
            refine L_hcall H (js := [(1, false)]) rfl (caps := #[]) hS fn_21_YW4 rfl rfl rfl rfl rfl (fun D1 hS => have hq := c_ref02_Reader_Num hx8 hS; hq) fun _ yw D1 hr hF2 => ?_
            obtain ⟨rfl, I3, K⟩ := hr
            obtain ⟨hK, H2⟩ := hF2 K
            exact ⟨rfl, Gx.go hG hI2 hK K.imm H2⟩
          refine .cons (fun ss hlo hhi vals2 xw hG hV => ?_) ?_
          · obtain rfl : ss = 2 := Nat.le_antisymm hhi hlo
            rw [← hfe]
            have hS := (hfr vals2).sub (ts := [42, 49]) (S' := [(42, vals2 6), (49, vals2 13)]) rfl
            have hf6 : (vals2 6) = .int .i64 n0.1 := hV 6 (by decide)
            replace hS := hS.conv (t := 42) rfl hf6
            have hf13 : (vals2 13) = .int .i64 n0_2.1 := hV 13 (by decide)
            replace hS := hS.conv (t := 49) rfl hf13
            exact L_val hS rfl (Ob_c TB_YW4 rfl) ⟨rfl, hG⟩
          refine .cons (fun ss hlo hhi vals2 xw hG hV => ?_) ?_
          · obtain rfl : ss = 2 := Nat.le_antisymm hhi hlo
            rw [← hfe]
            have hS := (hfr vals2).sub (ts := [50]) (S' := [(50, vals2 14)]) rfl
            have hf14 : (vals2 14) = .bool (n0.1 == n0_2.1) := hV 14 (by decide)
            replace hS := hS.conv (t := 50) rfl hf14
            exact L_val hS rfl (Ob_c TB_YW4 rfl) ⟨rfl, hG⟩
          exact .nil
        · intro vals2 a w6 hok hG hV
          replace hok := hok.sub (ts := [1, 4, 5, 6, 7, 14, 15, 16, 17, 18, 21, 8, 24, 25, 26, 27, 28, 35, 34, 36, 37, 38, 39, 40, 41, 42, 43, 44, 45, 46, 47, 48, 49, 50]) (S' := [(1, v1_l), (4, .bool false), (5, .pointer (some ⟨g1, 0, none⟩)), (6, .pointer (some ⟨b1, 0, none⟩)), (7, .int .i64 i), (14, .int .i64 i), (15, v1_l), (16, .int .i64 (l.length : Int)), (17, .bool (decide (i < (l.length : Int)))), (18, .bool (decide (i < (l.length : Int)))), (21, .bool ((decide (i < (l.length : Int))) && (decide (i < 40)))), (8, vals2 15), (24, v1_l), (25, .int .i64 i), (26, .pointer (some ⟨blkOf v1_l, oofOf v1_l + (i).toNat * 5, none⟩)), (27, .pointer (some ⟨blkOf v1_l, oofOf v1_l + (i).toNat * 5, none⟩)), (28, .int .i64 ((l.getD (i).toNat default).k)), (35, .bool (((l.getD (i).toNat default).k) == 0)), (34, .bool (((l.getD (i).toNat default).k) == 0)), (36, vals2 0), (37, vals2 1), (38, vals2 2), (39, vals2 3), (40, vals2 4), (41, vals2 5), (42, vals2 6), (43, vals2 7), (44, vals2 8), (45, vals2 9), (46, vals2 10), (47, vals2 11), (48, vals2 12), (49, vals2 13), (50, vals2 14)]) rfl
          replace hok := hok.conv (t := 8) rfl (show (vals2 15) = .bool (n0.1 == n0_2.1) from hV 15 (by decide))
          replace hok := hok.conv (t := 36) rfl (show (vals2 0) = .pointer (some ⟨g1, 0, none⟩) from hV 0 (by decide))
          replace hok := hok.conv (t := 37) rfl (show (vals2 1) = v1_l from hV 1 (by decide))
          replace hok := hok.conv (t := 38) rfl (show (vals2 2) = .int .i64 i from hV 2 (by decide))
          replace hok := hok.conv (t := 39) rfl (show (vals2 3) = .pointer (some ⟨blkOf v1_l, oofOf v1_l + (i).toNat * 5, none⟩) from hV 3 (by decide))
          replace hok := hok.conv (t := 40) rfl (show (vals2 4) = .pointer (some ⟨blkOf v1_l, oofOf v1_l + (i).toNat * 5 + 1, none⟩) from hV 4 (by decide))
          replace hok := hok.conv (t := 41) rfl (show (vals2 5) = .int .i64 ((l.getD (i).toNat default).n) from hV 5 (by decide))
          replace hok := hok.conv (t := 42) rfl (show (vals2 6) = .int .i64 n0.1 from hV 6 (by decide))
          replace hok := hok.conv (t := 43) rfl (show (vals2 7) = .pointer (some ⟨b1, 0, none⟩) from hV 7 (by decide))
          replace hok := hok.conv (t := 44) rfl (show (vals2 8) = v1_l from hV 8 (by decide))
          replace hok := hok.conv (t := 45) rfl (show (vals2 9) = .int .i64 i from hV 9 (by decide))
          replace hok := hok.conv (t := 46) rfl (show (vals2 10) = .pointer (some ⟨blkOf v1_l, oofOf v1_l + (i).toNat * 5, none⟩) from hV 10 (by decide))
          replace hok := hok.conv (t := 47) rfl (show (vals2 11) = .pointer (some ⟨blkOf v1_l, oofOf v1_l + (i).toNat * 5 + 1, none⟩) from hV 11 (by decide))
          replace hok := hok.conv (t := 48) rfl (show (vals2 12) = .int .i64 ((l.getD (i).toNat default).n) from hV 12 (by decide))
          replace hok := hok.conv (t := 49) rfl (show (vals2 13) = .int .i64 n0_2.1 from hV 13 (by decide))
          replace hok := hok.conv (t := 50) rfl (show (vals2 14) = .bool (n0.1 == n0_2.1) from hV 14 (by decide))
          obtain ⟨I5, _, H⟩ := Gx.ex hG
          clear hG hV
          replace hok := hok.sub (ts := [1, 4, 5, 6, 7, 14, 15, 16, 17, 18, 21, 8, 24, 25, 26, 27, 28, 35, 34, 36, 37, 38, 39, 40, 41, 42, 43, 44, 45, 46, 47, 48, 49, 50]) rfl
          replace H : Hf I D w I5 w6 [BxC b1 50 [.string n0_2.2.s, .int .i64 n0_2.2.at_, .int .i64 n0_2.2.e], BxC g1 65 [.string n0.2.s, .int .i64 n0.2.at_, .int .i64 n0.2.e, .bool n0.2.made], SlC NElaw02_Part v1_l l] := H
          refine p_blk ?_
          refine p_then ?_
          exact ⟨n0.1 == n0_2.1, n0.2.s, n0.2.at_, n0.2.e, n0.2.made, n0_2.2.s, n0_2.2.at_, n0_2.2.e, hok.sub (ts := [1, 4, 5, 6, 7, 8, 14, 15, 16, 17, 18, 21, 24, 25, 26, 27, 28, 34, 35]) rfl, ⟨I5, (H.sub [(1, false), (0, false), (0, true)] rfl).eq rfl⟩, hF⟩
      · replace hF := ite_f hc3 hF
        refine wp_seq ?_
        refine f_region hok ?_; clear hok; intro hok
        refine s_runk TB_YW4 hok 2 rfl rfl ?_; clear hok a; intro a hok
        refine s_end hok [1, 4, 5, 6, 7, 14, 15, 16, 17, 18, 21, 8, 24, 25, 26, 27, 28, 35, 34, 52, 51] rfl ?_; clear hok; intro hok
        refine p_then ?_
        refine f_cond hok rfl (fun hc4 => ?_) (fun hc4 => ?_)
        · replace hF := ite_t hc4 hF
          obtain ⟨b, hx9, hF⟩ := bnd_in hF
          obtain ⟨b_2, hx10, hF⟩ := bnd_in hF
          refine f_region hok ?_; clear hok; intro hok
          refine s_runk TB_YW4 hok 1 rfl rfl ?_; clear hok a; intro a hok
          refine h_call hok H (js := [(0, false)]) rfl (caps := #[]) fn_22_YW4 rfl rfl rfl rfl rfl (by decide) rfl rfl (fun D1 hS => have hq := c_wire_Reader_Big hx9 hS; hq) ?_; clear hok a; intro vv a w7 D2 hr hF2 hok
          obtain ⟨rfl, I6, K⟩ := hr
          have H : Hf I D w I6 w7 [BxC g1 65 [.string b.2.s, .int .i64 b.2.at_, .int .i64 b.2.e, .bool b.2.made], BxC b1 50 [.string x_s, .int .i64 x_at_, .int .i64 x_e], SlC NElaw02_Part v1_l l] := hF2 K
          clear hF2 K
          refine s_runk TB_YW4 hok 1 rfl rfl ?_; clear hok a; intro a hok
          refine h_call hok H (js := [(1, false)]) rfl (caps := #[]) fn_23_YW4 rfl rfl rfl rfl rfl (by decide) rfl rfl (fun D1 hS => have hq := c_ref02_Reader_Big hx10 hS; hq) ?_; clear hok a; intro vv a w8 D2 hr hF2 hok
          obtain ⟨rfl, I7, K⟩ := hr
          have H : Hf I D w I7 w8 [BxC b1 50 [.string b_2.2.s, .int .i64 b_2.2.at_, .int .i64 b_2.2.e], BxC g1 65 [.string b.2.s, .int .i64 b.2.at_, .int .i64 b.2.e, .bool b.2.made], SlC NElaw02_Part v1_l l] := hF2 K
          clear hF2 K
          refine s_runk TB_YW4 hok 2 rfl rfl ?_; clear hok a; intro a hok
          refine s_end hok [1, 4, 5, 6, 7, 14, 15, 16, 17, 18, 21, 8, 24, 25, 26, 27, 28, 35, 34, 52, 51, 53, 54, 55, 56, 57] rfl ?_; clear hok; intro hok
          refine p_blk ?_
          refine p_then ?_
          exact ⟨b.1 == b_2.1, b.2.s, b.2.at_, b.2.e, b.2.made, b_2.2.s, b_2.2.at_, b_2.2.e, hok.sub (ts := [1, 4, 5, 6, 7, 8, 14, 15, 16, 17, 18, 21, 24, 25, 26, 27, 28, 34, 35]) rfl, ⟨I7, (H.sub [(1, false), (0, false), (0, true)] rfl).eq rfl⟩, hF⟩
        · replace hF := ite_f hc4 hF
          refine wp_seq ?_
          refine f_region hok ?_; clear hok; intro hok
          refine s_runk TB_YW4 hok 2 rfl rfl ?_; clear hok a; intro a hok
          refine s_end hok [1, 4, 5, 6, 7, 14, 15, 16, 17, 18, 21, 8, 24, 25, 26, 27, 28, 35, 34, 52, 51, 59, 58] rfl ?_; clear hok; intro hok
          refine p_then ?_
          refine f_cond hok rfl (fun hc5 => ?_) (fun hc5 => ?_)
          · replace hF := ite_t hc5 hF
            obtain ⟨hg5, hF⟩ := chk_in hF
            obtain ⟨t, hx11, hF⟩ := bnd_in hF
            obtain ⟨hg6, hF⟩ := chk_in hF
            obtain ⟨t_2, hx12, hF⟩ := bnd_in hF
            refine f_regionL hok (by kernel_rfl) (by kernel_rfl) (by decide) (by decide) [6, 13] [(0, 0, 0), (0, 0, 0), (0, 0, 0), (6, 0, 0), (14, 0, 0), (30, 0, 0), (63, 0, 0), (0, 0, 1), (0, 0, 1), (0, 0, 1), (768, 0, 1), (1792, 0, 1), (3840, 0, 1), (8191, 1, 1), (16383, 2, 2), (32767, 2, 2)] (by kernel_rfl) (fun jj vv => cond (Nat.blt jj 8) (cond (Nat.blt jj 4) (cond (Nat.blt jj 2) (cond (Nat.blt jj 1) (vv = .pointer (some ⟨g1, 0, none⟩)) (vv = v1_l)) (cond (Nat.blt jj 3) (vv = .int .i64 i) (vv = .pointer (some ⟨blkOf v1_l, oofOf v1_l + (i).toNat * 5, none⟩)))) (cond (Nat.blt jj 6) (cond (Nat.blt jj 5) (vv = .pointer (some ⟨blkOf v1_l, oofOf v1_l + (i).toNat * 5 + 1, none⟩)) (vv = .int .i64 ((l.getD (i).toNat default).n))) (cond (Nat.blt jj 7) (vv = .string t.1) (vv = .pointer (some ⟨b1, 0, none⟩))))) (cond (Nat.blt jj 12) (cond (Nat.blt jj 10) (cond (Nat.blt jj 9) (vv = v1_l) (vv = .int .i64 i)) (cond (Nat.blt jj 11) (vv = .pointer (some ⟨blkOf v1_l, oofOf v1_l + (i).toNat * 5, none⟩)) (vv = .pointer (some ⟨blkOf v1_l, oofOf v1_l + (i).toNat * 5 + 1, none⟩)))) (cond (Nat.blt jj 14) (cond (Nat.blt jj 13) (vv = .int .i64 ((l.getD (i).toNat default).n)) (vv = .string t_2.1)) (cond (Nat.blt jj 15) (vv = .bool (seqB t.1 t_2.1)) (vv = .bool (seqB t.1 t_2.1)))))) (fun ss vals3 xw => match ss with | 0 => Gx I D w I2 w3 xw [BxC g1 65 [.string r_s, .int .i64 r_at_, .int .i64 r_e, .bool r_made], BxC b1 50 [.string x_s, .int .i64 x_at_, .int .i64 x_e], SlC NElaw02_Part v1_l l] | 1 => Gx I D w I2 w3 xw [BxC g1 65 [.string t.2.s, .int .i64 t.2.at_, .int .i64 t.2.e, .bool t.2.made], BxC b1 50 [.string x_s, .int .i64 x_at_, .int .i64 x_e], SlC NElaw02_Part v1_l l] | _ => Gx I D w I2 w3 xw [BxC b1 50 [.string t_2.2.s, .int .i64 t_2.2.at_, .int .i64 t_2.2.e], BxC g1 65 [.string t.2.s, .int .i64 t.2.at_, .int .i64 t.2.e, .bool t.2.made], SlC NElaw02_Part v1_l l]) (fun _ => Gx.start H) ?_ ?_
            · intro fr hfr hfe
              refine .cons (fun ss hlo hhi vals3 xw hG hV => ?_) ?_
              · obtain rfl : ss = 0 := Nat.le_antisymm hhi hlo
                rw [← hfe]
                have hS := (hfr vals3).sub (ts := [5]) (S' := [(5, .pointer (some ⟨g1, 0, none⟩))]) rfl
                exact L_val hS rfl (Ob_c TB_YW4 rfl) ⟨rfl, hG⟩
              refine .cons (fun ss hlo hhi vals3 xw hG hV => ?_) ?_
              · obtain rfl : ss = 0 := Nat.le_antisymm hhi hlo
                rw [← hfe]
                have hS := (hfr vals3).sub (ts := [1]) (S' := [(1, v1_l)]) rfl
                exact L_val hS rfl (Ob_c TB_YW4 rfl) ⟨rfl, hG⟩
              refine .cons (fun ss hlo hhi vals3 xw hG hV => ?_) ?_
              · obtain rfl : ss = 0 := Nat.le_antisymm hhi hlo
                rw [← hfe]
                have hS := (hfr vals3).sub (ts := [7]) (S' := [(7, .int .i64 i)]) rfl
                exact L_val hS rfl (Ob_c TB_YW4 rfl) ⟨rfl, hG⟩
              refine .cons (fun ss hlo hhi vals3 xw hG hV => ?_) ?_
              · obtain rfl : ss = 0 := Nat.le_antisymm hhi hlo
                rw [← hfe]
                have hS := (hfr vals3).sub (ts := [61, 62]) (S' := [(61, vals3 1), (62, vals3 2)]) rfl
                have hf1 : (vals3 1) = v1_l := hV 1 (by decide)
                replace hS := hS.conv (t := 61) rfl hf1
                have hf2 : (vals3 2) = .int .i64 i := hV 2 (by decide)
                replace hS := hS.conv (t := 62) rfl hf2
                obtain ⟨I2, hI2, H⟩ := Gx.ex hG
                exact L_val hS rfl (Ob_sidx TB_YW4 rfl rfl rfl rfl (slPl (H.sl 2 rfl) hg5) hg5) ⟨rfl, hG⟩
              refine .cons (fun ss hlo hhi vals3 xw hG hV => ?_) ?_
              · obtain rfl : ss = 0 := Nat.le_antisymm hhi hlo
                rw [← hfe]
                have hS := (hfr vals3).sub (ts := [63]) (S' := [(63, vals3 3)]) rfl
                have hf3 : (vals3 3) = .pointer (some ⟨blkOf v1_l, oofOf v1_l + (i).toNat * 5, none⟩) := hV 3 (by decide)
                replace hS := hS.conv (t := 63) rfl hf3
                exact L_val hS rfl (Ob_c TB_YW4 rfl) ⟨rfl, hG⟩
              refine .cons (fun ss hlo hhi vals3 xw hG hV => ?_) ?_
              · obtain rfl : ss = 0 := Nat.le_antisymm hhi hlo
                rw [← hfe]
                have hS := (hfr vals3).sub (ts := [64]) (S' := [(64, vals3 4)]) rfl
                have hf4 : (vals3 4) = .pointer (some ⟨blkOf v1_l, oofOf v1_l + (i).toNat * 5 + 1, none⟩) := hV 4 (by decide)
                replace hS := hS.conv (t := 64) rfl hf4
                obtain ⟨I2, hI2, H⟩ := Gx.ex hG
                exact L_val hS rfl (Ob_load TB_YW4 rfl rfl rfl ((slFl (H.sl 2 rfl) hg5) 1 _ rfl)) ⟨rfl, hG⟩
              refine .cons (fun ss hlo hhi vals3 xw hG hV => ?_) ?_
              · obtain rfl : ss = 0 := Nat.le_antisymm hhi hlo
                rw [← hfe]
                have hS := (hfr vals3).sub (ts := [60, 65]) (S' := [(60, vals3 0), (65, vals3 5)]) rfl
                have hf0 : (vals3 0) = .pointer (some ⟨g1, 0, none⟩) := hV 0 (by decide)
                replace hS := hS.conv (t := 60) rfl hf0
                have hf5 : (vals3 5) = .int .i64 ((l.getD (i).toNat default).n) := hV 5 (by decide)
                replace hS := hS.conv (t := 65) rfl hf5
                obtain ⟨I2, hI2, H⟩ := Gx.ex hG
                refine L_hcall H (js := [(0, false)]) rfl (caps := #[]) hS fn_24_YW4 rfl rfl rfl rfl rfl (fun D1 hS => have hq := c_wire_Reader_Text hx11 hS; hq) fun _ yw D1 hr hF2 => ?_
                obtain ⟨rfl, I3, K⟩ := hr
                obtain ⟨hK, H2⟩ := hF2 K
                exact ⟨rfl, Gx.go hG hI2 hK K.imm H2⟩
              refine .cons (fun ss hlo hhi vals3 xw hG hV => ?_) ?_
              · obtain rfl | rfl : ss = 0 ∨ ss = 1 := st1 hlo hhi
                · rw [← hfe]
                  have hS := (hfr vals3).sub (ts := [6]) (S' := [(6, .pointer (some ⟨b1, 0, none⟩))]) rfl
                  exact L_val hS rfl (Ob_c TB_YW4 rfl) ⟨rfl, hG⟩
                · rw [← hfe]
                  have hS := (hfr vals3).sub (ts := [6]) (S' := [(6, .pointer (some ⟨b1, 0, none⟩))]) rfl
                  exact L_val hS rfl (Ob_c TB_YW4 rfl) ⟨rfl, hG⟩
              refine .cons (fun ss hlo hhi vals3 xw hG hV => ?_) ?_
              · obtain rfl | rfl : ss = 0 ∨ ss = 1 := st1 hlo hhi
                · rw [← hfe]
                  have hS := (hfr vals3).sub (ts := [1]) (S' := [(1, v1_l)]) rfl
                  exact L_val hS rfl (Ob_c TB_YW4 rfl) ⟨rfl, hG⟩
                · rw [← hfe]
                  have hS := (hfr vals3).sub (ts := [1]) (S' := [(1, v1_l)]) rfl
                  exact L_val hS rfl (Ob_c TB_YW4 rfl) ⟨rfl, hG⟩
              refine .cons (fun ss hlo hhi vals3 xw hG hV => ?_) ?_
              · obtain rfl | rfl : ss = 0 ∨ ss = 1 := st1 hlo hhi
                · rw [← hfe]
                  have hS := (hfr vals3).sub (ts := [7]) (S' := [(7, .int .i64 i)]) rfl
                  exact L_val hS rfl (Ob_c TB_YW4 rfl) ⟨rfl, hG⟩
                · rw [← hfe]
                  have hS := (hfr vals3).sub (ts := [7]) (S' := [(7, .int .i64 i)]) rfl
                  exact L_val hS rfl (Ob_c TB_YW4 rfl) ⟨rfl, hG⟩
              refine .cons (fun ss hlo hhi vals3 xw hG hV => ?_) ?_
              · obtain rfl | rfl : ss = 0 ∨ ss = 1 := st1 hlo hhi
                · rw [← hfe]
                  have hS := (hfr vals3).sub (ts := [68, 69]) (S' := [(68, vals3 8), (69, vals3 9)]) rfl
                  have hf8 : (vals3 8) = v1_l := hV 8 (by decide)
                  replace hS := hS.conv (t := 68) rfl hf8
                  have hf9 : (vals3 9) = .int .i64 i := hV 9 (by decide)
                  replace hS := hS.conv (t := 69) rfl hf9
                  obtain ⟨I2, hI2, H⟩ := Gx.ex hG
                  exact L_val hS rfl (Ob_sidx TB_YW4 rfl rfl rfl rfl (slPl (H.sl 2 rfl) hg6) hg6) ⟨rfl, hG⟩
                · rw [← hfe]
                  have hS := (hfr vals3).sub (ts := [68, 69]) (S' := [(68, vals3 8), (69, vals3 9)]) rfl
                  have hf8 : (vals3 8) = v1_l := hV 8 (by decide)
                  replace hS := hS.conv (t := 68) rfl hf8
                  have hf9 : (vals3 9) = .int .i64 i := hV 9 (by decide)
                  replace hS := hS.conv (t := 69) rfl hf9
                  obtain ⟨I2, hI2, H⟩ := Gx.ex hG
                  exact L_val hS rfl (Ob_sidx TB_YW4 rfl rfl rfl rfl (slPl (H.sl 2 rfl) hg6) hg6) ⟨rfl, hG⟩
              refine .cons (fun ss hlo hhi vals3 xw hG hV => ?_) ?_
              · obtain rfl | rfl : ss = 0 ∨ ss = 1 := st1 hlo hhi
                · rw [← hfe]
                  have hS := (hfr vals3).sub (ts := [70]) (S' := [(70, vals3 10)]) rfl
                  have hf10 : (vals3 10) = .pointer (some ⟨blkOf v1_l, oofOf v1_l + (i).toNat * 5, none⟩) := hV 10 (by decide)
                  replace hS := hS.conv (t := 70) rfl hf10
                  exact L_val hS rfl (Ob_c TB_YW4 rfl) ⟨rfl, hG⟩
                · rw [← hfe]
                  have hS := (hfr vals3).sub (ts := [70]) (S' := [(70, vals3 10)]) rfl
                  have hf10 : (vals3 10) = .pointer (some ⟨blkOf v1_l, oofOf v1_l + (i).toNat * 5, none⟩) := hV 10 (by decide)
                  replace hS := hS.conv (t := 70) rfl hf10
                  exact L_val hS rfl (Ob_c TB_YW4 rfl) ⟨rfl, hG⟩
              refine .cons (fun ss hlo hhi vals3 xw hG hV => ?_) ?_
              · obtain rfl | rfl : ss = 0 ∨ ss = 1 := st1 hlo hhi
                · rw [← hfe]
                  have hS := (hfr vals3).sub (ts := [71]) (S' := [(71, vals3 11)]) rfl
                  have hf11 : (vals3 11) = .pointer (some ⟨blkOf v1_l, oofOf v1_l + (i).toNat * 5 + 1, none⟩) := hV 11 (by decide)
                  replace hS := hS.conv (t := 71) rfl hf11
                  obtain ⟨I2, hI2, H⟩ := Gx.ex hG
                  exact L_val hS rfl (Ob_load TB_YW4 rfl rfl rfl ((slFl (H.sl 2 rfl) hg6) 1 _ rfl)) ⟨rfl, hG⟩
                · rw [← hfe]
                  have hS := (hfr vals3).sub (ts := [71]) (S' := [(71, vals3 11)]) rfl
                  have hf11 : (vals3 11) = .pointer (some ⟨blkOf v1_l, oofOf v1_l + (i).toNat * 5 + 1, none⟩) := hV 11 (by decide)
                  replace hS := hS.conv (t := 71) rfl hf11
                  obtain ⟨I2, hI2, H⟩ := Gx.ex hG
                  exact L_val hS rfl (Ob_load TB_YW4 rfl rfl rfl ((slFl (H.sl 2 rfl) hg6) 1 _ rfl)) ⟨rfl, hG⟩
              refine .cons (fun ss hlo hhi vals3 xw hG hV => ?_) ?_
              · obtain rfl : ss = 1 := Nat.le_antisymm hhi hlo
                rw [← hfe]
                have hS := (hfr vals3).sub (ts := [67, 72]) (S' := [(67, vals3 7), (72, vals3 12)]) rfl
                have hf7 : (vals3 7) = .pointer (some ⟨b1, 0, none⟩) := hV 7 (by decide)
                replace hS := hS.conv (t := 67) rfl hf7
                have hf12 : (vals3 12) = .int .i64 ((l.getD (i).toNat default).n) := hV 12 (by decide)
                replace hS := hS.conv (t := 72) rfl hf12
                obtain ⟨I2, hI2, H⟩ := Gx.ex hG
                refine L_hcall H (js := [(1, false)]) rfl (caps := #[]) hS fn_25_YW4 rfl rfl rfl rfl rfl (fun D1 hS => have hq := c_ref02_Reader_Text hx12 hS; hq) fun _ yw D1 hr hF2 => ?_
                obtain ⟨rfl, I3, K⟩ := hr
                obtain ⟨hK, H2⟩ := hF2 K
                exact ⟨rfl, Gx.go hG hI2 hK K.imm H2⟩
              refine .cons (fun ss hlo hhi vals3 xw hG hV => ?_) ?_
              · obtain rfl : ss = 2 := Nat.le_antisymm hhi hlo
                rw [← hfe]
                have hS := (hfr vals3).sub (ts := [66, 73]) (S' := [(66, vals3 6), (73, vals3 13)]) rfl
                have hf6 : (vals3 6) = .string t.1 := hV 6 (by decide)
                replace hS := hS.conv (t := 66) rfl hf6
                have hf13 : (vals3 13) = .string t_2.1 := hV 13 (by decide)
                replace hS := hS.conv (t := 73) rfl hf13
                exact L_val hS rfl (Ob_c TB_YW4 rfl) ⟨rfl, hG⟩
              refine .cons (fun ss hlo hhi vals3 xw hG hV => ?_) ?_
              · obtain rfl : ss = 2 := Nat.le_antisymm hhi hlo
                rw [← hfe]
                have hS := (hfr vals3).sub (ts := [74]) (S' := [(74, vals3 14)]) rfl
                have hf14 : (vals3 14) = .bool (seqB t.1 t_2.1) := hV 14 (by decide)
                replace hS := hS.conv (t := 74) rfl hf14
                exact L_val hS rfl (Ob_c TB_YW4 rfl) ⟨rfl, hG⟩
              exact .nil
            · intro vals3 a w9 hok hG hV
              replace hok := hok.sub (ts := [1, 4, 5, 6, 7, 14, 15, 16, 17, 18, 21, 8, 24, 25, 26, 27, 28, 35, 34, 52, 51, 59, 58, 60, 61, 62, 63, 64, 65, 66, 67, 68, 69, 70, 71, 72, 73, 74]) (S' := [(1, v1_l), (4, .bool false), (5, .pointer (some ⟨g1, 0, none⟩)), (6, .pointer (some ⟨b1, 0, none⟩)), (7, .int .i64 i), (14, .int .i64 i), (15, v1_l), (16, .int .i64 (l.length : Int)), (17, .bool (decide (i < (l.length : Int)))), (18, .bool (decide (i < (l.length : Int)))), (21, .bool ((decide (i < (l.length : Int))) && (decide (i < 40)))), (8, vals3 15), (24, v1_l), (25, .int .i64 i), (26, .pointer (some ⟨blkOf v1_l, oofOf v1_l + (i).toNat * 5, none⟩)), (27, .pointer (some ⟨blkOf v1_l, oofOf v1_l + (i).toNat * 5, none⟩)), (28, .int .i64 ((l.getD (i).toNat default).k)), (35, .bool (((l.getD (i).toNat default).k) == 0)), (34, .bool (((l.getD (i).toNat default).k) == 0)), (52, .bool (((l.getD (i).toNat default).k) == 1)), (51, .bool (((l.getD (i).toNat default).k) == 1)), (59, .bool (((l.getD (i).toNat default).k) == 2)), (58, .bool (((l.getD (i).toNat default).k) == 2)), (60, vals3 0), (61, vals3 1), (62, vals3 2), (63, vals3 3), (64, vals3 4), (65, vals3 5), (66, vals3 6), (67, vals3 7), (68, vals3 8), (69, vals3 9), (70, vals3 10), (71, vals3 11), (72, vals3 12), (73, vals3 13), (74, vals3 14)]) rfl
              replace hok := hok.conv (t := 8) rfl (show (vals3 15) = .bool (seqB t.1 t_2.1) from hV 15 (by decide))
              replace hok := hok.conv (t := 60) rfl (show (vals3 0) = .pointer (some ⟨g1, 0, none⟩) from hV 0 (by decide))
              replace hok := hok.conv (t := 61) rfl (show (vals3 1) = v1_l from hV 1 (by decide))
              replace hok := hok.conv (t := 62) rfl (show (vals3 2) = .int .i64 i from hV 2 (by decide))
              replace hok := hok.conv (t := 63) rfl (show (vals3 3) = .pointer (some ⟨blkOf v1_l, oofOf v1_l + (i).toNat * 5, none⟩) from hV 3 (by decide))
              replace hok := hok.conv (t := 64) rfl (show (vals3 4) = .pointer (some ⟨blkOf v1_l, oofOf v1_l + (i).toNat * 5 + 1, none⟩) from hV 4 (by decide))
              replace hok := hok.conv (t := 65) rfl (show (vals3 5) = .int .i64 ((l.getD (i).toNat default).n) from hV 5 (by decide))
              replace hok := hok.conv (t := 66) rfl (show (vals3 6) = .string t.1 from hV 6 (by decide))
              replace hok := hok.conv (t := 67) rfl (show (vals3 7) = .pointer (some ⟨b1, 0, none⟩) from hV 7 (by decide))
              replace hok := hok.conv (t := 68) rfl (show (vals3 8) = v1_l from hV 8 (by decide))
              replace hok := hok.conv (t := 69) rfl (show (vals3 9) = .int .i64 i from hV 9 (by decide))
              replace hok := hok.conv (t := 70) rfl (show (vals3 10) = .pointer (some ⟨blkOf v1_l, oofOf v1_l + (i).toNat * 5, none⟩) from hV 10 (by decide))
              replace hok := hok.conv (t := 71) rfl (show (vals3 11) = .pointer (some ⟨blkOf v1_l, oofOf v1_l + (i).toNat * 5 + 1, none⟩) from hV 11 (by decide))
              replace hok := hok.conv (t := 72) rfl (show (vals3 12) = .int .i64 ((l.getD (i).toNat default).n) from hV 12 (by decide))
              replace hok := hok.conv (t := 73) rfl (show (vals3 13) = .string t_2.1 from hV 13 (by decide))
              replace hok := hok.conv (t := 74) rfl (show (vals3 14) = .bool (seqB t.1 t_2.1) from hV 14 (by decide))
              obtain ⟨I8, _, H⟩ := Gx.ex hG
              clear hG hV
              replace hok := hok.sub (ts := [1, 4, 5, 6, 7, 14, 15, 16, 17, 18, 21, 8, 24, 25, 26, 27, 28, 35, 34, 52, 51, 59, 58, 60, 61, 62, 63, 64, 65, 66, 67, 68, 69, 70, 71, 72, 73, 74]) rfl
              replace H : Hf I D w I8 w9 [BxC b1 50 [.string t_2.2.s, .int .i64 t_2.2.at_, .int .i64 t_2.2.e], BxC g1 65 [.string t.2.s, .int .i64 t.2.at_, .int .i64 t.2.e, .bool t.2.made], SlC NElaw02_Part v1_l l] := H
              refine p_blk ?_
              refine p_then ?_
              exact ⟨seqB t.1 t_2.1, t.2.s, t.2.at_, t.2.e, t.2.made, t_2.2.s, t_2.2.at_, t_2.2.e, hok.sub (ts := [1, 4, 5, 6, 7, 8, 14, 15, 16, 17, 18, 21, 24, 25, 26, 27, 28, 34, 35]) rfl, ⟨I8, (H.sub [(1, false), (0, false), (0, true)] rfl).eq rfl⟩, hF⟩
          · replace hF := ite_f hc5 hF
            obtain ⟨f, hx13, hF⟩ := bnd_in hF
            obtain ⟨f_2, hx14, hF⟩ := bnd_in hF
            refine f_region hok ?_; clear hok; intro hok
            refine s_runk TB_YW4 hok 1 rfl rfl ?_; clear hok a; intro a hok
            refine h_call hok H (js := [(0, false)]) rfl (caps := #[]) fn_26_YW4 rfl rfl rfl rfl rfl (by decide) rfl rfl (fun D1 hS => have hq := c_wire_Reader_Flag hx13 hS; hq) ?_; clear hok a; intro vv a w10 D2 hr hF2 hok
            obtain ⟨rfl, I9, K⟩ := hr
            have H : Hf I D w I9 w10 [BxC g1 65 [.string f.2.s, .int .i64 f.2.at_, .int .i64 f.2.e, .bool f.2.made], BxC b1 50 [.string x_s, .int .i64 x_at_, .int .i64 x_e], SlC NElaw02_Part v1_l l] := hF2 K
            clear hF2 K
            refine s_runk TB_YW4 hok 1 rfl rfl ?_; clear hok a; intro a hok
            refine h_call hok H (js := [(1, false)]) rfl (caps := #[]) fn_27_YW4 rfl rfl rfl rfl rfl (by decide) rfl rfl (fun D1 hS => have hq := c_ref02_Reader_Flag hx14 hS; hq) ?_; clear hok a; intro vv a w11 D2 hr hF2 hok
            obtain ⟨rfl, I10, K⟩ := hr
            have H : Hf I D w I10 w11 [BxC b1 50 [.string f_2.2.s, .int .i64 f_2.2.at_, .int .i64 f_2.2.e], BxC g1 65 [.string f.2.s, .int .i64 f.2.at_, .int .i64 f.2.e, .bool f.2.made], SlC NElaw02_Part v1_l l] := hF2 K
            clear hF2 K
            refine s_runk TB_YW4 hok 2 rfl rfl ?_; clear hok a; intro a hok
            refine s_end hok [1, 4, 5, 6, 7, 14, 15, 16, 17, 18, 21, 8, 24, 25, 26, 27, 28, 35, 34, 52, 51, 59, 58, 29, 30, 31, 32, 33] rfl ?_; clear hok; intro hok
            refine p_blk ?_
            refine p_then ?_
            exact ⟨f.1 == f_2.1, f.2.s, f.2.at_, f.2.e, f.2.made, f_2.2.s, f_2.2.at_, f_2.2.e, hok.sub (ts := [1, 4, 5, 6, 7, 8, 14, 15, 16, 17, 18, 21, 24, 25, 26, 27, 28, 34, 35]) rfl, ⟨I10, (H.sub [(1, false), (0, false), (0, true)] rfl).eq rfl⟩, hF⟩
  · replace hF := ite_f hc1 hF
    refine wp_exit ?_
    refine p_then_x ?_
    refine p_then_x ?_
    refine f_exit_here ?_
    refine p_then ?_
    refine wp_seq ?_
    obtain ⟨a0, hx15, hF⟩ := bnd_in hF
    refine f_region hok ?_; clear hok; intro hok
    refine h_call hok H (js := []) rfl (caps := #[]) fn_18_YW4 rfl rfl rfl rfl rfl (by decide) rfl rfl (fun D1 hS => have hq := c_law02_awake hx15 hS; hq) ?_; clear hok a; intro vv a w12 D2 hr hF2 hok
    obtain ⟨rfl, I11, K⟩ := hr
    have H : Hf I D w I11 w12 [BxC g1 65 [.string r_s, .int .i64 r_at_, .int .i64 r_e, .bool r_made], BxC b1 50 [.string x_s, .int .i64 x_at_, .int .i64 x_e], SlC NElaw02_Part v1_l l] := hF2 K
    clear hF2 K
    refine s_runk TB_YW4 hok 1 rfl rfl ?_; clear hok a; intro a hok
    refine s_end hok [4] rfl ?_; clear hok; intro hok
    refine p_then ?_
    refine wp_ret ?_
    obtain rfl := some_in hF
    exact f_ret hok (run_results1 rfl hok rfl) ⟨rfl, I11, (H.sub [] rfl).eq rfl⟩

end Go.Proofs.Ytlgejpompnbfoaa
