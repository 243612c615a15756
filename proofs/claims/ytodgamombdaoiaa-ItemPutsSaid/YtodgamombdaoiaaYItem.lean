/- Entries. -/
import Derived.Test.YtodgamombdaoiaaYOps1
namespace Go.Proofs.Ytodgamombdaoiaa
open Go.RowKit
structure EEntry where
 batch : EBatch
 ts : Int

instance : Inhabited EEntry := ⟨⟨default, 0⟩⟩

def cEEntry (x : EEntry) (v0 : Value) : List Value := [.int .i64 x.batch.client, .int .i64 x.batch.req, v0, .int .u64 x.ts]

def NEEntry : Rp EEntry where
 n := 4
 rep A w cs x := ∃ v0 : Value, cs = cEEntry x v0 ∧ slRep NEOp A w v0 x.batch.ops
 len := fun ⟨v0, h, _⟩ => by rw [h]; rfl
 one := fun ⟨v0, h, s0⟩ c hc => by
  rw [h] at hc
  simp only [cEEntry, List.mem_cons, List.not_mem_nil, or_false] at hc
  rcases hc with rfl | rfl | rfl | rfl
  ·rfl
  ·rfl
  ·exact s0.one
  ·rfl
 mono := fun ⟨v0, h, s0⟩ hA hk => ⟨v0, h, s0.mono hA hk⟩
 bound := fun ⟨v0, h, s0⟩ => ⟨v0, h, s0.bound⟩

theorem NEEntry.dft (A : Dm) (w : World) : ∃ cl, NEEntry.rep A w cl default := ⟨_, .slice none 0 0, rfl, slRep.nil _ _ _ _ _ (Nat.zero_le _)⟩

def tIL : TabL := ⟨[(35840, 0), (35841, 3)], [], [], [], [(27, (1, false)), (33, (3, true)), (35, (4, true)), (62, (2, true)), (78, (3, true))]⟩

def tI : Tab Try.prog := ⟨tIL, by kernel_rfl⟩

theorem fn_27_YItem : IsFn Try.prog 27 := ⟨_, Try.func27, by kernel_rfl, by kernel_rfl⟩

theorem fn_28_YItem : IsFn Try.prog 28 := ⟨_, Try.func28, by kernel_rfl, by kernel_rfl⟩

theorem fn_29_YItem : IsFn Try.prog 29 := ⟨_, Try.func29, by kernel_rfl, by kernel_rfl⟩

theorem fn_30_YItem : IsFn Try.prog 30 := ⟨_, Try.func30, by kernel_rfl, by kernel_rfl⟩

theorem fn_31_YItem : IsFn Try.prog 31 := ⟨_, Try.func31, by kernel_rfl, by kernel_rfl⟩

theorem fn_32_YItem : IsFn Try.prog 32 := ⟨_, Try.func32, by kernel_rfl, by kernel_rfl⟩

theorem fn_33_YItem : IsFn Try.prog 33 := ⟨_, Try.func33, by kernel_rfl, by kernel_rfl⟩

theorem fn_34_YItem : IsFn Try.prog 34 := ⟨_, Try.func34, by kernel_rfl, by kernel_rfl⟩

theorem fn_35_YItem : IsFn Try.prog 35 := ⟨_, Try.func35, by kernel_rfl, by kernel_rfl⟩

theorem fn_36_YItem : IsFn Try.prog 36 := ⟨_, Try.func36, by kernel_rfl, by kernel_rfl⟩

theorem fn_37_YItem : IsFn Try.prog 37 := ⟨_, Try.func37, by kernel_rfl, by kernel_rfl⟩

theorem fn_38_YItem : IsFn Try.prog 38 := ⟨_, Try.func38, by kernel_rfl, by kernel_rfl⟩

theorem fn_39_YItem : IsFn Try.prog 39 := ⟨_, Try.func39, by kernel_rfl, by kernel_rfl⟩

def F_ref08_Check (e : EEntry) : Option Int := (F_ref06_Check e.batch).bind fun c => (some c)

set_option maxHeartbeats 1000000 in
theorem c_ref08_Check {I D : Dm} {e : EEntry} {v1_e : Value} {w : World} {rr : Int} (hF : F_ref08_Check e = some rr) (H : St I D w [SlC NEOp v1_e e.batch.ops]) :
  Calls Try.prog 18 #[.agg #[.int .i64 e.batch.client, .int .i64 e.batch.req, v1_e, .int .u64 e.ts]] w (Ret fun vv w' => vv = .int .i64 rr ∧ ∃ I', Hf I D w I' w' []) := by
 replace H := H.hf
 unfold F_ref08_Check at hF
 refine f_enter 6 Try.func18 rfl rfl (Nat.le_of_ble_eq_true rfl) fun a Z => ?_
 replace Z := Z.sub (ts := [0]) rfl
 refine wp_seq (f_region Z ?_); clear Z; intro Z
 refine h_boxv Z H (cl := [.int .i64 e.batch.client, .int .i64 e.batch.req, v1_e, .int .u64 e.ts]) rfl rfl rfl (by decide) rfl rfl rfl ?_; clear Z a H; intro a w1 b1 H Z
 refine s_runk tI Z 1 rfl rfl ?_; clear Z a; intro a Z
 refine s_end Z [1, 2] rfl ?_; clear Z; intro Z
 refine p_then (wp_seq ?_)
 obtain ⟨c, hx1, hF⟩ := bnd_in hF
 refine f_region Z ?_; clear Z; intro Z
 refine s_runk tI Z 1 rfl rfl ?_; clear Z a; intro a Z
 refine s_ob Z (v := .agg #[.int .i64 e.batch.client, .int .i64 e.batch.req, v1_e]) rfl rfl (by decide) rfl (Ob_loads tI rfl rfl rfl ((H.bx 0 rfl).part 0 rfl)) ?_; clear Z a; intro a Z
 refine h_call Z H (js := [(1, true)]) rfl (caps := #[]) fn_37_YItem rfl rfl rfl rfl rfl (by decide) rfl rfl (fun D1 hS => have hq := c_ref06_Check hx1 hS; hq) ?_; clear Z a; intro vv a w2 D2 hr hF2 Z
 obtain ⟨rfl, I1, K⟩ := hr
 have H : Hf I D w I1 w2 [BxC b1 35 (cEEntry e v1_e), SlC NEOp v1_e e.batch.ops] := hF2 K
 clear hF2 K
 refine s_runk tI Z 1 rfl rfl ?_; clear Z a; intro a Z
 refine s_end Z [2] rfl ?_; clear Z; intro Z
 refine p_then (wp_ret ?_)
 obtain rfl := some_in hF
 exact f_ret Z (run_results1 rfl Z rfl) ⟨rfl, I1, (H.sub [] rfl).eq rfl⟩

def F_item_Check (e : EEntry) : Option Int := (F_ops_Check e.batch).bind fun c => (some c)

set_option maxHeartbeats 1000000 in
theorem c_item_Check {I D : Dm} {e : EEntry} {v1_e : Value} {w : World} {rr : Int} (hF : F_item_Check e = some rr) (H : St I D w [SlC NEOp v1_e e.batch.ops]) :
  Calls Try.prog 17 #[.agg #[.int .i64 e.batch.client, .int .i64 e.batch.req, v1_e, .int .u64 e.ts]] w (Ret fun vv w' => vv = .int .i64 rr ∧ ∃ I', Hf I D w I' w' []) := by
 replace H := H.hf
 unfold F_item_Check at hF
 refine f_enter 6 Try.func17 rfl rfl (Nat.le_of_ble_eq_true rfl) fun a Z => ?_
 replace Z := Z.sub (ts := [0]) rfl
 refine wp_seq (f_region Z ?_); clear Z; intro Z
 refine h_boxv Z H (cl := [.int .i64 e.batch.client, .int .i64 e.batch.req, v1_e, .int .u64 e.ts]) rfl rfl rfl (by decide) rfl rfl rfl ?_; clear Z a H; intro a w1 b1 H Z
 refine s_runk tI Z 1 rfl rfl ?_; clear Z a; intro a Z
 refine s_end Z [1, 2] rfl ?_; clear Z; intro Z
 refine p_then (wp_seq ?_)
 obtain ⟨c, hx1, hF⟩ := bnd_in hF
 refine f_region Z ?_; clear Z; intro Z
 refine s_runk tI Z 1 rfl rfl ?_; clear Z a; intro a Z
 refine s_ob Z (v := .agg #[.int .i64 e.batch.client, .int .i64 e.batch.req, v1_e]) rfl rfl (by decide) rfl (Ob_loads tI rfl rfl rfl ((H.bx 0 rfl).part 0 rfl)) ?_; clear Z a; intro a Z
 refine h_call Z H (js := [(1, true)]) rfl (caps := #[]) fn_36_YItem rfl rfl rfl rfl rfl (by decide) rfl rfl (fun D1 hS => have hq := c_ops_Check hx1 hS; hq) ?_; clear Z a; intro vv a w2 D2 hr hF2 Z
 obtain ⟨rfl, I1, K⟩ := hr
 have H : Hf I D w I1 w2 [BxC b1 35 (cEEntry e v1_e), SlC NEOp v1_e e.batch.ops] := hF2 K
 clear hF2 K
 refine s_runk tI Z 1 rfl rfl ?_; clear Z a; intro a Z
 refine s_end Z [2] rfl ?_; clear Z; intro Z
 refine p_then (wp_ret ?_)
 obtain rfl := some_in hF
 exact f_ret Z (run_results1 rfl Z rfl) ⟨rfl, I1, (H.sub [] rfl).eq rfl⟩

def F_ref08_Put (e : EEntry) : Option (ByteArray × Int) := (F_ref06_Put e.batch).bind fun p => (if (p.2 != 0) = true then (some (⟨#[]⟩, p.2)) else ((F_ref02_Writer_Big (default : Eref02_Writer) e.ts).bind fun b => ((F_ref02_Writer_Text b p.1).bind fun t => ((F_ref02_Writer_Done t).bind fun d => (some (d.1, d.2))))))

set_option maxHeartbeats 1000000 in
theorem c_ref08_Put {I D : Dm} {e : EEntry} {v1_e : Value} {w : World} {rr : ByteArray × Int} (hF : F_ref08_Put e = some rr) (H : St I D w [SlC NEOp v1_e e.batch.ops]) :
  Calls Try.prog 16 #[.agg #[.int .i64 e.batch.client, .int .i64 e.batch.req, v1_e, .int .u64 e.ts]] w (Ret fun vv w' => vv = .tuple #[.string rr.1, .int .i64 rr.2] ∧ ∃ I', Hf I D w I' w' []) := by
 replace H := H.hf
 unfold F_ref08_Put at hF
 refine f_enter 29 Try.func16 rfl rfl (Nat.le_of_ble_eq_true rfl) fun a Z => ?_
 replace Z := Z.sub (ts := [0]) rfl
 refine wp_seq (f_region Z ?_); clear Z; intro Z
 refine h_boxv Z H (cl := [.int .i64 e.batch.client, .int .i64 e.batch.req, v1_e, .int .u64 e.ts]) rfl rfl rfl (by decide) rfl rfl rfl ?_; clear Z a H; intro a w1 b1 H Z
 refine s_runk tI Z 2 rfl rfl ?_; clear Z a; intro a Z
 refine s_end Z [1, 2, 3] rfl ?_; clear Z; intro Z
 refine p_then (wp_seq ?_)
 obtain ⟨p, hx1, hF⟩ := bnd_in hF
 refine f_region Z ?_; clear Z; intro Z
 refine s_runk tI Z 1 rfl rfl ?_; clear Z a; intro a Z
 refine s_ob Z (v := .agg #[.int .i64 e.batch.client, .int .i64 e.batch.req, v1_e]) rfl rfl (by decide) rfl (Ob_loads tI rfl rfl rfl ((H.bx 0 rfl).part 0 rfl)) ?_; clear Z a; intro a Z
 refine h_call Z H (js := [(1, true)]) rfl (caps := #[]) fn_32_YItem rfl rfl rfl rfl rfl (by decide) rfl rfl (fun D1 hS => have hq := c_ref06_Put hx1 hS; hq) ?_; clear Z a; intro vv a w2 D2 hr hF2 Z
 obtain ⟨rfl, I1, K⟩ := hr
 have H : Hf I D w I1 w2 [BxC b1 35 (cEEntry e v1_e), SlC NEOp v1_e e.batch.ops] := hF2 K
 clear hF2 K
 refine s_runk tI Z 5 rfl rfl ?_; clear Z a; intro a Z
 refine s_end Z [1, 2, 3, 4, 5] rfl ?_; clear Z; intro Z
 refine p_then (wp_seq ?_)
 refine wp_seq (f_region Z ?_); clear Z; intro Z
 refine s_runk tI Z 2 rfl rfl ?_; clear Z a; intro a Z
 refine s_end Z [1, 2, 3, 4, 5, 14] rfl ?_; clear Z; intro Z
 refine p_then ?_
 refine f_cond Z rfl (fun hc1 => ?_) (fun hc1 => ?_)
 ·replace hF := ite_t hc1 hF
  refine wp_seq (f_region Z ?_); clear Z; intro Z
  refine s_runk tI Z 3 rfl rfl ?_; clear Z a; intro a Z
  refine s_end Z [1, 2, 3, 4] rfl ?_; clear Z; intro Z
  refine p_then (wp_ret ?_)
  refine p_then_r ?_
  obtain rfl := some_in hF
  exact f_ret Z (run_results2 rfl Z rfl rfl) ⟨rfl, I1, (H.sub [] rfl).eq rfl⟩
 ·replace hF := ite_f hc1 hF
  refine wp_skip ?_
  refine p_then (wp_seq (f_region Z ?_)); clear Z; intro Z
  refine s_ob Z (v := .agg #[.string ByteArray.empty, .int .i64 0]) rfl rfl (by decide) rfl (Ob_build (vs := []) rfl rfl (by go_simp <;> rfl)) ?_; clear Z a; intro a Z
  refine h_boxv Z H (cl := [.string ByteArray.empty, .int .i64 0]) rfl rfl rfl (by decide) rfl rfl rfl ?_; clear Z a H; intro a w3 b2 H Z
  refine s_runk tI Z 1 rfl rfl ?_; clear Z a; intro a Z
  refine s_end Z [1, 2, 3, 4, 6] rfl ?_; clear Z; intro Z
  refine p_then (wp_seq ?_)
  obtain ⟨b, hx2, hF⟩ := bnd_in hF
  refine f_region Z ?_; clear Z; intro Z
  refine s_runk tI Z 2 rfl rfl ?_; clear Z a; intro a Z
  refine s_ob Z (v := .int .u64 e.ts) rfl rfl (by decide) rfl (Ob_load tI rfl rfl rfl ((H.bx 1 rfl).cell 3 rfl)) ?_; clear Z a; intro a Z
  refine h_call Z H (js := [(0, false)]) rfl (caps := #[]) fn_33_YItem rfl rfl rfl rfl rfl (by decide) rfl rfl (fun D1 hS => have hq := c_ref02_Writer_Big hx2 hS; hq) ?_; clear Z a; intro vv a w4 D2 hr hF2 Z
  obtain ⟨rfl, I2, K⟩ := hr
  have H : Hf I D w I2 w4 [BxC b2 62 [.string b.s, .int .i64 b.e], BxC b1 35 (cEEntry e v1_e), SlC NEOp v1_e e.batch.ops] := hF2 K
  clear hF2 K
  refine s_end Z [2, 3, 4, 6] rfl ?_; clear Z; intro Z
  refine p_then (wp_seq ?_)
  obtain ⟨t, hx3, hF⟩ := bnd_in hF
  refine f_region Z ?_; clear Z; intro Z
  refine s_runk tI Z 2 rfl rfl ?_; clear Z a; intro a Z
  refine h_call Z H (js := [(0, false)]) rfl (caps := #[]) fn_34_YItem rfl rfl rfl rfl rfl (by decide) rfl rfl (fun D1 hS => have hq := c_ref02_Writer_Text hx3 hS; hq) ?_; clear Z a; intro vv a w5 D2 hr hF2 Z
  obtain ⟨rfl, I3, K⟩ := hr
  have H : Hf I D w I3 w5 [BxC b2 62 [.string t.s, .int .i64 t.e], BxC b1 35 (cEEntry e v1_e), SlC NEOp v1_e e.batch.ops] := hF2 K
  clear hF2 K
  refine s_end Z [2, 3, 6] rfl ?_; clear Z; intro Z
  refine p_then (wp_seq ?_)
  obtain ⟨d, hx4, hF⟩ := bnd_in hF
  refine f_region Z ?_; clear Z; intro Z
  refine s_runk tI Z 1 rfl rfl ?_; clear Z a; intro a Z
  refine h_call Z H (js := [(0, false)]) rfl (caps := #[]) fn_35_YItem rfl rfl rfl rfl rfl (by decide) rfl rfl (fun D1 hS => have hq := c_ref02_Writer_Done hx4 hS; hq) ?_; clear Z a; intro vv a w6 D2 hr hF2 Z
  obtain ⟨rfl, I4, K⟩ := hr
  have H : Hf I D w I4 w6 [BxC b2 62 [.string t.s, .int .i64 t.e], BxC b1 35 (cEEntry e v1_e), SlC NEOp v1_e e.batch.ops] := hF2 K
  clear hF2 K
  refine s_runk tI Z 4 rfl rfl ?_; clear Z a; intro a Z
  refine s_end Z [2, 3] rfl ?_; clear Z; intro Z
  refine p_then (wp_ret ?_)
  obtain rfl := some_in hF
  exact f_ret Z (run_results2 rfl Z rfl rfl) ⟨rfl, I4, (H.sub [] rfl).eq rfl⟩

def F_item_Put (e : EEntry) : Option (ByteArray × Int) := (F_ops_Put e.batch).bind fun p => (if (p.2 != 0) = true then (some (⟨#[]⟩, p.2)) else ((F_wire_New).bind fun n0 => ((F_wire_Writer_Big n0 e.ts).bind fun b => ((F_wire_Writer_Text b p.1).bind fun t => ((F_wire_Writer_Done t).bind fun d => (some (d.1, d.2)))))))

set_option maxHeartbeats 1000000 in
theorem c_item_Put {I D : Dm} {e : EEntry} {v1_e : Value} {w : World} {rr : ByteArray × Int} (hF : F_item_Put e = some rr) (H : St I D w [SlC NEOp v1_e e.batch.ops]) :
  Calls Try.prog 15 #[.agg #[.int .i64 e.batch.client, .int .i64 e.batch.req, v1_e, .int .u64 e.ts]] w (Ret fun vv w' => vv = .tuple #[.string rr.1, .int .i64 rr.2] ∧ ∃ I', Hf I D w I' w' []) := by
 replace H := H.hf
 unfold F_item_Put at hF
 refine f_enter 24 Try.func15 rfl rfl (Nat.le_of_ble_eq_true rfl) fun a Z => ?_
 replace Z := Z.sub (ts := [0]) rfl
 refine wp_seq (f_region Z ?_); clear Z; intro Z
 refine h_boxv Z H (cl := [.int .i64 e.batch.client, .int .i64 e.batch.req, v1_e, .int .u64 e.ts]) rfl rfl rfl (by decide) rfl rfl rfl ?_; clear Z a H; intro a w1 b1 H Z
 refine s_runk tI Z 2 rfl rfl ?_; clear Z a; intro a Z
 refine s_end Z [1, 2, 3] rfl ?_; clear Z; intro Z
 refine p_then (wp_seq ?_)
 obtain ⟨p, hx1, hF⟩ := bnd_in hF
 refine f_region Z ?_; clear Z; intro Z
 refine s_runk tI Z 1 rfl rfl ?_; clear Z a; intro a Z
 refine s_ob Z (v := .agg #[.int .i64 e.batch.client, .int .i64 e.batch.req, v1_e]) rfl rfl (by decide) rfl (Ob_loads tI rfl rfl rfl ((H.bx 0 rfl).part 0 rfl)) ?_; clear Z a; intro a Z
 refine h_call Z H (js := [(1, true)]) rfl (caps := #[]) fn_27_YItem rfl rfl rfl rfl rfl (by decide) rfl rfl (fun D1 hS => have hq := c_ops_Put hx1 hS; hq) ?_; clear Z a; intro vv a w2 D2 hr hF2 Z
 obtain ⟨rfl, I1, K⟩ := hr
 have H : Hf I D w I1 w2 [BxC b1 35 (cEEntry e v1_e), SlC NEOp v1_e e.batch.ops] := hF2 K
 clear hF2 K
 refine s_runk tI Z 5 rfl rfl ?_; clear Z a; intro a Z
 refine s_end Z [1, 2, 3, 4, 5] rfl ?_; clear Z; intro Z
 refine p_then (wp_seq ?_)
 refine wp_seq (f_region Z ?_); clear Z; intro Z
 refine s_runk tI Z 2 rfl rfl ?_; clear Z a; intro a Z
 refine s_end Z [1, 2, 3, 4, 5, 13] rfl ?_; clear Z; intro Z
 refine p_then ?_
 refine f_cond Z rfl (fun hc1 => ?_) (fun hc1 => ?_)
 ·replace hF := ite_t hc1 hF
  refine wp_seq (f_region Z ?_); clear Z; intro Z
  refine s_runk tI Z 3 rfl rfl ?_; clear Z a; intro a Z
  refine s_end Z [1, 2, 3, 4] rfl ?_; clear Z; intro Z
  refine p_then (wp_ret ?_)
  refine p_then_r ?_
  obtain rfl := some_in hF
  exact f_ret Z (run_results2 rfl Z rfl rfl) ⟨rfl, I1, (H.sub [] rfl).eq rfl⟩
 ·replace hF := ite_f hc1 hF
  refine wp_skip ?_
  refine p_then (wp_seq ?_)
  obtain ⟨n0, hx2, hF⟩ := bnd_in hF
  obtain ⟨b, hx3, hF⟩ := bnd_in hF
  obtain ⟨t, hx4, hF⟩ := bnd_in hF
  obtain ⟨d, hx5, hF⟩ := bnd_in hF
  refine f_regionM Z (by kernel_rfl) (by kernel_rfl) (by decide) (by decide) [0, 3, 5, 6] [(0, 0, 0), (0, 0, 1), (2, 0, 1), (7, 1, 1), (0, 0, 2), (31, 2, 2), (63, 3, 3), (127, 4, 4), (127, 4, 4), (511, 4, 4), (1023, 4, 4)] (by kernel_rfl) (fun jj => match jj with | 3 => 0 | 5 => 0 | _ => jj) (by kernel_rfl) (fun jj rv vv => match jj with | 0 => vv = .pointer (some ⟨(blkOf vv), 0, none⟩) | 1 => vv = .pointer (some ⟨b1, 3, none⟩) | 2 => vv = .int .u64 e.ts | 3 => vv = .pointer (some ⟨(blkOf rv), 0, none⟩) | 4 => vv = .string p.1 | 5 => vv = .pointer (some ⟨(blkOf rv), 0, none⟩) | 6 => vv = .tuple #[.string d.1, .int .i64 d.2] | 7 => vv = .string d.1 | 8 => vv = .int .i64 d.2 | 9 => vv = .string d.1 | 10 => vv = .int .i64 d.2 | _ => True) (fun ss vals1 xw => match ss with | 0 => Gx I D w I1 w2 xw [BxC b1 35 (cEEntry e v1_e), SlC NEOp v1_e e.batch.ops] | 1 => Gx I D w I1 w2 xw [OEwire_Writer (blkOf (vals1 0)) n0, BxC b1 35 (cEEntry e v1_e), SlC NEOp v1_e e.batch.ops] | 2 => Gx I D w I1 w2 xw [OEwire_Writer (blkOf (vals1 0)) b, BxC b1 35 (cEEntry e v1_e), SlC NEOp v1_e e.batch.ops] | 3 => Gx I D w I1 w2 xw [OEwire_Writer (blkOf (vals1 0)) t, BxC b1 35 (cEEntry e v1_e), SlC NEOp v1_e e.batch.ops] | _ => Gx I D w I1 w2 xw [BxC b1 35 (cEEntry e v1_e), SlC NEOp v1_e e.batch.ops]) (fun _ => Gx.start H) ?_ ?_
  ·intro fr hfr hfe
   refine .cons (fun ss hlo hhi vals1 xw hG hV => ?_) ?_
   ·obtain rfl : ss = 0 := Nat.le_antisymm hhi hlo
    rw [← hfe]
    have hS := (hfr vals1).sub (ts := []) (S' := []) rfl
    obtain ⟨I2, hI2, H⟩ := Gx.ex hG
    refine L_hcall H (js := []) rfl (caps := #[]) hS fn_28_YItem rfl rfl rfl rfl rfl (fun D1 hS => have hq := c_wire_New hx2 hS; hq) fun _ yw D1 hr hF2 => ?_
    obtain ⟨g0_, rfl, I3, K⟩ := hr
    obtain ⟨hK, H2⟩ := hF2 K
    exact ⟨rfl, Gx.go hG hI2 hK K.imm H2⟩
   refine .cons (fun ss hlo hhi vals1 xw hG hV => ?_) ?_
   ·obtain rfl | rfl : ss = 0 ∨ ss = 1 := st1 hlo hhi
    all_goals
    ·rw [← hfe]
     have hS := (hfr vals1).sub (ts := [1]) (S' := [(1, .pointer (some ⟨b1, 0, none⟩))]) rfl
     exact L_val hS rfl (Ob_c tI rfl) ⟨rfl, hG⟩
   refine .cons (fun ss hlo hhi vals1 xw hG hV => ?_) ?_
   ·obtain rfl | rfl : ss = 0 ∨ ss = 1 := st1 hlo hhi
    ·rw [← hfe]
     have hS := (hfr vals1).sub (ts := [16]) (S' := [(16, vals1 1)]) rfl
     replace hS := hS.conv (t := 16) rfl (show (vals1 1) = .pointer (some ⟨b1, 3, none⟩) from hV 1 (by decide))
     obtain ⟨I2, hI2, H⟩ := Gx.ex hG
     exact L_val hS rfl (Ob_load tI rfl rfl rfl ((H.bx 0 rfl).cell 3 rfl)) ⟨rfl, hG⟩
    ·rw [← hfe]
     have hS := (hfr vals1).sub (ts := [16]) (S' := [(16, vals1 1)]) rfl
     replace hS := hS.conv (t := 16) rfl (show (vals1 1) = .pointer (some ⟨b1, 3, none⟩) from hV 1 (by decide))
     obtain ⟨I2, hI2, H⟩ := Gx.ex hG
     exact L_val hS rfl (Ob_load tI rfl rfl rfl ((H.bx 1 rfl).cell 3 rfl)) ⟨rfl, hG⟩
   refine .cons (fun ss hlo hhi vals1 xw hG hV => ?_) ?_
   ·obtain rfl : ss = 1 := Nat.le_antisymm hhi hlo
    rw [← hfe]
    have hS := (hfr vals1).sub (ts := [15, 17]) (S' := [(15, vals1 0), (17, vals1 2)]) rfl
    replace hS := hS.conv (t := 15) rfl (show (vals1 0) = .pointer (some ⟨(blkOf (vals1 0)), 0, none⟩) from hV 0 (by decide))
    replace hS := hS.conv (t := 17) rfl (show (vals1 2) = .int .u64 e.ts from hV 2 (by decide))
    obtain ⟨I2, hI2, H⟩ := Gx.ex hG
    refine L_hcall H (js := [(0, false)]) rfl (caps := #[]) hS fn_29_YItem rfl rfl rfl rfl rfl (fun D1 hS => have hq := c_wire_Writer_Big hx3 hS; hq) fun _ yw D1 hr hF2 => ?_
    obtain ⟨rfl, I3, K⟩ := hr
    obtain ⟨hK, H2⟩ := hF2 K
    exact ⟨rfl, Gx.go hG hI2 hK K.imm H2⟩
   refine .cons (fun ss hlo hhi vals1 xw hG hV => ?_) ?_
   ·obtain rfl | rfl | rfl : ss = 0 ∨ ss = 1 ∨ ss = 2 := st2 hlo hhi
    all_goals
    ·rw [← hfe]
     have hS := (hfr vals1).sub (ts := [4]) (S' := [(4, .string p.1)]) rfl
     exact L_val hS rfl (Ob_c tI rfl) ⟨rfl, hG⟩
   refine .cons (fun ss hlo hhi vals1 xw hG hV => ?_) ?_
   ·obtain rfl : ss = 2 := Nat.le_antisymm hhi hlo
    rw [← hfe]
    have hS := (hfr vals1).sub (ts := [18, 19]) (S' := [(18, vals1 3), (19, vals1 4)]) rfl
    replace hS := hS.conv (t := 18) rfl (show (vals1 3) = .pointer (some ⟨(blkOf (vals1 0)), 0, none⟩) from hV 3 (by decide))
    replace hS := hS.conv (t := 19) rfl (show (vals1 4) = .string p.1 from hV 4 (by decide))
    obtain ⟨I2, hI2, H⟩ := Gx.ex hG
    refine L_hcall H (js := [(0, false)]) rfl (caps := #[]) hS fn_30_YItem rfl rfl rfl rfl rfl (fun D1 hS => have hq := c_wire_Writer_Text hx4 hS; hq) fun _ yw D1 hr hF2 => ?_
    obtain ⟨rfl, I3, K⟩ := hr
    obtain ⟨hK, H2⟩ := hF2 K
    exact ⟨rfl, Gx.go hG hI2 hK K.imm H2⟩
   refine .cons (fun ss hlo hhi vals1 xw hG hV => ?_) ?_
   ·obtain rfl : ss = 3 := Nat.le_antisymm hhi hlo
    rw [← hfe]
    have hS := (hfr vals1).sub (ts := [20]) (S' := [(20, vals1 5)]) rfl
    replace hS := hS.conv (t := 20) rfl (show (vals1 5) = .pointer (some ⟨(blkOf (vals1 0)), 0, none⟩) from hV 5 (by decide))
    obtain ⟨I2, hI2, H⟩ := Gx.ex hG
    refine L_hcall H (js := [(0, false)]) rfl (caps := #[]) hS fn_31_YItem rfl rfl rfl rfl rfl (fun D1 hS => have hq := c_wire_Writer_Done hx5 hS; hq) fun _ yw D1 hr hF2 => ?_
    obtain ⟨rfl, I3, K⟩ := hr
    obtain ⟨hK, H2⟩ := hF2 K
    exact ⟨rfl, Gx.go hG hI2 hK K.imm H2⟩
   refine .cons (fun ss hlo hhi vals1 xw hG hV => ?_) ?_
   ·obtain rfl : ss = 4 := Nat.le_antisymm hhi hlo
    rw [← hfe]
    have hS := (hfr vals1).sub (ts := [21]) (S' := [(21, vals1 6)]) rfl
    replace hS := hS.conv (t := 21) rfl (show (vals1 6) = .tuple #[.string d.1, .int .i64 d.2] from hV 6 (by decide))
    exact L_val hS rfl (Ob_c tI rfl) ⟨rfl, hG⟩
   refine .cons (fun ss hlo hhi vals1 xw hG hV => ?_) ?_
   ·obtain rfl : ss = 4 := Nat.le_antisymm hhi hlo
    rw [← hfe]
    have hS := (hfr vals1).sub (ts := [21]) (S' := [(21, vals1 6)]) rfl
    replace hS := hS.conv (t := 21) rfl (show (vals1 6) = .tuple #[.string d.1, .int .i64 d.2] from hV 6 (by decide))
    exact L_val hS rfl (Ob_c tI rfl) ⟨rfl, hG⟩
   refine .cons (fun ss hlo hhi vals1 xw hG hV => ?_) ?_
   ·obtain rfl : ss = 4 := Nat.le_antisymm hhi hlo
    rw [← hfe]
    have hS := (hfr vals1).sub (ts := [22]) (S' := [(22, vals1 7)]) rfl
    replace hS := hS.conv (t := 22) rfl (show (vals1 7) = .string d.1 from hV 7 (by decide))
    exact L_val hS rfl (Ob_c tI rfl) ⟨rfl, hG⟩
   refine .cons (fun ss hlo hhi vals1 xw hG hV => ?_) ?_
   ·obtain rfl : ss = 4 := Nat.le_antisymm hhi hlo
    rw [← hfe]
    have hS := (hfr vals1).sub (ts := [23]) (S' := [(23, vals1 8)]) rfl
    replace hS := hS.conv (t := 23) rfl (show (vals1 8) = .int .i64 d.2 from hV 8 (by decide))
    exact L_val hS rfl (Ob_c tI rfl) ⟨rfl, hG⟩
   exact .nil
  ·intro vals1 a w3 Z hG hV
   replace Z := Z.sub (ts := [2, 3]) (S' := [(2, vals1 9), (3, vals1 10)]) rfl
   replace Z := Z.conv (t := 2) rfl (show (vals1 9) = .string d.1 from hV 9 (by decide))
   replace Z := Z.conv (t := 3) rfl (show (vals1 10) = .int .i64 d.2 from hV 10 (by decide))
   obtain ⟨I2, _, H⟩ := Gx.ex hG
   clear hG hV
   replace Z := Z.sub (ts := [2, 3]) rfl
   replace H : Hf I D w I2 w3 [BxC b1 35 (cEEntry e v1_e), SlC NEOp v1_e e.batch.ops] := H
   refine p_then (wp_ret ?_)
   obtain rfl := some_in hF
   exact f_ret Z (run_results2 rfl Z rfl rfl) ⟨rfl, I2, (H.sub [] rfl).eq rfl⟩

def F_ref08_Same (a0 : EEntry) (b : EEntry) : Option Bool := (gif (a0.ts == b.ts) (F_ref06_Same a0.batch b.batch) default).bind fun s0 => (some ((a0.ts == b.ts) && s0))

set_option maxHeartbeats 1000000 in
theorem c_ref08_Same {I D : Dm} {a0 : EEntry} {v1_a0 : Value} {b : EEntry} {v2_b : Value} {w : World} {rr : Bool} (hF : F_ref08_Same a0 b = some rr) (H : St I D w [SlC NEOp v1_a0 a0.batch.ops, SlC NEOp v2_b b.batch.ops]) :
  Calls Try.prog 20 #[.agg #[.int .i64 a0.batch.client, .int .i64 a0.batch.req, v1_a0, .int .u64 a0.ts], .agg #[.int .i64 b.batch.client, .int .i64 b.batch.req, v2_b, .int .u64 b.ts]] w (Ret fun vv w' => vv = .bool rr ∧ ∃ I', Hf I D w I' w' []) := by
 replace H := H.hf
 unfold F_ref08_Same at hF
 refine f_enter 17 Try.func20 rfl rfl (Nat.le_of_ble_eq_true rfl) fun a Z => ?_
 replace Z := Z.sub (ts := [0, 1]) rfl
 refine wp_seq (f_region Z ?_); clear Z; intro Z
 refine h_boxv Z H (cl := [.int .i64 a0.batch.client, .int .i64 a0.batch.req, v1_a0, .int .u64 a0.ts]) rfl rfl rfl (by decide) rfl rfl rfl ?_; clear Z a H; intro a w1 b1 H Z
 refine h_boxv Z H (cl := [.int .i64 b.batch.client, .int .i64 b.batch.req, v2_b, .int .u64 b.ts]) rfl rfl rfl (by decide) rfl rfl rfl ?_; clear Z a H; intro a w2 b2 H Z
 refine s_runk tI Z 1 rfl rfl ?_; clear Z a; intro a Z
 refine s_end Z [2, 3, 4] rfl ?_; clear Z; intro Z
 refine p_then (wp_seq ?_)
 obtain ⟨s0, hx1, hF⟩ := bnd_in hF
 refine f_region Z ?_; clear Z; intro Z
 refine s_runk tI Z 1 rfl rfl ?_; clear Z a; intro a Z
 refine s_ob Z (v := .int .u64 a0.ts) rfl rfl (by decide) rfl (Ob_load tI rfl rfl rfl ((H.bx 1 rfl).cell 3 rfl)) ?_; clear Z a; intro a Z
 refine s_runk tI Z 1 rfl rfl ?_; clear Z a; intro a Z
 refine s_ob Z (v := .int .u64 b.ts) rfl rfl (by decide) rfl (Ob_load tI rfl rfl rfl ((H.bx 0 rfl).cell 3 rfl)) ?_; clear Z a; intro a Z
 refine s_runk tI Z 2 rfl rfl ?_; clear Z a; intro a Z
 refine g_ob Z (p := (a0.ts == b.ts)) (v := .pointer (some ⟨b1, 0, none⟩)) (S' := [(2, .pointer (some ⟨b1, 0, none⟩))]) rfl rfl rfl (wantB_t _) rfl (by decide) (fun hp hS => hS.sub (ts := [2]) rfl) (fun hp => Ob_c tI rfl) ?_; clear Z a; intro a Z
 refine g_ob Z (p := (a0.ts == b.ts)) (v := .agg #[.int .i64 a0.batch.client, .int .i64 a0.batch.req, v1_a0]) (S' := [(11, .pointer (some ⟨b1, 0, none⟩))]) rfl rfl rfl (wantB_t _) rfl (by decide) (fun hp hS => (hS.conv (t := 11) rfl (cond_t hp)).sub (ts := [11]) rfl) (fun hp => Ob_loads tI rfl rfl rfl ((H.bx 1 rfl).part 0 rfl)) ?_; clear Z a; intro a Z
 refine g_ob Z (p := (a0.ts == b.ts)) (v := .pointer (some ⟨b2, 0, none⟩)) (S' := [(3, .pointer (some ⟨b2, 0, none⟩))]) rfl rfl rfl (wantB_t _) rfl (by decide) (fun hp hS => hS.sub (ts := [3]) rfl) (fun hp => Ob_c tI rfl) ?_; clear Z a; intro a Z
 refine g_ob Z (p := (a0.ts == b.ts)) (v := .agg #[.int .i64 b.batch.client, .int .i64 b.batch.req, v2_b]) (S' := [(13, .pointer (some ⟨b2, 0, none⟩))]) rfl rfl rfl (wantB_t _) rfl (by decide) (fun hp hS => (hS.conv (t := 13) rfl (cond_t hp)).sub (ts := [13]) rfl) (fun hp => Ob_loads tI rfl rfl rfl ((H.bx 0 rfl).part 0 rfl)) ?_; clear Z a; intro a Z
 refine g_call Z (p := (a0.ts == b.ts)) (v := .bool s0) (S' := [(12, .agg #[.int .i64 a0.batch.client, .int .i64 a0.batch.req, v1_a0]), (14, .agg #[.int .i64 b.batch.client, .int .i64 b.batch.req, v2_b])]) (caps := #[]) fn_39_YItem rfl rfl rfl (wantB_t _) rfl (by decide) (fun hp hS => ((hS.conv (t := 12) rfl (cond_t hp)).conv (t := 14) rfl (cond_t hp)).sub (ts := [12, 14]) rfl) rfl rfl rfl rfl (fun hp => have hq := c_ref06_Same (gif_in hx1 hp) (H.pick0 (js := [(2, true), (3, true)]) rfl rfl); plainC hq) ?_; clear Z a; intro a w3 hb Z
 replace H : Hf I D w I w3 [BxC b2 35 (cEEntry b v2_b), BxC b1 35 (cEEntry a0 v1_a0), SlC NEOp v1_a0 a0.batch.ops, SlC NEOp v2_b b.batch.ops] := H.blw hb
 clear hb
 refine s_ob Z (v := .bool ((a0.ts == b.ts) && s0)) rfl rfl (by decide) rfl (Ob_pick rfl rfl rfl rfl (pick_and _ _)) ?_; clear Z a; intro a Z
 refine s_runk tI Z 1 rfl rfl ?_; clear Z a; intro a Z
 refine s_end Z [4] rfl ?_; clear Z; intro Z
 refine p_then (wp_ret ?_)
 obtain rfl := some_in hF
 exact f_ret Z (run_results1 rfl Z rfl) ⟨rfl, I, (H.sub [] rfl).eq rfl⟩

def F_item_Same (a0 : EEntry) (b : EEntry) : Option Bool := (gif (a0.ts == b.ts) (F_ops_Same a0.batch b.batch) default).bind fun s0 => (some ((a0.ts == b.ts) && s0))

set_option maxHeartbeats 1000000 in
theorem c_item_Same {I D : Dm} {a0 : EEntry} {v1_a0 : Value} {b : EEntry} {v2_b : Value} {w : World} {rr : Bool} (hF : F_item_Same a0 b = some rr) (H : St I D w [SlC NEOp v1_a0 a0.batch.ops, SlC NEOp v2_b b.batch.ops]) :
  Calls Try.prog 19 #[.agg #[.int .i64 a0.batch.client, .int .i64 a0.batch.req, v1_a0, .int .u64 a0.ts], .agg #[.int .i64 b.batch.client, .int .i64 b.batch.req, v2_b, .int .u64 b.ts]] w (Ret fun vv w' => vv = .bool rr ∧ ∃ I', Hf I D w I' w' []) := by
 replace H := H.hf
 unfold F_item_Same at hF
 refine f_enter 17 Try.func19 rfl rfl (Nat.le_of_ble_eq_true rfl) fun a Z => ?_
 replace Z := Z.sub (ts := [0, 1]) rfl
 refine wp_seq (f_region Z ?_); clear Z; intro Z
 refine h_boxv Z H (cl := [.int .i64 a0.batch.client, .int .i64 a0.batch.req, v1_a0, .int .u64 a0.ts]) rfl rfl rfl (by decide) rfl rfl rfl ?_; clear Z a H; intro a w1 b1 H Z
 refine h_boxv Z H (cl := [.int .i64 b.batch.client, .int .i64 b.batch.req, v2_b, .int .u64 b.ts]) rfl rfl rfl (by decide) rfl rfl rfl ?_; clear Z a H; intro a w2 b2 H Z
 refine s_runk tI Z 1 rfl rfl ?_; clear Z a; intro a Z
 refine s_end Z [2, 3, 4] rfl ?_; clear Z; intro Z
 refine p_then (wp_seq ?_)
 obtain ⟨s0, hx1, hF⟩ := bnd_in hF
 refine f_region Z ?_; clear Z; intro Z
 refine s_runk tI Z 1 rfl rfl ?_; clear Z a; intro a Z
 refine s_ob Z (v := .int .u64 a0.ts) rfl rfl (by decide) rfl (Ob_load tI rfl rfl rfl ((H.bx 1 rfl).cell 3 rfl)) ?_; clear Z a; intro a Z
 refine s_runk tI Z 1 rfl rfl ?_; clear Z a; intro a Z
 refine s_ob Z (v := .int .u64 b.ts) rfl rfl (by decide) rfl (Ob_load tI rfl rfl rfl ((H.bx 0 rfl).cell 3 rfl)) ?_; clear Z a; intro a Z
 refine s_runk tI Z 2 rfl rfl ?_; clear Z a; intro a Z
 refine g_ob Z (p := (a0.ts == b.ts)) (v := .pointer (some ⟨b1, 0, none⟩)) (S' := [(2, .pointer (some ⟨b1, 0, none⟩))]) rfl rfl rfl (wantB_t _) rfl (by decide) (fun hp hS => hS.sub (ts := [2]) rfl) (fun hp => Ob_c tI rfl) ?_; clear Z a; intro a Z
 refine g_ob Z (p := (a0.ts == b.ts)) (v := .agg #[.int .i64 a0.batch.client, .int .i64 a0.batch.req, v1_a0]) (S' := [(11, .pointer (some ⟨b1, 0, none⟩))]) rfl rfl rfl (wantB_t _) rfl (by decide) (fun hp hS => (hS.conv (t := 11) rfl (cond_t hp)).sub (ts := [11]) rfl) (fun hp => Ob_loads tI rfl rfl rfl ((H.bx 1 rfl).part 0 rfl)) ?_; clear Z a; intro a Z
 refine g_ob Z (p := (a0.ts == b.ts)) (v := .pointer (some ⟨b2, 0, none⟩)) (S' := [(3, .pointer (some ⟨b2, 0, none⟩))]) rfl rfl rfl (wantB_t _) rfl (by decide) (fun hp hS => hS.sub (ts := [3]) rfl) (fun hp => Ob_c tI rfl) ?_; clear Z a; intro a Z
 refine g_ob Z (p := (a0.ts == b.ts)) (v := .agg #[.int .i64 b.batch.client, .int .i64 b.batch.req, v2_b]) (S' := [(13, .pointer (some ⟨b2, 0, none⟩))]) rfl rfl rfl (wantB_t _) rfl (by decide) (fun hp hS => (hS.conv (t := 13) rfl (cond_t hp)).sub (ts := [13]) rfl) (fun hp => Ob_loads tI rfl rfl rfl ((H.bx 0 rfl).part 0 rfl)) ?_; clear Z a; intro a Z
 refine g_call Z (p := (a0.ts == b.ts)) (v := .bool s0) (S' := [(12, .agg #[.int .i64 a0.batch.client, .int .i64 a0.batch.req, v1_a0]), (14, .agg #[.int .i64 b.batch.client, .int .i64 b.batch.req, v2_b])]) (caps := #[]) fn_38_YItem rfl rfl rfl (wantB_t _) rfl (by decide) (fun hp hS => ((hS.conv (t := 12) rfl (cond_t hp)).conv (t := 14) rfl (cond_t hp)).sub (ts := [12, 14]) rfl) rfl rfl rfl rfl (fun hp => have hq := c_ops_Same (gif_in hx1 hp) (H.pick0 (js := [(2, true), (3, true)]) rfl rfl); plainC hq) ?_; clear Z a; intro a w3 hb Z
 replace H : Hf I D w I w3 [BxC b2 35 (cEEntry b v2_b), BxC b1 35 (cEEntry a0 v1_a0), SlC NEOp v1_a0 a0.batch.ops, SlC NEOp v2_b b.batch.ops] := H.blw hb
 clear hb
 refine s_ob Z (v := .bool ((a0.ts == b.ts) && s0)) rfl rfl (by decide) rfl (Ob_pick rfl rfl rfl rfl (pick_and _ _)) ?_; clear Z a; intro a Z
 refine s_runk tI Z 1 rfl rfl ?_; clear Z a; intro a Z
 refine s_end Z [4] rfl ?_; clear Z; intro Z
 refine p_then (wp_ret ?_)
 obtain rfl := some_in hF
 exact f_ret Z (run_results1 rfl Z rfl) ⟨rfl, I, (H.sub [] rfl).eq rfl⟩

end Go.Proofs.Ytodgamombdaoiaa
