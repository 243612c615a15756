/- Entries. -/
import Derived.Test.YthmjkcdpbbcdgaaYOps1
import Derived.Test.YthmjkcdpbbcdgaaYConf1
namespace Go.Proofs.Ythmjkcdpbbcdgaa
open Go.RowKit
structure EEntry where
 batch : EBatch
 ts : Int

instance : Inhabited EEntry := ⟨⟨default, 0⟩⟩

def cEEntry (x : EEntry) (v0 : Value) : List Value := [.int .i64 x.batch.client, .int .i64 x.batch.req, v0, .int .u64 x.ts]

def NEEntry : Rp EEntry where
 n := 4
 rep A w cs x := ∃ v0 : Value, cs = cEEntry x v0 ∧ slRep NEOp A w v0 x.batch.ops
 len := fun ⟨v0, h, _⟩ => by rw [h]; rfl
 one := fun ⟨v0, h, s0⟩ c hc => by
  rw [h] at hc
  simp only [cEEntry, List.mem_cons, List.not_mem_nil, or_false] at hc
  rcases hc with rfl | rfl | rfl | rfl
  ·rfl
  ·rfl
  ·exact s0.one
  ·rfl
 mono := fun ⟨v0, h, s0⟩ hA hk => ⟨v0, h, s0.mono hA hk⟩
 bound := fun ⟨v0, h, s0⟩ => ⟨v0, h, s0.bound⟩

theorem NEEntry.dft (A : Dm) (w : World) : ∃ cl, NEEntry.rep A w cl default := ⟨_, .slice none 0 0, rfl, slRep.nil _ _ _ _ _ (Nat.zero_le _)⟩

structure EPair where
 key : ByteArray
 val : ByteArray

instance : Inhabited EPair := ⟨⟨ByteArray.empty, ByteArray.empty⟩⟩

def eqEPair (x y : EPair) : Bool := (seqB x.key y.key) && (seqB x.val y.val)

theorem eqEPair_iff {x y : EPair} : eqEPair x y = true ↔ x = y := by cases x; cases y; simp [eqEPair, seqB_iff, and_assoc]

def cEPair (x : EPair) : List Value := [.string x.key, .string x.val]

def NEPair : Rp EPair := Rp.flat 2 (fun _ => True) (fun x => cEPair x) (fun _ => rfl) (fun x c hc => by simp only [cEPair, List.mem_cons, List.not_mem_nil, or_false] at hc; rcases hc with rfl | rfl <;> rfl)

structure EMsg where
 k : Int
 epoch : Int
 req : Int
 serial : Int
 flag : Bool
 at_ : Int
 last : Int
 n : Int
 m : Int
 p : Int
 e : Int
 key : ByteArray
 to_ : ByteArray
 conf : EConf
 batch : EBatch
 entries : List EEntry
 stamps : List Int
 pairs : List EPair

instance : Inhabited EMsg := ⟨⟨0, 0, 0, 0, false, 0, 0, 0, 0, 0, 0, ByteArray.empty, ByteArray.empty, default, default, [], [], []⟩⟩

def cEMsg (x : EMsg) (v0 : Value) (v1 : Value) (v2 : Value) (v3 : Value) (v4 : Value) : List Value := [.int .i64 x.k, .int .i64 x.epoch, .int .i64 x.req, .int .i64 x.serial, .bool x.flag, .int .u64 x.at_, .int .u64 x.last, .int .i64 x.n, .int .i64 x.m, .int .i64 x.p, .int .i64 x.e, .string x.key, .string x.to_, .int .i64 x.conf.epoch, v0, .int .u64 x.conf.floor, .int .i64 x.batch.client, .int .i64 x.batch.req, v1, v2, v3, v4]

def NEMsg : Rp EMsg where
 n := 22
 rep A w cs x := ∃ v0 v1 v2 v3 v4 : Value, cs = cEMsg x v0 v1 v2 v3 v4 ∧ slRep NEMember A w v0 x.conf.members ∧ slRep NEOp A w v1 x.batch.ops ∧ slRep NEEntry A w v2 x.entries ∧ slRep Nu64 A w v3 x.stamps ∧ slRep NEPair A w v4 x.pairs
 len := fun ⟨v0, v1, v2, v3, v4, h, _⟩ => by rw [h]; rfl
 one := fun ⟨v0, v1, v2, v3, v4, h, s0, s1, s2, s3, s4⟩ c hc => by
  rw [h] at hc
  simp only [cEMsg, List.mem_cons, List.not_mem_nil, or_false] at hc
  rcases hc with rfl | rfl | rfl | rfl | rfl | rfl | rfl | rfl | rfl | rfl | rfl | rfl | rfl | rfl | rfl | rfl | rfl | rfl | rfl | rfl | rfl | rfl
  ·rfl
  ·rfl
  ·rfl
  ·rfl
  ·rfl
  ·rfl
  ·rfl
  ·rfl
  ·rfl
  ·rfl
  ·rfl
  ·rfl
  ·rfl
  ·rfl
  ·exact s0.one
  ·rfl
  ·rfl
  ·rfl
  ·exact s1.one
  ·exact s2.one
  ·exact s3.one
  ·exact s4.one
 mono := fun ⟨v0, v1, v2, v3, v4, h, s0, s1, s2, s3, s4⟩ hA hk => ⟨v0, v1, v2, v3, v4, h, s0.mono hA hk, s1.mono hA hk, s2.mono hA hk, s3.mono hA hk, s4.mono hA hk⟩
 bound := fun ⟨v0, v1, v2, v3, v4, h, s0, s1, s2, s3, s4⟩ => ⟨v0, v1, v2, v3, v4, h, s0.bound, s1.bound, s2.bound, s3.bound, s4.bound⟩

def tIL : TabL := ⟨[(69632, 0), (69633, 3)], [], [], [], [(22, (1, false)), (29, (3, true)), (68, (4, true))]⟩

def tI : Tab Try.prog := ⟨tIL, by kernel_rfl⟩

theorem fn_13_YItem : IsFn Try.prog 13 := ⟨_, Try.func13, by kernel_rfl, by kernel_rfl⟩

theorem fn_16_YItem : IsFn Try.prog 16 := ⟨_, Try.func16, by kernel_rfl, by kernel_rfl⟩

theorem fn_17_YItem : IsFn Try.prog 17 := ⟨_, Try.func17, by kernel_rfl, by kernel_rfl⟩

theorem fn_22_YItem : IsFn Try.prog 22 := ⟨_, Try.func22, by kernel_rfl, by kernel_rfl⟩

theorem fn_25_YItem : IsFn Try.prog 25 := ⟨_, Try.func25, by kernel_rfl, by kernel_rfl⟩

theorem fn_36_YItem : IsFn Try.prog 36 := ⟨_, Try.func36, by kernel_rfl, by kernel_rfl⟩

theorem fn_37_YItem : IsFn Try.prog 37 := ⟨_, Try.func37, by kernel_rfl, by kernel_rfl⟩

theorem fn_49_YItem : IsFn Try.prog 49 := ⟨_, Try.func49, by kernel_rfl, by kernel_rfl⟩

theorem fn_51_YItem : IsFn Try.prog 51 := ⟨_, Try.func51, by kernel_rfl, by kernel_rfl⟩

theorem fn_59_YItem : IsFn Try.prog 59 := ⟨_, Try.func59, by kernel_rfl, by kernel_rfl⟩

theorem fn_67_YItem : IsFn Try.prog 67 := ⟨_, Try.func67, by kernel_rfl, by kernel_rfl⟩

theorem fn_72_YItem : IsFn Try.prog 72 := ⟨_, Try.func72, by kernel_rfl, by kernel_rfl⟩

def F_item_Check (e : EEntry) : Option Int := (F_ops_Check e.batch).bind fun c => (some c)

set_option maxHeartbeats 1000000 in
theorem c_item_Check {I D : Dm} {e : EEntry} {v1_e : Value} {w : World} {rr : Int} (hF : F_item_Check e = some rr) (H : St I D w [SlC NEOp v1_e e.batch.ops]) :
  Calls Try.prog 79 #[.agg (cEEntry e v1_e).toArray] w (Ret fun vv w' => vv = vI rr ∧ ∃ I', Hf I D w I' w' []) := by
 replace H := H.hf
 unfold F_item_Check at hF
 refine f_enter 6 Try.func79 rfl rfl (Nat.le_of_ble_eq_true rfl) fun a Z => ?_
 replace Z := Z.sub (ts := [0]) rfl
 refine wp_seq (f_region Z ?_); clear Z; intro Z
 refine h_boxv Z H (cl := (cEEntry e v1_e)) rfl rfl rfl (by decide) rfl rfl rfl fun a w1 b1 H Z => ?_
 refine s_runk tI Z 1 rfl rfl fun a Z => ?_
 refine s_end Z [1, 2] rfl fun Z => ?_
 refine p_then (wp_seq ?_)
 obtain ⟨c, hx1, hF⟩ := bnd_in hF
 refine f_region Z fun Z => ?_
 refine s_runk tI Z 1 rfl rfl fun a Z => ?_
 refine sO Z (.agg #[vI e.batch.client, vI e.batch.req, v1_e]) rfl (oA tI rfl rfl ((H.bx 0 rfl).part 0 rfl)) fun a Z => ?_
 refine hC Z H [(1, true)] rfl #[] fn_59_YItem rfl rfl (fun D h => have q := c_ops_Check hx1 h; q) fun vv a w2 D2 hr hF2 Z => ?_
 obtain ⟨rfl, I1, K⟩ := hr
 have H := (hF2 K).nf rfl
 refine s_runk tI Z 1 rfl rfl fun a Z => ?_
 refine s_end Z [2] rfl fun Z => ?_
 refine p_then (wp_ret ?_)
 obtain rfl := some_in hF
 exact f_ret Z (run_results1 rfl Z rfl) ⟨rfl, I1, (H.sub [] rfl).eq rfl⟩

def F_item_Put (e : EEntry) : Option (ByteArray × Int) := (F_ops_Put e.batch).bind fun p => (if (p.2 != 0) = true then (some (⟨#[]⟩, p.2)) else ((F_wire_New).bind fun n0 => ((F_wire_Writer_Big n0 e.ts).bind fun b => ((F_wire_Writer_Text b p.1).bind fun t => ((F_wire_Writer_Done t).bind fun d => (some (d.1, d.2)))))))

set_option maxHeartbeats 1000000 in
theorem c_item_Put {I D : Dm} {e : EEntry} {v1_e : Value} {w : World} {rr : ByteArray × Int} (hF : F_item_Put e = some rr) (H : St I D w [SlC NEOp v1_e e.batch.ops]) :
  Calls Try.prog 35 #[.agg (cEEntry e v1_e).toArray] w (Ret fun vv w' => vv = .tuple #[vS rr.1, vI rr.2] ∧ ∃ I', Hf I D w I' w' []) := by
 replace H := H.hf
 unfold F_item_Put at hF
 refine f_enter 24 Try.func35 rfl rfl (Nat.le_of_ble_eq_true rfl) fun a Z => ?_
 replace Z := Z.sub (ts := [0]) rfl
 refine wp_seq (f_region Z ?_); clear Z; intro Z
 refine h_boxv Z H (cl := (cEEntry e v1_e)) rfl rfl rfl (by decide) rfl rfl rfl fun a w1 b1 H Z => ?_
 refine s_runk tI Z 2 rfl rfl fun a Z => ?_
 refine s_end Z [1, 2, 3] rfl fun Z => ?_
 refine p_then (wp_seq ?_)
 obtain ⟨p, hx1, hF⟩ := bnd_in hF
 refine f_region Z fun Z => ?_
 refine s_runk tI Z 1 rfl rfl fun a Z => ?_
 refine sO Z (.agg #[vI e.batch.client, vI e.batch.req, v1_e]) rfl (oA tI rfl rfl ((H.bx 0 rfl).part 0 rfl)) fun a Z => ?_
 refine hC Z H [(1, true)] rfl #[] fn_67_YItem rfl rfl (fun D h => have q := c_ops_Put hx1 h; q) fun vv a w2 D2 hr hF2 Z => ?_
 obtain ⟨rfl, I1, K⟩ := hr
 have H := (hF2 K).nf rfl
 refine s_runk tI Z 5 rfl rfl fun a Z => ?_
 refine s_end Z [1, 2, 3, 4, 5] rfl fun Z => ?_
 refine p_then (wp_seq ?_)
 refine wp_seq (f_region Z ?_); clear Z; intro Z
 refine s_runk tI Z 2 rfl rfl fun a Z => ?_
 refine s_end Z [1, 2, 3, 4, 5, 13] rfl fun Z => ?_
 refine p_then ?_
 refine f_cond Z rfl (fun hc1 => ?_) (fun hc1 => ?_)
 ·replace hF := ite_t hc1 hF
  refine wp_seq (f_region Z ?_); clear Z; intro Z
  refine s_runk tI Z 3 rfl rfl fun a Z => ?_
  refine s_end Z [1, 2, 3, 4] rfl fun Z => ?_
  refine p_then (wp_ret ?_)
  refine p_then_r ?_
  obtain rfl := some_in hF
  exact f_ret Z (run_results2 rfl Z rfl rfl) ⟨rfl, I1, (H.sub [] rfl).eq rfl⟩
 ·replace hF := ite_f hc1 hF
  refine wp_skip ?_
  refine p_then (wp_seq ?_)
  obtain ⟨n0, hx2, hF⟩ := bnd_in hF
  obtain ⟨b, hx3, hF⟩ := bnd_in hF
  obtain ⟨t, hx4, hF⟩ := bnd_in hF
  obtain ⟨d, hx5, hF⟩ := bnd_in hF
  refine f_regionM Z (by kernel_rfl) (by kernel_rfl) (by decide) (by decide) [0, 3, 5, 6] [(0, 0, 0), (0, 0, 1), (2, 0, 1), (7, 1, 1), (0, 0, 2), (31, 2, 2), (63, 3, 3), (127, 4, 4), (127, 4, 4), (511, 4, 4), (1023, 4, 4)] (by kernel_rfl) (fun jj => match jj with | 3 => 0 | 5 => 0 | _ => jj) (by kernel_rfl) (fun jj rv vv => match jj with | 0 => vv = .pointer (some ⟨(blkOf vv), 0, none⟩) | 1 => vv = pp b1 3 | 2 => vv = vU e.ts | 3 => vv = .pointer (some ⟨(blkOf rv), 0, none⟩) | 4 => vv = vS p.1 | 5 => vv = .pointer (some ⟨(blkOf rv), 0, none⟩) | 6 => vv = .tuple #[vS d.1, vI d.2] | 7 => vv = vS d.1 | 8 => vv = vI d.2 | 9 => vv = vS d.1 | 10 => vv = vI d.2 | _ => True) (fun ss vals1 xw => match ss with | 0 => Gx I D w I1 w2 xw [BxC b1 68 (cEEntry e v1_e), SlC NEOp v1_e e.batch.ops] | 1 => Gx I D w I1 w2 xw [OEwire_Writer (blkOf (vals1 0)) n0, BxC b1 68 (cEEntry e v1_e), SlC NEOp v1_e e.batch.ops] | 2 => Gx I D w I1 w2 xw [OEwire_Writer (blkOf (vals1 0)) b, BxC b1 68 (cEEntry e v1_e), SlC NEOp v1_e e.batch.ops] | 3 => Gx I D w I1 w2 xw [OEwire_Writer (blkOf (vals1 0)) t, BxC b1 68 (cEEntry e v1_e), SlC NEOp v1_e e.batch.ops] | _ => Gx I D w I1 w2 xw [BxC b1 68 (cEEntry e v1_e), SlC NEOp v1_e e.batch.ops]) (fun _ => Gx.start H) ?_ ?_
  ·intro fr hfr hfe
   refine .cons (fun ss hlo hhi vals1 xw hG hV => ?_) ?_
   ·obtain rfl : ss = 0 := Nat.le_antisymm hhi hlo
    rw [← hfe]
    have hS := (hfr vals1).sub (ts := []) rfl
    obtain ⟨I2, hI2, H⟩ := Gx.ex hG
    refine L_hcall H (js := []) rfl (caps := #[]) hS fn_13_YItem rfl rfl rfl rfl rfl (fun D1 hS => have hq := c_wire_New hx2 hS; hq) fun _ yw D1 hr hF2 => ?_
    obtain ⟨g0_, rfl, I3, K⟩ := hr
    obtain ⟨hK, H2⟩ := hF2 K
    exact ⟨rfl, Gx.go hG hI2 hK K.imm H2⟩
   refine .cons (fun ss hlo hhi vals1 xw hG hV => ?_) ?_
   ·obtain rfl | rfl : ss = 0 ∨ ss = 1 := st1 hlo hhi
    all_goals
    ·rw [← hfe]
     have hS := (hfr vals1).sub (ts := [1]) rfl
     exact L_val hS rfl (Ob_c tI rfl) ⟨rfl, hG⟩
   refine .cons (fun ss hlo hhi vals1 xw hG hV => ?_) ?_
   ·obtain rfl | rfl : ss = 0 ∨ ss = 1 := st1 hlo hhi
    ·rw [← hfe]
     have hS := (hfr vals1).sub (ts := [16]) rfl
     replace hS := hS.conv (t := 16) rfl (show (vals1 1) = pp b1 3 from hV 1 (by decide))
     obtain ⟨I2, hI2, H⟩ := Gx.ex hG
     exact L_val hS rfl (oL tI rfl rfl (H.bc 0 3 rfl rfl)) ⟨rfl, hG⟩
    ·rw [← hfe]
     have hS := (hfr vals1).sub (ts := [16]) rfl
     replace hS := hS.conv (t := 16) rfl (show (vals1 1) = pp b1 3 from hV 1 (by decide))
     obtain ⟨I2, hI2, H⟩ := Gx.ex hG
     exact L_val hS rfl (oL tI rfl rfl (H.bc 1 3 rfl rfl)) ⟨rfl, hG⟩
   refine .cons (fun ss hlo hhi vals1 xw hG hV => ?_) ?_
   ·obtain rfl : ss = 1 := Nat.le_antisymm hhi hlo
    rw [← hfe]
    have hS := (hfr vals1).sub (ts := [15, 17]) rfl
    replace hS := hS.conv (t := 15) rfl (show (vals1 0) = .pointer (some ⟨(blkOf (vals1 0)), 0, none⟩) from hV 0 (by decide))
    replace hS := hS.conv (t := 17) rfl (show (vals1 2) = vU e.ts from hV 2 (by decide))
    obtain ⟨I2, hI2, H⟩ := Gx.ex hG
    refine L_hcall H (js := [(0, false)]) rfl (caps := #[]) hS fn_37_YItem rfl rfl rfl rfl rfl (fun D1 hS => have hq := c_wire_Writer_Big hx3 hS; hq) fun _ yw D1 hr hF2 => ?_
    obtain ⟨rfl, I3, K⟩ := hr
    obtain ⟨hK, H2⟩ := hF2 K
    exact ⟨rfl, Gx.go hG hI2 hK K.imm H2⟩
   refine .cons (fun ss hlo hhi vals1 xw hG hV => ?_) ?_
   ·obtain rfl | rfl | rfl : ss = 0 ∨ ss = 1 ∨ ss = 2 := st2 hlo hhi
    all_goals
    ·rw [← hfe]
     have hS := (hfr vals1).sub (ts := [4]) rfl
     exact L_val hS rfl (Ob_c tI rfl) ⟨rfl, hG⟩
   refine .cons (fun ss hlo hhi vals1 xw hG hV => ?_) ?_
   ·obtain rfl : ss = 2 := Nat.le_antisymm hhi hlo
    rw [← hfe]
    have hS := (hfr vals1).sub (ts := [18, 19]) rfl
    replace hS := hS.conv (t := 18) rfl (show (vals1 3) = .pointer (some ⟨(blkOf (vals1 0)), 0, none⟩) from hV 3 (by decide))
    replace hS := hS.conv (t := 19) rfl (show (vals1 4) = vS p.1 from hV 4 (by decide))
    obtain ⟨I2, hI2, H⟩ := Gx.ex hG
    refine L_hcall H (js := [(0, false)]) rfl (caps := #[]) hS fn_36_YItem rfl rfl rfl rfl rfl (fun D1 hS => have hq := c_wire_Writer_Text hx4 hS; hq) fun _ yw D1 hr hF2 => ?_
    obtain ⟨rfl, I3, K⟩ := hr
    obtain ⟨hK, H2⟩ := hF2 K
    exact ⟨rfl, Gx.go hG hI2 hK K.imm H2⟩
   refine .cons (fun ss hlo hhi vals1 xw hG hV => ?_) ?_
   ·obtain rfl : ss = 3 := Nat.le_antisymm hhi hlo
    rw [← hfe]
    have hS := (hfr vals1).sub (ts := [20]) rfl
    replace hS := hS.conv (t := 20) rfl (show (vals1 5) = .pointer (some ⟨(blkOf (vals1 0)), 0, none⟩) from hV 5 (by decide))
    obtain ⟨I2, hI2, H⟩ := Gx.ex hG
    refine L_hcall H (js := [(0, false)]) rfl (caps := #[]) hS fn_16_YItem rfl rfl rfl rfl rfl (fun D1 hS => have hq := c_wire_Writer_Done hx5 hS; hq) fun _ yw D1 hr hF2 => ?_
    obtain ⟨rfl, I3, K⟩ := hr
    obtain ⟨hK, H2⟩ := hF2 K
    exact ⟨rfl, Gx.go hG hI2 hK K.imm H2⟩
   refine .cons (fun ss hlo hhi vals1 xw hG hV => ?_) ?_
   ·obtain rfl : ss = 4 := Nat.le_antisymm hhi hlo
    rw [← hfe]
    have hS := (hfr vals1).sub (ts := [21]) rfl
    replace hS := hS.conv (t := 21) rfl (show (vals1 6) = .tuple #[vS d.1, vI d.2] from hV 6 (by decide))
    exact L_val hS rfl (Ob_c tI rfl) ⟨rfl, hG⟩
   refine .cons (fun ss hlo hhi vals1 xw hG hV => ?_) ?_
   ·obtain rfl : ss = 4 := Nat.le_antisymm hhi hlo
    rw [← hfe]
    have hS := (hfr vals1).sub (ts := [21]) rfl
    replace hS := hS.conv (t := 21) rfl (show (vals1 6) = .tuple #[vS d.1, vI d.2] from hV 6 (by decide))
    exact L_val hS rfl (Ob_c tI rfl) ⟨rfl, hG⟩
   refine .cons (fun ss hlo hhi vals1 xw hG hV => ?_) ?_
   ·obtain rfl : ss = 4 := Nat.le_antisymm hhi hlo
    rw [← hfe]
    have hS := (hfr vals1).sub (ts := [22]) rfl
    replace hS := hS.conv (t := 22) rfl (show (vals1 7) = vS d.1 from hV 7 (by decide))
    exact L_val hS rfl (Ob_c tI rfl) ⟨rfl, hG⟩
   refine .cons (fun ss hlo hhi vals1 xw hG hV => ?_) ?_
   ·obtain rfl : ss = 4 := Nat.le_antisymm hhi hlo
    rw [← hfe]
    have hS := (hfr vals1).sub (ts := [23]) rfl
    replace hS := hS.conv (t := 23) rfl (show (vals1 8) = vI d.2 from hV 8 (by decide))
    exact L_val hS rfl (Ob_c tI rfl) ⟨rfl, hG⟩
   exact .nil
  ·intro vals1 a w3 Z hG hV
   replace Z := Z.sub (ts := [2, 3]) (S' := [(2, vals1 9), (3, vals1 10)]) rfl
   replace Z := Z.conv (t := 2) rfl (show (vals1 9) = vS d.1 from hV 9 (by decide))
   replace Z := Z.conv (t := 3) rfl (show (vals1 10) = vI d.2 from hV 10 (by decide))
   obtain ⟨I2, _, H⟩ := Gx.ex hG
   clear hG hV
   replace Z := Z.sub (ts := [2, 3]) rfl
   replace H := H.nf rfl; try dsimp only at H
   refine p_then (wp_ret ?_)
   obtain rfl := some_in hF
   exact f_ret Z (run_results2 rfl Z rfl rfl) ⟨rfl, I2, (H.sub [] rfl).eq rfl⟩

def F_item_Of (s0 : ByteArray) : Option (EEntry × Int) := (F_wire_Open s0).bind fun o => ((F_wire_Reader_Big o).bind fun b => ((F_wire_Reader_Text b.2 65536).bind fun t => ((F_wire_Reader_End t.2).bind fun e => (if (e != 0) = true then (some ((default : EEntry), e)) else ((F_ops_Of t.1).bind fun o_2 => (if (o_2.2 != 0) = true then (some ((default : EEntry), o_2.2)) else (some (({ batch := o_2.1, ts := b.1 } : EEntry), 0))))))))

set_option maxHeartbeats 1000000 in
theorem c_item_Of {I D : Dm} {s0 : ByteArray} {w : World} {rr : EEntry × Int} (hF : F_item_Of s0 = some rr) (H : St I D w []) :
  Calls Try.prog 75 #[vS s0] w (Ret fun vv w' => ∃ q1 : Value, vv = .tuple #[.agg (cEEntry rr.1 q1).toArray, vI rr.2] ∧ ∃ I', Hf I D w I' w' [SlC NEOp q1 rr.1.batch.ops]) := by
 replace H := H.hf
 unfold F_item_Of at hF
 refine f_enter 34 Try.func75 rfl rfl (Nat.le_of_ble_eq_true rfl) fun a Z => ?_
 replace Z := Z.sub (ts := [0]) rfl
 refine wp_seq (f_region Z ?_); clear Z; intro Z
 refine hA Z H [vI 0, vI 0, nS, vU 0] rfl rfl (by kernel_rfl) fun a w1 b1 H Z => ?_
 refine s_runk tI Z 1 rfl rfl fun a Z => ?_
 refine s_end Z [0, 2, 3] rfl fun Z => ?_
 refine p_then (wp_seq ?_)
 obtain ⟨o, hx1, hF⟩ := bnd_in hF
 refine f_region Z fun Z => ?_
 refine s_runk tI Z 1 rfl rfl fun a Z => ?_
 refine hC Z H [] rfl #[] fn_17_YItem rfl rfl (fun D h => have q := c_wire_Open hx1 h; q) fun vv a w2 D2 hr hF2 Z => ?_
 obtain ⟨g1, rfl, I1, K⟩ := hr
 have H := (hF2 K).nf rfl
 refine s_runk tI Z 1 rfl rfl fun a Z => ?_
 refine s_end Z [2, 3, 4] rfl fun Z => ?_
 refine p_then (wp_seq ?_)
 obtain ⟨b, hx2, hF⟩ := bnd_in hF
 refine f_region Z fun Z => ?_
 refine s_runk tI Z 1 rfl rfl fun a Z => ?_
 refine hC Z H [(0, false)] rfl #[] fn_51_YItem rfl rfl (fun D h => have q := c_wire_Reader_Big hx2 h; q) fun vv a w3 D2 hr hF2 Z => ?_
 obtain ⟨rfl, I2, K⟩ := hr
 have H := (hF2 K).nf rfl
 refine s_runk tI Z 1 rfl rfl fun a Z => ?_
 refine s_end Z [2, 3, 4, 5] rfl fun Z => ?_
 refine p_then (wp_seq ?_)
 obtain ⟨t, hx3, hF⟩ := bnd_in hF
 refine f_region Z fun Z => ?_
 refine s_runk tI Z 1 rfl rfl fun a Z => ?_
 refine hC Z H [(0, false)] rfl #[] fn_72_YItem rfl rfl (fun D h => have q := c_wire_Reader_Text hx3 h; q) fun vv a w4 D2 hr hF2 Z => ?_
 obtain ⟨rfl, I3, K⟩ := hr
 have H := (hF2 K).nf rfl
 refine s_runk tI Z 1 rfl rfl fun a Z => ?_
 refine s_end Z [2, 3, 4, 5, 6] rfl fun Z => ?_
 refine p_then (wp_seq ?_)
 refine wp_seq ?_
 obtain ⟨e, hx4, hF⟩ := bnd_in hF
 refine f_region Z fun Z => ?_
 refine s_runk tI Z 1 rfl rfl fun a Z => ?_
 refine hC Z H [(0, false)] rfl #[] fn_22_YItem rfl rfl (fun D h => have q := c_wire_Reader_End hx4 h; q) fun vv a w5 D2 hr hF2 Z => ?_
 obtain ⟨rfl, I4, K⟩ := hr
 have H := (hF2 K).nf rfl
 refine s_runk tI Z 1 rfl rfl fun a Z => ?_
 refine s_end Z [2, 3, 5, 6, 7] rfl fun Z => ?_
 refine p_then (wp_seq (f_region Z ?_)); clear Z; intro Z
 refine s_runk tI Z 2 rfl rfl fun a Z => ?_
 refine s_end Z [2, 3, 5, 6, 7, 19] rfl fun Z => ?_
 refine p_then ?_
 refine f_cond Z rfl (fun hc1 => ?_) (fun hc1 => ?_)
 ·replace hF := ite_t hc1 hF
  refine wp_seq (f_region Z ?_); clear Z; intro Z
  refine sO Z (.agg #[vI 0, vI 0, nS, vU 0]) rfl (Ob_build (vs := []) rfl rfl (by go_simp <;> rfl)) fun a Z => ?_
  refine s_runk tI Z 1 rfl rfl fun a Z => ?_
  refine hT tI Z H 1 rfl rfl rfl rfl rfl (onR 2 rfl (one_cons (slS.one slS.nil) (one_cons rfl one_nil))) (Nat.le_of_ble_eq_true rfl) rfl fun w6 H => ?_
  dsimp only [List.eraseIdx] at H
  refine s_runk tI Z 1 rfl rfl fun a Z => ?_
  refine s_end Z [2, 3, 5, 6] rfl fun Z => ?_
  refine p_then (wp_ret ?_)
  refine p_then_r ?_
  replace H := H.slNil NEOp
  obtain rfl := some_in hF
  exact f_ret Z (run_resultsCT rfl Z rfl (run_loadVar_agg tI rfl (H.bx 1 rfl).at) rfl) ⟨nS, rfl, I4, (H.sub [(0, true)] rfl).eq rfl⟩
 ·replace hF := ite_f hc1 hF
  refine wp_skip ?_
  refine p_then (wp_seq ?_)
  obtain ⟨o_2, hx5, hF⟩ := bnd_in hF
  refine f_region Z fun Z => ?_
  refine s_runk tI Z 1 rfl rfl fun a Z => ?_
  refine hC Z H [] rfl #[] fn_49_YItem rfl rfl (fun D h => have q := c_ops_Of hx5 h; q) fun vv a w7 D2 hr hF2 Z => ?_
  obtain ⟨q1, rfl, I5, K⟩ := hr
  have H := (hF2 K).nf rfl
  refine s_runk tI Z 3 rfl rfl fun a Z => ?_
  refine hA Z H [vI 0, vI 0, nS] rfl rfl (by kernel_rfl) fun a w8 b2 H Z => ?_
  refine hT tI Z H 0 rfl rfl rfl rfl rfl (onR 2 rfl (one_cons (slS.one (H.slshape 1 rfl)) one_nil)) (Nat.le_of_ble_eq_true rfl) rfl fun w9 H => ?_
  dsimp only [List.eraseIdx] at H
  refine s_runk tI Z 1 rfl rfl fun a Z => ?_
  refine s_end Z [2, 3, 5, 8, 9] rfl fun Z => ?_
  refine p_then (wp_seq ?_)
  refine wp_seq (f_region Z ?_); clear Z; intro Z
  refine s_runk tI Z 2 rfl rfl fun a Z => ?_
  refine s_end Z [2, 3, 5, 8, 9, 28] rfl fun Z => ?_
  refine p_then ?_
  refine f_cond Z rfl (fun hc2 => ?_) (fun hc2 => ?_)
  ·replace hF := ite_t hc2 hF
   refine wp_seq (f_region Z ?_); clear Z; intro Z
   refine sO Z (.agg #[vI 0, vI 0, nS, vU 0]) rfl (Ob_build (vs := []) rfl rfl (by go_simp <;> rfl)) fun a Z => ?_
   refine s_runk tI Z 1 rfl rfl fun a Z => ?_
   refine hT tI Z H 3 rfl rfl rfl rfl rfl (onR 2 rfl (one_cons (slS.one slS.nil) (one_cons rfl one_nil))) (Nat.le_of_ble_eq_true rfl) rfl fun w10 H => ?_
   dsimp only [List.eraseIdx] at H
   refine s_runk tI Z 1 rfl rfl fun a Z => ?_
   refine s_end Z [2, 3, 5, 8] rfl fun Z => ?_
   refine p_then (wp_ret ?_)
   refine p_then_r ?_
   replace H := H.slNil NEOp
   obtain rfl := some_in hF
   exact f_ret Z (run_resultsCT rfl Z rfl (run_loadVar_agg tI rfl (H.bx 1 rfl).at) rfl) ⟨nS, rfl, I5, (H.sub [(0, true)] rfl).eq rfl⟩
  ·replace hF := ite_f hc2 hF
   refine wp_skip ?_
   refine p_then (wp_seq (f_region Z ?_)); clear Z; intro Z
   refine sO Z (.agg #[vI o_2.1.client, vI o_2.1.req, q1]) rfl (oA tI rfl rfl ((H.bx 0 rfl).part 0 rfl)) fun a Z => ?_
   refine s_runk tI Z 1 rfl rfl fun a Z => ?_
   refine sO Z (.agg #[vI o_2.1.client, vI o_2.1.req, q1, vU b.1]) rfl (Ob_build (vs := [(0, .agg #[vI o_2.1.client, vI o_2.1.req, q1]), (1, vU b.1)]) rfl rfl (by go_simp <;> rfl)) fun a Z => ?_
   refine hT tI Z H 3 rfl rfl rfl rfl rfl (onR 2 rfl (one_cons (slS.one (H.slshape 1 rfl)) (one_cons rfl one_nil))) (Nat.le_of_ble_eq_true rfl) rfl fun w11 H => ?_
   dsimp only [List.eraseIdx] at H
   refine s_runk tI Z 1 rfl rfl fun a Z => ?_
   refine s_end Z [2, 3] rfl fun Z => ?_
   refine p_then (wp_ret ?_)
   obtain rfl := some_in hF
   exact f_ret Z (run_resultsCT rfl Z rfl (run_loadVar_agg tI rfl (H.bx 0 rfl).at) rfl) ⟨q1, rfl, I5, (H.sub [(2, true)] rfl).eq rfl⟩

def F_ref08_Same (a0 : EEntry) (b : EEntry) : Option Bool := (gif (a0.ts == b.ts) (F_ref06_Same a0.batch b.batch) default).bind fun s0 => (some ((a0.ts == b.ts) && s0))

set_option maxHeartbeats 1000000 in
theorem c_ref08_Same {I D : Dm} {a0 : EEntry} {v1_a0 : Value} {b : EEntry} {v2_b : Value} {w : World} {rr : Bool} (hF : F_ref08_Same a0 b = some rr) (H : St I D w [SlC NEOp v1_a0 a0.batch.ops, SlC NEOp v2_b b.batch.ops]) :
  Calls Try.prog 56 #[.agg (cEEntry a0 v1_a0).toArray, .agg (cEEntry b v2_b).toArray] w (Ret fun vv w' => vv = vT rr ∧ ∃ I', Hf I D w I' w' []) := by
 replace H := H.hf
 unfold F_ref08_Same at hF
 refine f_enter 17 Try.func56 rfl rfl (Nat.le_of_ble_eq_true rfl) fun a Z => ?_
 replace Z := Z.sub (ts := [0, 1]) rfl
 refine wp_seq (f_region Z ?_); clear Z; intro Z
 refine h_boxv Z H (cl := (cEEntry a0 v1_a0)) rfl rfl rfl (by decide) rfl rfl rfl fun a w1 b1 H Z => ?_
 refine h_boxv Z H (cl := (cEEntry b v2_b)) rfl rfl rfl (by decide) rfl rfl rfl fun a w2 b2 H Z => ?_
 refine s_runk tI Z 1 rfl rfl fun a Z => ?_
 refine s_end Z [2, 3, 4] rfl fun Z => ?_
 refine p_then (wp_seq ?_)
 obtain ⟨s0, hx1, hF⟩ := bnd_in hF
 refine f_region Z fun Z => ?_
 refine s_runk tI Z 1 rfl rfl fun a Z => ?_
 refine sO Z _ rfl (oL tI rfl rfl (H.bc 1 3 rfl rfl)) fun a Z => ?_
 refine s_runk tI Z 1 rfl rfl fun a Z => ?_
 refine sO Z _ rfl (oL tI rfl rfl (H.bc 0 3 rfl rfl)) fun a Z => ?_
 refine s_runk tI Z 2 rfl rfl fun a Z => ?_
 refine gO Z (pp b1 0) rfl (wantB_t _) (.n 2 rfl .z) (fun hp => Ob_c tI rfl) fun a Z => ?_
 refine gO Z (.agg #[vI a0.batch.client, vI a0.batch.req, v1_a0]) rfl (wantB_t _) (.c 11 rfl id .z) (fun hp => oA tI rfl rfl ((H.bx 1 rfl).part 0 rfl)) fun a Z => ?_
 refine gO Z (pp b2 0) rfl (wantB_t _) (.n 3 rfl .z) (fun hp => Ob_c tI rfl) fun a Z => ?_
 refine gO Z (.agg #[vI b.batch.client, vI b.batch.req, v2_b]) rfl (wantB_t _) (.c 13 rfl id .z) (fun hp => oA tI rfl rfl ((H.bx 0 rfl).part 0 rfl)) fun a Z => ?_
 refine g_call Z (p := (a0.ts == b.ts)) (v := vT s0) (S' := [(12, .agg #[vI a0.batch.client, vI a0.batch.req, v1_a0]), (14, .agg #[vI b.batch.client, vI b.batch.req, v2_b])]) (caps := #[]) fn_25_YItem rfl rfl rfl (wantB_t _) rfl (by decide) (fun hp hS => ((hS.conv (t := 12) rfl (cond_t hp)).conv (t := 14) rfl (cond_t hp)).sub (ts := [12, 14]) rfl) rfl rfl rfl rfl (fun hp => (have hq := c_ref06_Same (gif_in hx1 hp) ((H).pick0 (js := [(2, true), (3, true)]) rfl rfl); plainC hq)) fun a w3 hb Z => ?_
 replace H := H.blw hb
 clear hb
 refine sO Z (vT ((a0.ts == b.ts) && s0)) rfl (Ob_pick rfl rfl rfl rfl (pick_and _ _)) fun a Z => ?_
 refine s_runk tI Z 1 rfl rfl fun a Z => ?_
 refine s_end Z [4] rfl fun Z => ?_
 refine p_then (wp_ret ?_)
 obtain rfl := some_in hF
 exact f_ret Z (run_results1 rfl Z rfl) ⟨rfl, I, (H.sub [] rfl).eq rfl⟩

end Go.Proofs.Ythmjkcdpbbcdgaa
