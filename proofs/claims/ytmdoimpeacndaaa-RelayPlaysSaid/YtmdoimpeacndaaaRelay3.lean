/- The walk of Ack's closure: timestamps into a message. -/
import Derived.Test.YtmdoimpeacndaaaRelay2
import Derived.Test.YtmdoimpeacndaaaH4
namespace Go.Proofs.Ytmdoimpeacndaaa
open Go.RowKit

def TB_Relay3L : TabL := ⟨[(37890, 2), (37893, 5), (37895, 7), (37896, 8), (37897, 9), (37903, 19), (37904, 20), (58369, 3)], [], [], [(22, (57, 4)), (34, (24, 1)), (97, (66, 1))], [(3, (1, false)), (22, (1, false)), (24, (1, false)), (34, (1, false)), (37, (22, true)), (57, (4, true)), (66, (1, false))]⟩

def TB_Relay3 : Tab Try.prog := ⟨TB_Relay3L, by kernel_rfl⟩

theorem fn_29_Relay3 : IsFn Try.prog 29 := ⟨_, Try.func29, by kernel_rfl, by kernel_rfl⟩

theorem fn_30_Relay3 : IsFn Try.prog 30 := ⟨_, Try.func30, by kernel_rfl, by kernel_rfl⟩

theorem fn_31_Relay3 : IsFn Try.prog 31 := ⟨_, Try.func31, by kernel_rfl, by kernel_rfl⟩

theorem fn_32_Relay3 : IsFn Try.prog 32 := ⟨_, Try.func32, by kernel_rfl, by kernel_rfl⟩

theorem fn_33_Relay3 : IsFn Try.prog 33 := ⟨_, Try.func33, by kernel_rfl, by kernel_rfl⟩

theorem fn_34_Relay3 : IsFn Try.prog 34 := ⟨_, Try.func34, by kernel_rfl, by kernel_rfl⟩

theorem fn_35_Relay3 : IsFn Try.prog 35 := ⟨_, Try.func35, by kernel_rfl, by kernel_rfl⟩

theorem fn_36_Relay3 : IsFn Try.prog 36 := ⟨_, Try.func36, by kernel_rfl, by kernel_rfl⟩

theorem fn_54_Relay3 : IsFn Try.prog 54 := ⟨_, Try.func54, by kernel_rfl, by kernel_rfl⟩

theorem E_34_Relay3 : Elem Try.prog 34 24 1 8 := ⟨Try.underlying34, by
  have h : (Try.prog.info? 24).map (fun i => (i.zero, i.size, i.bytes)) = some (some (.int .u64 0), 1, 8) := by kernel_rfl
  obtain ⟨i, h1, h2, h3, h4⟩ := info_parts h
  exact ⟨i, _, h1, h2, h3, h4, rfl⟩, by decide⟩

theorem sub_getD {α : Type} [Inhabited α] (l : List α) (i j k : Nat) (h : i + k < j) (hj : j ≤ l.length) : ((l.take j).drop i).getD k default = l.getD (i + k) default := by
  rw [getD_get _ _ _ (by simp; omega), getD_get _ _ _ (by omega)]; simp

set_option maxHeartbeats 4000000 in
theorem c_Ack1 {I D : Dm} (b_x : Nat) (x : DMsg) (v0_x : Value) (v1_x : Value) (v2_x : Value) (v3_x : Value) (v4_x : Value) (b_l : Nat) (v_l : Value) (l : List DEntry) (b_f : Nat) (f : Int) (b_g : Nat) (g : Int) (w : World) (h_x : okDMsg x) (h_f : i64ok f) (h_g : i64ok g) (H : St I D w [BxC b_x 37 [.int .i64 x.k, .int .i64 x.epoch, .int .i64 x.req, .int .i64 x.serial, .bool x.flag, .int .u64 (x.at_ : Int), .int .u64 (x.last : Int), .int .i64 x.n, .int .i64 x.m, .int .i64 x.p, .int .i64 x.e, .string x.key, .string x.to_, .int .i64 x.conf.epoch, v0_x, .int .u64 (x.conf.floor : Int), .int .i64 x.batch.client, .int .i64 x.batch.req, v1_x, v2_x, v3_x, v4_x], OwC RU 24 (v3_x) x.stamps, BxC b_l 22 [v_l], SlC RDEntry (v_l) l, BxC b_f 3 [.int .i64 f], BxC b_g 3 [.int .i64 g]]) (hf : 0 ≤ f ∧ f ≤ g ∧ g ≤ l.length) (hll : g ≤ 1000000) (hxs : x.stamps = []) :
    Calls Try.prog 36 #[.pointer (some ⟨b_x, 0, none⟩), .pointer (some ⟨b_l, 0, none⟩), .pointer (some ⟨b_f, 0, none⟩), .pointer (some ⟨b_g, 0, none⟩)] w (Ret fun r w' => ∃ z0 : Value, r = .tuple #[] ∧ ∃ I', Hf I D w I' w' [BxC b_x 37 (cDMsg ({x with stamps := stampsL l f.toNat (min g (f + 8)).toNat} : DMsg) v0_x v1_x v2_x z0 v4_x), OwC RU 24 (z0) (({x with stamps := stampsL l f.toNat (min g (f + 8)).toNat} : DMsg).stamps), BxC b_l 22 [v_l], BxC b_f 3 [.int .i64 f], BxC b_g 3 [.int .i64 g]]) := by
  replace H := H.hf
  obtain ⟨ao_v3_x, cap_v3_x, rfl, hc_v3_x, hm_v3_x⟩ := H.owshape 1 rfl
  unfold maxLen at hm_v3_x
  obtain ⟨ao_v_l, cap_v_l, rfl, hc_v_l, hm_v_l⟩ := H.slshape 3 rfl
  unfold maxLen at hm_v_l
  unfold i64ok at h_f
  unfold i64ok at h_g
  refine f_enter 34 Try.func36 rfl rfl (Nat.le_of_ble_eq_true rfl) fun a hok => ?_
  replace hok := hok.sub (ts := [0, 1, 2, 3]) rfl
  refine wp_seq ?_
  refine f_region hok ?_; clear hok; intro hok
  refine s_ob hok (v := .slice ao_v_l l.length cap_v_l) rfl rfl (by decide) rfl (Ob_load TB_Relay3 rfl rfl rfl ((H.bx 2 rfl).cell 0 rfl)) ?_; clear hok a; intro a hok
  refine s_ob hok (v := .int .i64 f) rfl rfl (by decide) rfl (Ob_load TB_Relay3 rfl rfl rfl ((H.bx 4 rfl).cell 0 rfl)) ?_; clear hok a; intro a hok
  refine s_ob hok (v := .int .i64 g) rfl rfl (by decide) rfl (Ob_load TB_Relay3 rfl rfl rfl ((H.bx 5 rfl).cell 0 rfl)) ?_; clear hok a; intro a hok
  refine s_ob hok (v := .int .i64 f) rfl rfl (by decide) rfl (Ob_load TB_Relay3 rfl rfl rfl ((H.bx 4 rfl).cell 0 rfl)) ?_; clear hok a; intro a hok
  refine s_ob hok (v := .int .i64 (f + 8)) rfl rfl (by decide) rfl (Ob_add rfl rfl rfl (IntWalk.i64_in _ (by omega))) ?_; clear hok a; intro a hok
  refine s_runk TB_Relay3 hok 1 rfl rfl ?_; clear hok a; intro a hok
  have hs1 : f.toNat ≤ (min g (f + 8)).toNat ∧ (min g (f + 8)).toNat ≤ l.length := by constructor <;> omega
  replace H := H.addsl ((H.sl 3 rfl).sub 4 f.toNat ((min g (f + 8)).toNat) rfl hs1.1 (by have := hs1.2; simpa using this))
  refine s_ob hok (v := .slice (subA ao_v_l cap_v_l f.toNat 4) (((min g (f + 8)).toNat) - f.toNat) (cap_v_l - f.toNat)) rfl rfl (by decide) rfl (Ob_sl_of TB_Relay3 (f.toNat) ((min g (f + 8)).toNat) rfl rfl rfl rfl rfl (by omega) (by omega) hs1.1 (Nat.le_trans hs1.2 hc_v_l)) ?_; clear hok a; intro a hok
  refine s_runk TB_Relay3 hok 2 rfl rfl ?_; clear hok a; intro a hok
  refine s_end hok [0, 1, 2, 3, 13, 14, 15] rfl ?_; clear hok; intro hok
  refine p_then ?_
  refine wp_block ?_
  refine f_loop (σ := Nat × List Nat) (fun ⟨k, es⟩ a w' => ∃ ao_cx_20 cap_cx_20, Sl 34 [(0, .pointer (some ⟨b_x, 0, none⟩)), (1, .pointer (some ⟨b_l, 0, none⟩)), (2, .pointer (some ⟨b_f, 0, none⟩)), (3, .pointer (some ⟨b_g, 0, none⟩)), (13, .slice (subA ao_v_l cap_v_l f.toNat 4) (((min g (f + 8)).toNat) - f.toNat) (cap_v_l - f.toNat)), (14, .int .i64 ((((min g (f + 8)).toNat) - f.toNat : Nat) : Int)), (15, .int .i64 (k : Int))] a ∧ (k ≤ (min g (f + 8)).toNat - f.toNat ∧ es.length ≤ k) ∧ (stampsL l f.toNat (min g (f + 8)).toNat = es ++ stampsL l (f.toNat + k) (min g (f + 8)).toNat) ∧ (es.length ≤ cap_cx_20 ∧ cap_cx_20 ≤ maxLen) ∧ ∃ I2, Hf I D w I2 w' [SlC RDEntry (.slice (subA ao_v_l cap_v_l f.toNat 4) (((min g (f + 8)).toNat) - f.toNat) (cap_v_l - f.toNat)) ((l.take ((min g (f + 8)).toNat)).drop f.toNat), BxC b_x 37 [.int .i64 x.k, .int .i64 x.epoch, .int .i64 x.req, .int .i64 x.serial, .bool x.flag, .int .u64 (x.at_ : Int), .int .u64 (x.last : Int), .int .i64 x.n, .int .i64 x.m, .int .i64 x.p, .int .i64 x.e, .string x.key, .string x.to_, .int .i64 x.conf.epoch, v0_x, .int .u64 (x.conf.floor : Int), .int .i64 x.batch.client, .int .i64 x.batch.req, v1_x, v2_x, .slice ao_cx_20 es.length cap_cx_20, v4_x], OwC RU 24 (.slice ao_cx_20 es.length cap_cx_20) es, BxC b_l 22 [.slice ao_v_l l.length cap_v_l], SlC RDEntry (.slice ao_v_l l.length cap_v_l) l, BxC b_f 3 [.int .i64 f], BxC b_g 3 [.int .i64 g]]) (fun ⟨k, es⟩ => (min g (f + 8)).toNat - f.toNat - k) (0, x.stamps) ⟨_, _, hok.sub (ts := [0, 1, 2, 3, 13, 14, 15]) rfl, by rw [hxs]; exact ⟨Nat.zero_le _, Nat.le_refl _⟩, by rw [hxs]; rfl, ⟨hc_v3_x, hm_v3_x⟩, I, H⟩ ?_
  clear hok H
  rintro ⟨k, es⟩ a w1 ⟨ao_cx_20, cap_cx_20, hok, hinv0_0, hinv0_1, ⟨hc_ocx_20, hm_ocx_20⟩, I1, H⟩
  unfold maxLen at hm_ocx_20
  refine wp_seq ?_
  refine f_region hok ?_; clear hok; intro hok
  refine s_runk TB_Relay3 hok 1 rfl rfl ?_; clear hok a; intro a hok
  refine s_end hok [0, 1, 2, 3, 13, 14, 15, 16] rfl ?_; clear hok; intro hok
  refine p_then ?_
  refine wp_seq ?_
  refine f_cond hok rfl (fun hc1 => ?_) (fun hc1 => ?_)
  · replace hc1 := of_decide_eq_true hc1
    refine wp_skip ?_
    refine p_then ?_
    refine wp_seq ?_
    refine wp_block ?_
    refine wp_seq ?_
    refine f_region hok ?_; clear hok; intro hok
    have hi1 : k < ((min g (f + 8)).toNat) - f.toNat := by omega
    have he1 := elt (H.sl 0 rfl) (k) (slRep.lt (H.sl 0 rfl) hi1)
    refine s_ob hok (v := .pointer (some ⟨bOf (subA ao_v_l cap_v_l f.toNat 4), oOf (subA ao_v_l cap_v_l f.toNat 4) + k * 4, none⟩)) rfl rfl (by decide) rfl (Ob_idx TB_Relay3 (k) rfl rfl he1.1 rfl rfl rfl hi1) ?_; clear hok a; intro a hok
    obtain ⟨_, _, _, ⟨u1, rfl, L1, hok_e1⟩, hat1⟩ := id he1
    obtain ⟨ao_u1, cap_u1, rfl, hc_u1, hm_u1⟩ := L1.shape
    unfold maxLen at hm_u1
    replace H := H.addsl L1
    refine s_ob hok (v := .agg #[.int .i64 ((((l.take ((min g (f + 8)).toNat)).drop f.toNat).getD k default).batch.client), .int .i64 ((((l.take ((min g (f + 8)).toNat)).drop f.toNat).getD k default).batch.req), .slice ao_u1 ((((l.take ((min g (f + 8)).toNat)).drop f.toNat).getD k default).batch.ops.length) cap_u1, .int .u64 ((((l.take ((min g (f + 8)).toNat)).drop f.toNat).getD k default).ts : Int)]) rfl rfl (by decide) rfl (Ob_loads TB_Relay3 rfl rfl rfl hat1) ?_; clear hok a; intro a hok
    refine h_alloc hok H (cl := [.int .i64 0, .int .i64 0, .slice none 0 0, .int .u64 0]) (z := .agg #[.int .i64 0, .int .i64 0, .slice none 0 0, .int .u64 0]) rfl rfl rfl (by decide) rfl (by kernel_rfl) rfl ?_; clear hok a H; intro a w2 b1 H hok
    clear he1 hat1
    refine h_store TB_Relay3 hok H 0 (us := [.int .i64 ((((l.take ((min g (f + 8)).toNat)).drop f.toNat).getD k default).batch.client), .int .i64 ((((l.take ((min g (f + 8)).toNat)).drop f.toNat).getD k default).batch.req), .slice ao_u1 ((((l.take ((min g (f + 8)).toNat)).drop f.toNat).getD k default).batch.ops.length) cap_u1, .int .u64 ((((l.take ((min g (f + 8)).toNat)).drop f.toNat).getD k default).ts : Int)]) (cl' := [.int .i64 ((((l.take ((min g (f + 8)).toNat)).drop f.toNat).getD k default).batch.client), .int .i64 ((((l.take ((min g (f + 8)).toNat)).drop f.toNat).getD k default).batch.req), .slice ao_u1 ((((l.take ((min g (f + 8)).toNat)).drop f.toNat).getD k default).batch.ops.length) cap_u1, .int .u64 ((((l.take ((min g (f + 8)).toNat)).drop f.toNat).getD k default).ts : Int)]) rfl rfl rfl rfl rfl rfl rfl rfl rfl (by simp only [List.mem_cons, List.not_mem_nil, or_false]; rintro u (rfl | rfl | rfl | rfl) <;> rfl) (Nat.le_of_ble_eq_true rfl) rfl ?_; clear H; intro w3 H
    dsimp only [List.eraseIdx] at H
    refine s_end hok [0, 1, 2, 3, 13, 14, 15, 16, 6] rfl ?_; clear hok; intro hok
    refine p_then ?_
    refine wp_seq ?_
    refine wp_seq ?_
    refine f_region hok ?_; clear hok; intro hok
    refine s_runk TB_Relay3 hok 1 rfl rfl ?_; clear hok a; intro a hok
    refine s_ob hok (v := .int .u64 ((((l.take ((min g (f + 8)).toNat)).drop f.toNat).getD k default).ts : Int)) rfl rfl (by decide) rfl (Ob_load TB_Relay3 rfl rfl rfl ((H.bx 0 rfl).cell 3 rfl)) ?_; clear hok a; intro a hok
    refine s_runk TB_Relay3 hok 1 rfl rfl ?_; clear hok a; intro a hok
    refine s_end hok [0, 1, 2, 3, 13, 14, 15, 16, 6, 21] rfl ?_; clear hok; intro hok
    refine p_then ?_
    refine f_cond hok rfl (fun hc2 => ?_) (fun hc2 => ?_)
    · replace hc2 := eq_of_beq hc2
      refine wp_ret ?_
      refine p_then_r ?_
      refine p_blk_r ?_
      refine p_then_r ?_
      refine p_then_r ?_
      refine p_blk_r ?_
      refine f_ret hok (run_results0 rfl) ?_
      refine ⟨.slice ao_cx_20 es.length cap_cx_20, ?_, I1, (H.sub [(3, false), (3, false), (3, false), (4, false), (4, false)] rfl).eq ?_⟩
      · clear hok H
        rfl
      · clear hok H
        have e : stampsL l f.toNat (min g (f + 8)).toNat = es := (by rw [hinv0_1, stampsL_stop _ _ _ (by rw [← sub_getD _ _ (min g (f + 8)).toNat _ (by omega) (by omega)]; omega), List.append_nil]); rw [e]; rfl
    · replace hc2 := ne_of_beq_false hc2
      refine wp_skip ?_
      refine p_then ?_
      refine f_regionL hok (by kernel_rfl) (by kernel_rfl) (by decide) (by decide) [7, 8, 11] [(0, 0, 2), (0, 0, 1), (2, 0, 1), (6, 0, 1), (14, 0, 1), (0, 0, 0), (32, 0, 0), (96, 0, 0), (254, 1, 1), (511, 2, 2), (1023, 2, 2), (2047, 2, 2)] (by kernel_rfl) (fun jj vv => match jj with | 0 => vv = .pointer (some ⟨b_x, 0, none⟩) | 1 => vv = .pointer (some ⟨b_x, 0, none⟩) | 2 => vv = .pointer (some ⟨b_x, 0, none⟩) | 3 => vv = .pointer (some ⟨b_x, 20, none⟩) | 4 => vv = .slice ao_cx_20 es.length cap_cx_20 | 5 => vv = .pointer (some ⟨b1, 3, none⟩) | 6 => vv = .int .u64 ((((l.take ((min g (f + 8)).toNat)).drop f.toNat).getD k default).ts : Int) | 7 => vv = .slice (some ⟨blkOf vv, 0, none⟩) 1 1 | 8 => vv = .slice (aoOf vv) ((es ++ [(((l.take ((min g (f + 8)).toNat)).drop f.toNat).getD k default).ts]).length) (capOf vv) ∧ (es ++ [(((l.take ((min g (f + 8)).toNat)).drop f.toNat).getD k default).ts]).length ≤ capOf vv ∧ capOf vv ≤ maxLen | 9 => vv = .pointer (some ⟨b_x, 0, none⟩) | 10 => vv = .pointer (some ⟨b_x, 20, none⟩) | 11 => True | _ => True) (fun ss vals1 xw => match ss with | 0 => Gx I D w I1 w3 xw [BxC b1 57 [.int .i64 ((((l.take ((min g (f + 8)).toNat)).drop f.toNat).getD k default).batch.client), .int .i64 ((((l.take ((min g (f + 8)).toNat)).drop f.toNat).getD k default).batch.req), .slice ao_u1 ((((l.take ((min g (f + 8)).toNat)).drop f.toNat).getD k default).batch.ops.length) cap_u1, .int .u64 ((((l.take ((min g (f + 8)).toNat)).drop f.toNat).getD k default).ts : Int)], SlC RDOp (.slice ao_u1 ((((l.take ((min g (f + 8)).toNat)).drop f.toNat).getD k default).batch.ops.length) cap_u1) ((((l.take ((min g (f + 8)).toNat)).drop f.toNat).getD k default).batch.ops), SlC RDEntry (.slice (subA ao_v_l cap_v_l f.toNat 4) (((min g (f + 8)).toNat) - f.toNat) (cap_v_l - f.toNat)) ((l.take ((min g (f + 8)).toNat)).drop f.toNat), BxC b_x 37 [.int .i64 x.k, .int .i64 x.epoch, .int .i64 x.req, .int .i64 x.serial, .bool x.flag, .int .u64 (x.at_ : Int), .int .u64 (x.last : Int), .int .i64 x.n, .int .i64 x.m, .int .i64 x.p, .int .i64 x.e, .string x.key, .string x.to_, .int .i64 x.conf.epoch, v0_x, .int .u64 (x.conf.floor : Int), .int .i64 x.batch.client, .int .i64 x.batch.req, v1_x, v2_x, .slice ao_cx_20 es.length cap_cx_20, v4_x], OwC RU 24 (.slice ao_cx_20 es.length cap_cx_20) es, BxC b_l 22 [.slice ao_v_l l.length cap_v_l], SlC RDEntry (.slice ao_v_l l.length cap_v_l) l, BxC b_f 3 [.int .i64 f], BxC b_g 3 [.int .i64 g]] | 1 => Gx I D w I1 w3 xw [BxC (blkOf (vals1 7)) 24 [.int .u64 ((((l.take ((min g (f + 8)).toNat)).drop f.toNat).getD k default).ts : Int)], BxC b1 57 [.int .i64 ((((l.take ((min g (f + 8)).toNat)).drop f.toNat).getD k default).batch.client), .int .i64 ((((l.take ((min g (f + 8)).toNat)).drop f.toNat).getD k default).batch.req), .slice ao_u1 ((((l.take ((min g (f + 8)).toNat)).drop f.toNat).getD k default).batch.ops.length) cap_u1, .int .u64 ((((l.take ((min g (f + 8)).toNat)).drop f.toNat).getD k default).ts : Int)], SlC RDOp (.slice ao_u1 ((((l.take ((min g (f + 8)).toNat)).drop f.toNat).getD k default).batch.ops.length) cap_u1) ((((l.take ((min g (f + 8)).toNat)).drop f.toNat).getD k default).batch.ops), SlC RDEntry (.slice (subA ao_v_l cap_v_l f.toNat 4) (((min g (f + 8)).toNat) - f.toNat) (cap_v_l - f.toNat)) ((l.take ((min g (f + 8)).toNat)).drop f.toNat), BxC b_x 37 [.int .i64 x.k, .int .i64 x.epoch, .int .i64 x.req, .int .i64 x.serial, .bool x.flag, .int .u64 (x.at_ : Int), .int .u64 (x.last : Int), .int .i64 x.n, .int .i64 x.m, .int .i64 x.p, .int .i64 x.e, .string x.key, .string x.to_, .int .i64 x.conf.epoch, v0_x, .int .u64 (x.conf.floor : Int), .int .i64 x.batch.client, .int .i64 x.batch.req, v1_x, v2_x, .slice ao_cx_20 es.length cap_cx_20, v4_x], OwC RU 24 (.slice ao_cx_20 es.length cap_cx_20) es, BxC b_l 22 [.slice ao_v_l l.length cap_v_l], SlC RDEntry (.slice ao_v_l l.length cap_v_l) l, BxC b_f 3 [.int .i64 f], BxC b_g 3 [.int .i64 g]] | 2 => Gx I D w I1 w3 xw [OwC RU 24 (.slice (aoOf (vals1 8)) ((es ++ [(((l.take ((min g (f + 8)).toNat)).drop f.toNat).getD k default).ts]).length) (capOf (vals1 8))) (es ++ [(((l.take ((min g (f + 8)).toNat)).drop f.toNat).getD k default).ts]), BxC b1 57 [.int .i64 ((((l.take ((min g (f + 8)).toNat)).drop f.toNat).getD k default).batch.client), .int .i64 ((((l.take ((min g (f + 8)).toNat)).drop f.toNat).getD k default).batch.req), .slice ao_u1 ((((l.take ((min g (f + 8)).toNat)).drop f.toNat).getD k default).batch.ops.length) cap_u1, .int .u64 ((((l.take ((min g (f + 8)).toNat)).drop f.toNat).getD k default).ts : Int)], SlC RDOp (.slice ao_u1 ((((l.take ((min g (f + 8)).toNat)).drop f.toNat).getD k default).batch.ops.length) cap_u1) ((((l.take ((min g (f + 8)).toNat)).drop f.toNat).getD k default).batch.ops), SlC RDEntry (.slice (subA ao_v_l cap_v_l f.toNat 4) (((min g (f + 8)).toNat) - f.toNat) (cap_v_l - f.toNat)) ((l.take ((min g (f + 8)).toNat)).drop f.toNat), BxC b_x 37 [.int .i64 x.k, .int .i64 x.epoch, .int .i64 x.req, .int .i64 x.serial, .bool x.flag, .int .u64 (x.at_ : Int), .int .u64 (x.last : Int), .int .i64 x.n, .int .i64 x.m, .int .i64 x.p, .int .i64 x.e, .string x.key, .string x.to_, .int .i64 x.conf.epoch, v0_x, .int .u64 (x.conf.floor : Int), .int .i64 x.batch.client, .int .i64 x.batch.req, v1_x, v2_x, .slice ao_cx_20 es.length cap_cx_20, v4_x], BxC b_l 22 [.slice ao_v_l l.length cap_v_l], SlC RDEntry (.slice ao_v_l l.length cap_v_l) l, BxC b_f 3 [.int .i64 f], BxC b_g 3 [.int .i64 g]] | _ => Gx I D w I1 w3 xw [BxC b_x 37 [.int .i64 x.k, .int .i64 x.epoch, .int .i64 x.req, .int .i64 x.serial, .bool x.flag, .int .u64 (x.at_ : Int), .int .u64 (x.last : Int), .int .i64 x.n, .int .i64 x.m, .int .i64 x.p, .int .i64 x.e, .string x.key, .string x.to_, .int .i64 x.conf.epoch, v0_x, .int .u64 (x.conf.floor : Int), .int .i64 x.batch.client, .int .i64 x.batch.req, v1_x, v2_x, .slice (aoOf (vals1 8)) ((es ++ [(((l.take ((min g (f + 8)).toNat)).drop f.toNat).getD k default).ts]).length) (capOf (vals1 8)), v4_x], OwC RU 24 (.slice (aoOf (vals1 8)) ((es ++ [(((l.take ((min g (f + 8)).toNat)).drop f.toNat).getD k default).ts]).length) (capOf (vals1 8))) (es ++ [(((l.take ((min g (f + 8)).toNat)).drop f.toNat).getD k default).ts]), BxC b1 57 [.int .i64 ((((l.take ((min g (f + 8)).toNat)).drop f.toNat).getD k default).batch.client), .int .i64 ((((l.take ((min g (f + 8)).toNat)).drop f.toNat).getD k default).batch.req), .slice ao_u1 ((((l.take ((min g (f + 8)).toNat)).drop f.toNat).getD k default).batch.ops.length) cap_u1, .int .u64 ((((l.take ((min g (f + 8)).toNat)).drop f.toNat).getD k default).ts : Int)], SlC RDOp (.slice ao_u1 ((((l.take ((min g (f + 8)).toNat)).drop f.toNat).getD k default).batch.ops.length) cap_u1) ((((l.take ((min g (f + 8)).toNat)).drop f.toNat).getD k default).batch.ops), SlC RDEntry (.slice (subA ao_v_l cap_v_l f.toNat 4) (((min g (f + 8)).toNat) - f.toNat) (cap_v_l - f.toNat)) ((l.take ((min g (f + 8)).toNat)).drop f.toNat), BxC b_l 22 [.slice ao_v_l l.length cap_v_l], SlC RDEntry (.slice ao_v_l l.length cap_v_l) l, BxC b_f 3 [.int .i64 f], BxC b_g 3 [.int .i64 g]]) (fun _ => Gx.start H) ?_ ?_
      · intro fr hfr hfe
        refine .cons (fun ss hlo hhi vals1 xw hG hF => ?_) ?_
        · obtain rfl | rfl | rfl : ss = 0 ∨ ss = 1 ∨ ss = 2 := st2 hlo hhi
          · rw [← hfe]
            have hS := (hfr vals1).sub (ts := [0]) (S' := [(0, .pointer (some ⟨b_x, 0, none⟩))]) rfl
            exact L_val hS rfl (Ob_c TB_Relay3 rfl) ⟨rfl, hG⟩
          · rw [← hfe]
            have hS := (hfr vals1).sub (ts := [0]) (S' := [(0, .pointer (some ⟨b_x, 0, none⟩))]) rfl
            exact L_val hS rfl (Ob_c TB_Relay3 rfl) ⟨rfl, hG⟩
          · rw [← hfe]
            have hS := (hfr vals1).sub (ts := [0]) (S' := [(0, .pointer (some ⟨b_x, 0, none⟩))]) rfl
            exact L_val hS rfl (Ob_c TB_Relay3 rfl) ⟨rfl, hG⟩
        refine .cons (fun ss hlo hhi vals1 xw hG hF => ?_) ?_
        · obtain rfl | rfl : ss = 0 ∨ ss = 1 := st1 hlo hhi
          · rw [← hfe]
            have hS := (hfr vals1).sub (ts := [0]) (S' := [(0, .pointer (some ⟨b_x, 0, none⟩))]) rfl
            exact L_val hS rfl (Ob_c TB_Relay3 rfl) ⟨rfl, hG⟩
          · rw [← hfe]
            have hS := (hfr vals1).sub (ts := [0]) (S' := [(0, .pointer (some ⟨b_x, 0, none⟩))]) rfl
            exact L_val hS rfl (Ob_c TB_Relay3 rfl) ⟨rfl, hG⟩
        refine .cons (fun ss hlo hhi vals1 xw hG hF => ?_) ?_
        · obtain rfl | rfl : ss = 0 ∨ ss = 1 := st1 hlo hhi
          · rw [← hfe]
            have hS := (hfr vals1).sub (ts := [23]) (S' := [(23, vals1 1)]) rfl
            have hf1 : vals1 1 = .pointer (some ⟨b_x, 0, none⟩) := hF 1 (by decide)
            replace hS := hS.conv (t := 23) rfl hf1
            exact L_val hS rfl (Ob_c TB_Relay3 rfl) ⟨rfl, hG⟩
          · rw [← hfe]
            have hS := (hfr vals1).sub (ts := [23]) (S' := [(23, vals1 1)]) rfl
            have hf1 : vals1 1 = .pointer (some ⟨b_x, 0, none⟩) := hF 1 (by decide)
            replace hS := hS.conv (t := 23) rfl hf1
            exact L_val hS rfl (Ob_c TB_Relay3 rfl) ⟨rfl, hG⟩
        refine .cons (fun ss hlo hhi vals1 xw hG hF => ?_) ?_
        · obtain rfl | rfl : ss = 0 ∨ ss = 1 := st1 hlo hhi
          · rw [← hfe]
            have hS := (hfr vals1).sub (ts := [24]) (S' := [(24, vals1 2)]) rfl
            have hf2 : vals1 2 = .pointer (some ⟨b_x, 0, none⟩) := hF 2 (by decide)
            replace hS := hS.conv (t := 24) rfl hf2
            exact L_val hS rfl (Ob_c TB_Relay3 rfl) ⟨rfl, hG⟩
          · rw [← hfe]
            have hS := (hfr vals1).sub (ts := [24]) (S' := [(24, vals1 2)]) rfl
            have hf2 : vals1 2 = .pointer (some ⟨b_x, 0, none⟩) := hF 2 (by decide)
            replace hS := hS.conv (t := 24) rfl hf2
            exact L_val hS rfl (Ob_c TB_Relay3 rfl) ⟨rfl, hG⟩
        refine .cons (fun ss hlo hhi vals1 xw hG hF => ?_) ?_
        · obtain rfl | rfl : ss = 0 ∨ ss = 1 := st1 hlo hhi
          · rw [← hfe]
            have hS := (hfr vals1).sub (ts := [25]) (S' := [(25, vals1 3)]) rfl
            have hf3 : vals1 3 = .pointer (some ⟨b_x, 20, none⟩) := hF 3 (by decide)
            replace hS := hS.conv (t := 25) rfl hf3
            obtain ⟨I2, hI2, H⟩ := Gx.ex hG
            exact L_val hS rfl (Ob_load TB_Relay3 rfl rfl rfl ((H.bx 3 rfl).cell 20 rfl)) ⟨rfl, hG⟩
          · rw [← hfe]
            have hS := (hfr vals1).sub (ts := [25]) (S' := [(25, vals1 3)]) rfl
            have hf3 : vals1 3 = .pointer (some ⟨b_x, 20, none⟩) := hF 3 (by decide)
            replace hS := hS.conv (t := 25) rfl hf3
            obtain ⟨I2, hI2, H⟩ := Gx.ex hG
            exact L_val hS rfl (Ob_load TB_Relay3 rfl rfl rfl ((H.bx 4 rfl).cell 20 rfl)) ⟨rfl, hG⟩
        refine .cons (fun ss hlo hhi vals1 xw hG hF => ?_) ?_
        · obtain rfl : ss = 0 := Nat.le_antisymm hhi hlo
          rw [← hfe]
          have hS := (hfr vals1).sub (ts := [6]) (S' := [(6, .pointer (some ⟨b1, 0, none⟩))]) rfl
          exact L_val hS rfl (Ob_c TB_Relay3 rfl) ⟨rfl, hG⟩
        refine .cons (fun ss hlo hhi vals1 xw hG hF => ?_) ?_
        · obtain rfl : ss = 0 := Nat.le_antisymm hhi hlo
          rw [← hfe]
          have hS := (hfr vals1).sub (ts := [27]) (S' := [(27, vals1 5)]) rfl
          have hf5 : vals1 5 = .pointer (some ⟨b1, 3, none⟩) := hF 5 (by decide)
          replace hS := hS.conv (t := 27) rfl hf5
          obtain ⟨I2, hI2, H⟩ := Gx.ex hG
          exact L_val hS rfl (Ob_load TB_Relay3 rfl rfl rfl ((H.bx 0 rfl).cell 3 rfl)) ⟨rfl, hG⟩
        refine .cons (fun ss hlo hhi vals1 xw hG hF => ?_) ?_
        · obtain rfl : ss = 0 := Nat.le_antisymm hhi hlo
          rw [← hfe]
          have hS := (hfr vals1).sub (ts := [28]) (S' := [(28, vals1 6)]) rfl
          have hf6 : vals1 6 = .int .u64 ((((l.take ((min g (f + 8)).toNat)).drop f.toNat).getD k default).ts : Int) := hF 6 (by decide)
          replace hS := hS.conv (t := 28) rfl hf6
          obtain ⟨I2, hI2, H⟩ := Gx.ex hG
          exact L_bslice H (vs := [(0, .int .u64 ((((l.take ((min g (f + 8)).toNat)).drop f.toNat).getD k default).ts : Int))]) (cl := [.int .u64 ((((l.take ((min g (f + 8)).toNat)).drop f.toNat).getD k default).ts : Int)]) (e := 24) hS rfl rfl rfl (fun w => run_bslice (z := .int .u64 0) (m := 1) Try.underlying34 (by kernel_rfl) rfl rfl (by decide) (by simp [Instr.fill, Value.cells]) w) fun yw b hK H => ⟨rfl, Gx.go hG hI2 hK (fun _ h => h) H⟩
        refine .cons (fun ss hlo hhi vals1 xw hG hF => ?_) ?_
        · obtain rfl : ss = 1 := Nat.le_antisymm hhi hlo
          rw [← hfe]
          have hS := (hfr vals1).sub (ts := [26, 29]) (S' := [(26, vals1 4), (29, vals1 7)]) rfl
          have hf4 : vals1 4 = .slice ao_cx_20 es.length cap_cx_20 := hF 4 (by decide)
          replace hS := hS.conv (t := 26) rfl hf4
          have hf7 : vals1 7 = .slice (some ⟨blkOf (vals1 7), 0, none⟩) 1 1 := hF 7 (by decide)
          replace hS := hS.conv (t := 29) rfl hf7
          obtain ⟨I2, hI2, H⟩ := Gx.ex hG
          refine L_app H 5 E_34_Relay3 ([(((l.take ((min g (f + 8)).toNat)).drop f.toNat).getD k default).ts]) rfl rfl hS rfl rfl rfl rfl (slRep2.box1 (H.bx 0 rfl) ⟨rfl, hok_e1.2⟩) (by simp only [maxLen, List.length_append, List.length_cons, List.length_nil]; omega) (by simp only [List.length_append, List.length_cons, List.length_nil]; omega) fun ao cap yw hK H hc hm => ⟨⟨rfl, hc, hm⟩, Gx.go hG hI2 hK (fun _ h => h) (H.sub [(0, false), (1, false), (1, true), (2, true), (3, false), (3, false), (3, true), (4, false), (4, false)] rfl)⟩
        refine .cons (fun ss hlo hhi vals1 xw hG hF => ?_) ?_
        · obtain rfl : ss = 2 := Nat.le_antisymm hhi hlo
          rw [← hfe]
          have hS := (hfr vals1).sub (ts := [22]) (S' := [(22, vals1 0)]) rfl
          have hf0 : vals1 0 = .pointer (some ⟨b_x, 0, none⟩) := hF 0 (by decide)
          replace hS := hS.conv (t := 22) rfl hf0
          exact L_val hS rfl (Ob_c TB_Relay3 rfl) ⟨rfl, hG⟩
        refine .cons (fun ss hlo hhi vals1 xw hG hF => ?_) ?_
        · obtain rfl : ss = 2 := Nat.le_antisymm hhi hlo
          rw [← hfe]
          have hS := (hfr vals1).sub (ts := [31]) (S' := [(31, vals1 9)]) rfl
          have hf9 : vals1 9 = .pointer (some ⟨b_x, 0, none⟩) := hF 9 (by decide)
          replace hS := hS.conv (t := 31) rfl hf9
          exact L_val hS rfl (Ob_c TB_Relay3 rfl) ⟨rfl, hG⟩
        refine .cons (fun ss hlo hhi vals1 xw hG hF => ?_) ?_
        · obtain rfl : ss = 2 := Nat.le_antisymm hhi hlo
          rw [← hfe]
          have hS := (hfr vals1).sub (ts := [32, 30]) (S' := [(32, vals1 10), (30, vals1 8)]) rfl
          have hf10 : vals1 10 = .pointer (some ⟨b_x, 20, none⟩) := hF 10 (by decide)
          replace hS := hS.conv (t := 32) rfl hf10
          have hf8 : vals1 8 = .slice (aoOf (vals1 8)) ((es ++ [(((l.take ((min g (f + 8)).toNat)).drop f.toNat).getD k default).ts]).length) (capOf (vals1 8)) ∧ (es ++ [(((l.take ((min g (f + 8)).toNat)).drop f.toNat).getD k default).ts]).length ≤ capOf (vals1 8) ∧ capOf (vals1 8) ≤ maxLen := hF 8 (by decide)
          replace hS := hS.conv (t := 30) rfl hf8.1
          obtain ⟨I2, hI2, H⟩ := Gx.ex hG
          exact L_store TB_Relay3 H 4 (us := [.slice (aoOf (vals1 8)) ((es ++ [(((l.take ((min g (f + 8)).toNat)).drop f.toNat).getD k default).ts]).length) (capOf (vals1 8))]) (cl' := [.int .i64 x.k, .int .i64 x.epoch, .int .i64 x.req, .int .i64 x.serial, .bool x.flag, .int .u64 (x.at_ : Int), .int .u64 (x.last : Int), .int .i64 x.n, .int .i64 x.m, .int .i64 x.p, .int .i64 x.e, .string x.key, .string x.to_, .int .i64 x.conf.epoch, v0_x, .int .u64 (x.conf.floor : Int), .int .i64 x.batch.client, .int .i64 x.batch.req, v1_x, v2_x, .slice (aoOf (vals1 8)) ((es ++ [(((l.take ((min g (f + 8)).toNat)).drop f.toNat).getD k default).ts]).length) (capOf (vals1 8)), v4_x]) rfl hS rfl rfl rfl rfl rfl rfl rfl rfl (by simp only [List.mem_cons, List.not_mem_nil, or_false]; rintro u rfl <;> rfl) (Nat.le_of_ble_eq_true rfl) rfl fun yw hK H => ⟨trivial, Gx.go hG hI2 hK (fun _ h => h) H⟩
        exact .nil
      · intro vals1 a w4 hok hG hF
        replace hok := hok.sub (ts := [0, 1, 2, 3, 13, 14, 15, 16, 6, 21]) (S' := [(0, .pointer (some ⟨b_x, 0, none⟩)), (1, .pointer (some ⟨b_l, 0, none⟩)), (2, .pointer (some ⟨b_f, 0, none⟩)), (3, .pointer (some ⟨b_g, 0, none⟩)), (13, .slice (subA ao_v_l cap_v_l f.toNat 4) (((min g (f + 8)).toNat) - f.toNat) (cap_v_l - f.toNat)), (14, .int .i64 ((((min g (f + 8)).toNat) - f.toNat : Nat) : Int)), (15, .int .i64 (k : Int)), (16, .bool (decide ((k : Int) < ((((min g (f + 8)).toNat) - f.toNat : Nat) : Int)))), (6, .pointer (some ⟨b1, 0, none⟩)), (21, .bool (((((l.take ((min g (f + 8)).toNat)).drop f.toNat).getD k default).ts : Int) == 0))]) rfl
        have hv_vals1_7 : vals1 7 = .slice (some ⟨blkOf (vals1 7), 0, none⟩) 1 1 := hF 7 (by decide)
        have hv_vals1_8 : vals1 8 = .slice (aoOf (vals1 8)) ((es ++ [(((l.take ((min g (f + 8)).toNat)).drop f.toNat).getD k default).ts]).length) (capOf (vals1 8)) ∧ (es ++ [(((l.take ((min g (f + 8)).toNat)).drop f.toNat).getD k default).ts]).length ≤ capOf (vals1 8) ∧ capOf (vals1 8) ≤ maxLen := hF 8 (by decide)
        obtain ⟨I2, hI2, H⟩ := Gx.ex hG
        clear hG hF
        replace H : Hf I D w I2 w4 [BxC b_x 37 [.int .i64 x.k, .int .i64 x.epoch, .int .i64 x.req, .int .i64 x.serial, .bool x.flag, .int .u64 (x.at_ : Int), .int .u64 (x.last : Int), .int .i64 x.n, .int .i64 x.m, .int .i64 x.p, .int .i64 x.e, .string x.key, .string x.to_, .int .i64 x.conf.epoch, v0_x, .int .u64 (x.conf.floor : Int), .int .i64 x.batch.client, .int .i64 x.batch.req, v1_x, v2_x, .slice (aoOf (vals1 8)) ((es ++ [(((l.take ((min g (f + 8)).toNat)).drop f.toNat).getD k default).ts]).length) (capOf (vals1 8)), v4_x], OwC RU 24 (.slice (aoOf (vals1 8)) ((es ++ [(((l.take ((min g (f + 8)).toNat)).drop f.toNat).getD k default).ts]).length) (capOf (vals1 8))) (es ++ [(((l.take ((min g (f + 8)).toNat)).drop f.toNat).getD k default).ts]), BxC b1 57 [.int .i64 ((((l.take ((min g (f + 8)).toNat)).drop f.toNat).getD k default).batch.client), .int .i64 ((((l.take ((min g (f + 8)).toNat)).drop f.toNat).getD k default).batch.req), .slice ao_u1 ((((l.take ((min g (f + 8)).toNat)).drop f.toNat).getD k default).batch.ops.length) cap_u1, .int .u64 ((((l.take ((min g (f + 8)).toNat)).drop f.toNat).getD k default).ts : Int)], SlC RDOp (.slice ao_u1 ((((l.take ((min g (f + 8)).toNat)).drop f.toNat).getD k default).batch.ops.length) cap_u1) ((((l.take ((min g (f + 8)).toNat)).drop f.toNat).getD k default).batch.ops), SlC RDEntry (.slice (subA ao_v_l cap_v_l f.toNat 4) (((min g (f + 8)).toNat) - f.toNat) (cap_v_l - f.toNat)) ((l.take ((min g (f + 8)).toNat)).drop f.toNat), BxC b_l 22 [.slice ao_v_l l.length cap_v_l], SlC RDEntry (.slice ao_v_l l.length cap_v_l) l, BxC b_f 3 [.int .i64 f], BxC b_g 3 [.int .i64 g]] := H
        refine p_blk ?_
        refine p_then ?_
        refine f_region hok ?_; clear hok; intro hok
        refine s_ob hok (v := .int .i64 ((k : Int) + 1)) rfl rfl (by decide) rfl (Ob_add rfl rfl rfl (IntWalk.i64_in _ (by omega))) ?_; clear hok a; intro a hok
        refine s_runk TB_Relay3 hok 1 rfl rfl ?_; clear hok a; intro a hok
        refine s_end hok [0, 1, 2, 3, 13, 14, 15, 16, 6, 21] rfl ?_; clear hok; intro hok
        refine p_then ?_
        refine ⟨(k + 1, es ++ [(((l.take (min g (f + 8)).toNat).drop f.toNat).getD k default).ts]), ⟨_, _, hok.sub (ts := [0, 1, 2, 3, 13, 14, 15]) rfl, ?_, ?_, ⟨hv_vals1_8.2.1, hv_vals1_8.2.2⟩, I2, H.sub [(4, true), (0, false), (0, false), (3, false), (3, true), (4, false), (4, false)] rfl⟩, by dsimp only; omega⟩
        · clear hok H
          rw [List.length_append]; show _ ∧ _ + 1 ≤ _; omega
        · clear hok H
          rw [hinv0_1, sub_getD _ _ _ _ (by omega) (by omega), stampsL_step _ _ _ (by omega) (by omega) (by rw [← sub_getD _ _ (min g (f + 8)).toNat _ (by omega) (by omega)]; omega), List.append_assoc]; rfl
  · replace hc1 := of_decide_eq_false hc1
    refine wp_exit ?_
    refine p_then_x ?_
    refine p_then_x ?_
    refine f_exit_here ?_
    refine f_fall hok (run_results0 rfl) ?_
    refine ⟨.slice ao_cx_20 es.length cap_cx_20, ?_, I1, (H.sub [(1, false), (1, false), (1, false), (2, false), (2, false)] rfl).eq ?_⟩
    · clear hok H
      rfl
    · clear hok H
      have e : stampsL l f.toNat (min g (f + 8)).toNat = es := (by rw [hinv0_1, stampsL_stop _ _ _ (by omega), List.append_nil]); rw [e]; rfl

set_option maxHeartbeats 1000000 in
theorem c_counts {I D : Dm} (cn : Int) (cm : Int) (cp : Int) (w : World) (h_cn : i64ok cn) (h_cm : i64ok cm) (h_cp : i64ok cp) (H : St I D w []) :
    Calls Try.prog 34 #[.int .i64 cn, .int .i64 cm, .int .i64 cp] w (Ret fun r w' => ∃ g0 g1 g2 : Nat, r = .func (.func 54) #[] #[.pointer (some ⟨g0, 0, none⟩), .pointer (some ⟨g1, 0, none⟩), .pointer (some ⟨g2, 0, none⟩)] ∧ ∃ I', Hf I D w I' w' [BxC g0 3 [.int .i64 cn], BxC g1 3 [.int .i64 cm], BxC g2 3 [.int .i64 cp]]) := by
  replace H := H.hf
  unfold i64ok at h_cn
  unfold i64ok at h_cm
  unfold i64ok at h_cp
  refine f_enter 8 Try.func34 rfl rfl (Nat.le_of_ble_eq_true rfl) fun a hok => ?_
  replace hok := hok.sub (ts := [0, 1, 2]) rfl
  refine wp_seq ?_
  refine f_region hok ?_; clear hok; intro hok
  refine h_boxv hok H (cl := [.int .i64 cn]) rfl rfl rfl (by decide) rfl rfl rfl ?_; clear hok a H; intro a w1 b1 H hok
  refine h_boxv hok H (cl := [.int .i64 cm]) rfl rfl rfl (by decide) rfl rfl rfl ?_; clear hok a H; intro a w2 b2 H hok
  refine h_boxv hok H (cl := [.int .i64 cp]) rfl rfl rfl (by decide) rfl rfl rfl ?_; clear hok a H; intro a w3 b3 H hok
  refine s_runk TB_Relay3 hok 1 rfl rfl ?_; clear hok a; intro a hok
  refine s_end hok [0, 1, 2, 3, 4, 5, 6] rfl ?_; clear hok; intro hok
  refine p_then ?_
  refine wp_seq ?_
  refine f_region hok ?_; clear hok; intro hok
  refine s_runk TB_Relay3 hok 2 rfl rfl ?_; clear hok a; intro a hok
  refine s_end hok [0, 1, 2, 3, 4, 5, 6] rfl ?_; clear hok; intro hok
  refine p_then ?_
  refine wp_ret ?_
  refine f_ret hok (run_results1 rfl hok rfl) ?_
  refine ⟨b1, b2, b3, ?_, I, (H.sub [(2, false), (1, false), (0, false)] rfl).eq ?_⟩
  · clear hok H
    rfl
  · clear hok H
    rfl

set_option maxHeartbeats 1000000 in
theorem h_counts1 {I D : Dm} (b_x : Nat) (x : DMsg) (v0_x : Value) (v1_x : Value) (v2_x : Value) (v3_x : Value) (v4_x : Value) (b_cn : Nat) (cn : Int) (b_cm : Nat) (cm : Int) (b_cp : Nat) (cp : Int) (w : World) (h_x : okDMsg x) (h_cn : i64ok cn) (h_cm : i64ok cm) (h_cp : i64ok cp) (H : St I D w [BxC b_x 37 [.int .i64 x.k, .int .i64 x.epoch, .int .i64 x.req, .int .i64 x.serial, .bool x.flag, .int .u64 (x.at_ : Int), .int .u64 (x.last : Int), .int .i64 x.n, .int .i64 x.m, .int .i64 x.p, .int .i64 x.e, .string x.key, .string x.to_, .int .i64 x.conf.epoch, v0_x, .int .u64 (x.conf.floor : Int), .int .i64 x.batch.client, .int .i64 x.batch.req, v1_x, v2_x, v3_x, v4_x], BxC b_cn 3 [.int .i64 cn], BxC b_cm 3 [.int .i64 cm], BxC b_cp 3 [.int .i64 cp]]) :
    Calls Try.prog 54 #[.pointer (some ⟨b_x, 0, none⟩), .pointer (some ⟨b_cn, 0, none⟩), .pointer (some ⟨b_cm, 0, none⟩), .pointer (some ⟨b_cp, 0, none⟩)] w (Ret fun r w' => r = .tuple #[] ∧ ∃ I', Hf I D w I' w' [BxC b_x 37 (cDMsg ({x with n := max cn 0, m := max cm 0, p := max cp 0} : DMsg) v0_x v1_x v2_x v3_x v4_x), BxC b_cn 3 [.int .i64 cn], BxC b_cm 3 [.int .i64 cm], BxC b_cp 3 [.int .i64 cp]]) := by
  replace H := H.hf
  unfold i64ok at h_cn
  unfold i64ok at h_cm
  unfold i64ok at h_cp
  refine f_enter 20 Try.func54 rfl rfl (Nat.le_of_ble_eq_true rfl) fun a hok => ?_
  replace hok := hok.sub (ts := [0, 1, 2, 3]) rfl
  refine f_regionL hok (by kernel_rfl) (by kernel_rfl) (by decide) (by decide) [11, 14, 17] [(0, 0, 0), (0, 0, 1), (0, 0, 2), (0, 0, 0), (8, 0, 0), (0, 0, 1), (32, 0, 1), (0, 0, 2), (128, 0, 2), (25, 0, 0), (537, 0, 0), (1561, 0, 0), (3707, 1, 1), (7803, 1, 1), (15995, 1, 1), (32767, 2, 2), (65535, 2, 2), (131071, 2, 2)] (by kernel_rfl) (fun jj vv => cond (Nat.blt jj 9) (cond (Nat.blt jj 4) (cond (Nat.blt jj 2) (cond (Nat.blt jj 1) (vv = .pointer (some ⟨b_x, 0, none⟩)) (vv = .pointer (some ⟨b_x, 0, none⟩))) (cond (Nat.blt jj 3) (vv = .pointer (some ⟨b_x, 0, none⟩)) (vv = .int .i64 cn))) (cond (Nat.blt jj 6) (cond (Nat.blt jj 5) (vv = .int .i64 (max cn 0)) (vv = .int .i64 cm)) (cond (Nat.blt jj 7) (vv = .int .i64 (max cm 0)) (cond (Nat.blt jj 8) (vv = .int .i64 cp) (vv = .int .i64 (max cp 0)))))) (cond (Nat.blt jj 13) (cond (Nat.blt jj 11) (cond (Nat.blt jj 10) (vv = .pointer (some ⟨b_x, 0, none⟩)) (vv = .pointer (some ⟨b_x, 7, none⟩))) (cond (Nat.blt jj 12) (True) (vv = .pointer (some ⟨b_x, 0, none⟩)))) (cond (Nat.blt jj 15) (cond (Nat.blt jj 14) (vv = .pointer (some ⟨b_x, 8, none⟩)) (True)) (cond (Nat.blt jj 16) (vv = .pointer (some ⟨b_x, 0, none⟩)) (cond (Nat.blt jj 17) (vv = .pointer (some ⟨b_x, 9, none⟩)) (True)))))) (fun ss vals1 xw => match ss with | 0 => Gx I D w I w xw [BxC b_x 37 [.int .i64 x.k, .int .i64 x.epoch, .int .i64 x.req, .int .i64 x.serial, .bool x.flag, .int .u64 (x.at_ : Int), .int .u64 (x.last : Int), .int .i64 x.n, .int .i64 x.m, .int .i64 x.p, .int .i64 x.e, .string x.key, .string x.to_, .int .i64 x.conf.epoch, v0_x, .int .u64 (x.conf.floor : Int), .int .i64 x.batch.client, .int .i64 x.batch.req, v1_x, v2_x, v3_x, v4_x], BxC b_cn 3 [.int .i64 cn], BxC b_cm 3 [.int .i64 cm], BxC b_cp 3 [.int .i64 cp]] | 1 => Gx I D w I w xw [BxC b_x 37 [.int .i64 x.k, .int .i64 x.epoch, .int .i64 x.req, .int .i64 x.serial, .bool x.flag, .int .u64 (x.at_ : Int), .int .u64 (x.last : Int), .int .i64 (max cn 0), .int .i64 x.m, .int .i64 x.p, .int .i64 x.e, .string x.key, .string x.to_, .int .i64 x.conf.epoch, v0_x, .int .u64 (x.conf.floor : Int), .int .i64 x.batch.client, .int .i64 x.batch.req, v1_x, v2_x, v3_x, v4_x], BxC b_cn 3 [.int .i64 cn], BxC b_cm 3 [.int .i64 cm], BxC b_cp 3 [.int .i64 cp]] | 2 => Gx I D w I w xw [BxC b_x 37 [.int .i64 x.k, .int .i64 x.epoch, .int .i64 x.req, .int .i64 x.serial, .bool x.flag, .int .u64 (x.at_ : Int), .int .u64 (x.last : Int), .int .i64 (max cn 0), .int .i64 (max cm 0), .int .i64 x.p, .int .i64 x.e, .string x.key, .string x.to_, .int .i64 x.conf.epoch, v0_x, .int .u64 (x.conf.floor : Int), .int .i64 x.batch.client, .int .i64 x.batch.req, v1_x, v2_x, v3_x, v4_x], BxC b_cn 3 [.int .i64 cn], BxC b_cm 3 [.int .i64 cm], BxC b_cp 3 [.int .i64 cp]] | _ => Gx I D w I w xw [BxC b_x 37 [.int .i64 x.k, .int .i64 x.epoch, .int .i64 x.req, .int .i64 x.serial, .bool x.flag, .int .u64 (x.at_ : Int), .int .u64 (x.last : Int), .int .i64 (max cn 0), .int .i64 (max cm 0), .int .i64 (max cp 0), .int .i64 x.e, .string x.key, .string x.to_, .int .i64 x.conf.epoch, v0_x, .int .u64 (x.conf.floor : Int), .int .i64 x.batch.client, .int .i64 x.batch.req, v1_x, v2_x, v3_x, v4_x], BxC b_cn 3 [.int .i64 cn], BxC b_cm 3 [.int .i64 cm], BxC b_cp 3 [.int .i64 cp]]) (fun _ => Gx.start H) ?_ ?_
  · intro fr hfr hfe
    refine .cons (fun ss hlo hhi vals1 xw hG hF => ?_) ?_
    · obtain rfl : ss = 0 := Nat.le_antisymm hhi hlo
      rw [← hfe]
      have hS := (hfr vals1).sub (ts := [0]) (S' := [(0, .pointer (some ⟨b_x, 0, none⟩))]) rfl
      exact L_val hS rfl (Ob_c TB_Relay3 rfl) ⟨rfl, hG⟩
    refine .cons (fun ss hlo hhi vals1 xw hG hF => ?_) ?_
    · obtain rfl | rfl : ss = 0 ∨ ss = 1 := st1 hlo hhi
      · rw [← hfe]
        have hS := (hfr vals1).sub (ts := [0]) (S' := [(0, .pointer (some ⟨b_x, 0, none⟩))]) rfl
        exact L_val hS rfl (Ob_c TB_Relay3 rfl) ⟨rfl, hG⟩
      · rw [← hfe]
        have hS := (hfr vals1).sub (ts := [0]) (S' := [(0, .pointer (some ⟨b_x, 0, none⟩))]) rfl
        exact L_val hS rfl (Ob_c TB_Relay3 rfl) ⟨rfl, hG⟩
    refine .cons (fun ss hlo hhi vals1 xw hG hF => ?_) ?_
    · obtain rfl | rfl | rfl : ss = 0 ∨ ss = 1 ∨ ss = 2 := st2 hlo hhi
      · rw [← hfe]
        have hS := (hfr vals1).sub (ts := [0]) (S' := [(0, .pointer (some ⟨b_x, 0, none⟩))]) rfl
        exact L_val hS rfl (Ob_c TB_Relay3 rfl) ⟨rfl, hG⟩
      · rw [← hfe]
        have hS := (hfr vals1).sub (ts := [0]) (S' := [(0, .pointer (some ⟨b_x, 0, none⟩))]) rfl
        exact L_val hS rfl (Ob_c TB_Relay3 rfl) ⟨rfl, hG⟩
      · rw [← hfe]
        have hS := (hfr vals1).sub (ts := [0]) (S' := [(0, .pointer (some ⟨b_x, 0, none⟩))]) rfl
        exact L_val hS rfl (Ob_c TB_Relay3 rfl) ⟨rfl, hG⟩
    refine .cons (fun ss hlo hhi vals1 xw hG hF => ?_) ?_
    · obtain rfl : ss = 0 := Nat.le_antisymm hhi hlo
      rw [← hfe]
      have hS := (hfr vals1).sub (ts := [1]) (S' := [(1, .pointer (some ⟨b_cn, 0, none⟩))]) rfl
      obtain ⟨I2, hI2, H⟩ := Gx.ex hG
      exact L_val hS rfl (Ob_load TB_Relay3 rfl rfl rfl ((H.bx 1 rfl).cell 0 rfl)) ⟨rfl, hG⟩
    refine .cons (fun ss hlo hhi vals1 xw hG hF => ?_) ?_
    · obtain rfl : ss = 0 := Nat.le_antisymm hhi hlo
      rw [← hfe]
      have hS := (hfr vals1).sub (ts := [8]) (S' := [(8, vals1 3)]) rfl
      have hf3 : vals1 3 = .int .i64 cn := hF 3 (by decide)
      replace hS := hS.conv (t := 8) rfl hf3
      exact L_val hS rfl (Ob_c TB_Relay3 rfl) ⟨rfl, hG⟩
    refine .cons (fun ss hlo hhi vals1 xw hG hF => ?_) ?_
    · obtain rfl | rfl : ss = 0 ∨ ss = 1 := st1 hlo hhi
      · rw [← hfe]
        have hS := (hfr vals1).sub (ts := [2]) (S' := [(2, .pointer (some ⟨b_cm, 0, none⟩))]) rfl
        obtain ⟨I2, hI2, H⟩ := Gx.ex hG
        exact L_val hS rfl (Ob_load TB_Relay3 rfl rfl rfl ((H.bx 2 rfl).cell 0 rfl)) ⟨rfl, hG⟩
      · rw [← hfe]
        have hS := (hfr vals1).sub (ts := [2]) (S' := [(2, .pointer (some ⟨b_cm, 0, none⟩))]) rfl
        obtain ⟨I2, hI2, H⟩ := Gx.ex hG
        exact L_val hS rfl (Ob_load TB_Relay3 rfl rfl rfl ((H.bx 2 rfl).cell 0 rfl)) ⟨rfl, hG⟩
    refine .cons (fun ss hlo hhi vals1 xw hG hF => ?_) ?_
    · obtain rfl | rfl : ss = 0 ∨ ss = 1 := st1 hlo hhi
      · rw [← hfe]
        have hS := (hfr vals1).sub (ts := [10]) (S' := [(10, vals1 5)]) rfl
        have hf5 : vals1 5 = .int .i64 cm := hF 5 (by decide)
        replace hS := hS.conv (t := 10) rfl hf5
        exact L_val hS rfl (Ob_c TB_Relay3 rfl) ⟨rfl, hG⟩
      · rw [← hfe]
        have hS := (hfr vals1).sub (ts := [10]) (S' := [(10, vals1 5)]) rfl
        have hf5 : vals1 5 = .int .i64 cm := hF 5 (by decide)
        replace hS := hS.conv (t := 10) rfl hf5
        exact L_val hS rfl (Ob_c TB_Relay3 rfl) ⟨rfl, hG⟩
    refine .cons (fun ss hlo hhi vals1 xw hG hF => ?_) ?_
    · obtain rfl | rfl | rfl : ss = 0 ∨ ss = 1 ∨ ss = 2 := st2 hlo hhi
      · rw [← hfe]
        have hS := (hfr vals1).sub (ts := [3]) (S' := [(3, .pointer (some ⟨b_cp, 0, none⟩))]) rfl
        obtain ⟨I2, hI2, H⟩ := Gx.ex hG
        exact L_val hS rfl (Ob_load TB_Relay3 rfl rfl rfl ((H.bx 3 rfl).cell 0 rfl)) ⟨rfl, hG⟩
      · rw [← hfe]
        have hS := (hfr vals1).sub (ts := [3]) (S' := [(3, .pointer (some ⟨b_cp, 0, none⟩))]) rfl
        obtain ⟨I2, hI2, H⟩ := Gx.ex hG
        exact L_val hS rfl (Ob_load TB_Relay3 rfl rfl rfl ((H.bx 3 rfl).cell 0 rfl)) ⟨rfl, hG⟩
      · rw [← hfe]
        have hS := (hfr vals1).sub (ts := [3]) (S' := [(3, .pointer (some ⟨b_cp, 0, none⟩))]) rfl
        obtain ⟨I2, hI2, H⟩ := Gx.ex hG
        exact L_val hS rfl (Ob_load TB_Relay3 rfl rfl rfl ((H.bx 3 rfl).cell 0 rfl)) ⟨rfl, hG⟩
    refine .cons (fun ss hlo hhi vals1 xw hG hF => ?_) ?_
    · obtain rfl | rfl | rfl : ss = 0 ∨ ss = 1 ∨ ss = 2 := st2 hlo hhi
      · rw [← hfe]
        have hS := (hfr vals1).sub (ts := [12]) (S' := [(12, vals1 7)]) rfl
        have hf7 : vals1 7 = .int .i64 cp := hF 7 (by decide)
        replace hS := hS.conv (t := 12) rfl hf7
        exact L_val hS rfl (Ob_c TB_Relay3 rfl) ⟨rfl, hG⟩
      · rw [← hfe]
        have hS := (hfr vals1).sub (ts := [12]) (S' := [(12, vals1 7)]) rfl
        have hf7 : vals1 7 = .int .i64 cp := hF 7 (by decide)
        replace hS := hS.conv (t := 12) rfl hf7
        exact L_val hS rfl (Ob_c TB_Relay3 rfl) ⟨rfl, hG⟩
      · rw [← hfe]
        have hS := (hfr vals1).sub (ts := [12]) (S' := [(12, vals1 7)]) rfl
        have hf7 : vals1 7 = .int .i64 cp := hF 7 (by decide)
        replace hS := hS.conv (t := 12) rfl hf7
        exact L_val hS rfl (Ob_c TB_Relay3 rfl) ⟨rfl, hG⟩
    refine .cons (fun ss hlo hhi vals1 xw hG hF => ?_) ?_
    · obtain rfl : ss = 0 := Nat.le_antisymm hhi hlo
      rw [← hfe]
      have hS := (hfr vals1).sub (ts := [5]) (S' := [(5, vals1 0)]) rfl
      have hf0 : vals1 0 = .pointer (some ⟨b_x, 0, none⟩) := hF 0 (by decide)
      replace hS := hS.conv (t := 5) rfl hf0
      exact L_val hS rfl (Ob_c TB_Relay3 rfl) ⟨rfl, hG⟩
    refine .cons (fun ss hlo hhi vals1 xw hG hF => ?_) ?_
    · obtain rfl : ss = 0 := Nat.le_antisymm hhi hlo
      rw [← hfe]
      have hS := (hfr vals1).sub (ts := [14]) (S' := [(14, vals1 9)]) rfl
      have hf9 : vals1 9 = .pointer (some ⟨b_x, 0, none⟩) := hF 9 (by decide)
      replace hS := hS.conv (t := 14) rfl hf9
      exact L_val hS rfl (Ob_c TB_Relay3 rfl) ⟨rfl, hG⟩
    refine .cons (fun ss hlo hhi vals1 xw hG hF => ?_) ?_
    · obtain rfl : ss = 0 := Nat.le_antisymm hhi hlo
      rw [← hfe]
      have hS := (hfr vals1).sub (ts := [15, 9]) (S' := [(15, vals1 10), (9, vals1 4)]) rfl
      have hf10 : vals1 10 = .pointer (some ⟨b_x, 7, none⟩) := hF 10 (by decide)
      replace hS := hS.conv (t := 15) rfl hf10
      have hf4 : vals1 4 = .int .i64 (max cn 0) := hF 4 (by decide)
      replace hS := hS.conv (t := 9) rfl hf4
      obtain ⟨I2, hI2, H⟩ := Gx.ex hG
      exact L_store TB_Relay3 H 0 (us := [.int .i64 (max cn 0)]) (cl' := [.int .i64 x.k, .int .i64 x.epoch, .int .i64 x.req, .int .i64 x.serial, .bool x.flag, .int .u64 (x.at_ : Int), .int .u64 (x.last : Int), .int .i64 (max cn 0), .int .i64 x.m, .int .i64 x.p, .int .i64 x.e, .string x.key, .string x.to_, .int .i64 x.conf.epoch, v0_x, .int .u64 (x.conf.floor : Int), .int .i64 x.batch.client, .int .i64 x.batch.req, v1_x, v2_x, v3_x, v4_x]) rfl hS rfl rfl rfl rfl rfl rfl rfl rfl (by simp only [List.mem_cons, List.not_mem_nil, or_false]; rintro u rfl <;> rfl) (Nat.le_of_ble_eq_true rfl) rfl fun yw hK H => ⟨trivial, Gx.go hG hI2 hK (fun _ h => h) H⟩
    refine .cons (fun ss hlo hhi vals1 xw hG hF => ?_) ?_
    · obtain rfl : ss = 1 := Nat.le_antisymm hhi hlo
      rw [← hfe]
      have hS := (hfr vals1).sub (ts := [6]) (S' := [(6, vals1 1)]) rfl
      have hf1 : vals1 1 = .pointer (some ⟨b_x, 0, none⟩) := hF 1 (by decide)
      replace hS := hS.conv (t := 6) rfl hf1
      exact L_val hS rfl (Ob_c TB_Relay3 rfl) ⟨rfl, hG⟩
    refine .cons (fun ss hlo hhi vals1 xw hG hF => ?_) ?_
    · obtain rfl : ss = 1 := Nat.le_antisymm hhi hlo
      rw [← hfe]
      have hS := (hfr vals1).sub (ts := [16]) (S' := [(16, vals1 12)]) rfl
      have hf12 : vals1 12 = .pointer (some ⟨b_x, 0, none⟩) := hF 12 (by decide)
      replace hS := hS.conv (t := 16) rfl hf12
      exact L_val hS rfl (Ob_c TB_Relay3 rfl) ⟨rfl, hG⟩
    refine .cons (fun ss hlo hhi vals1 xw hG hF => ?_) ?_
    · obtain rfl : ss = 1 := Nat.le_antisymm hhi hlo
      rw [← hfe]
      have hS := (hfr vals1).sub (ts := [17, 11]) (S' := [(17, vals1 13), (11, vals1 6)]) rfl
      have hf13 : vals1 13 = .pointer (some ⟨b_x, 8, none⟩) := hF 13 (by decide)
      replace hS := hS.conv (t := 17) rfl hf13
      have hf6 : vals1 6 = .int .i64 (max cm 0) := hF 6 (by decide)
      replace hS := hS.conv (t := 11) rfl hf6
      obtain ⟨I2, hI2, H⟩ := Gx.ex hG
      exact L_store TB_Relay3 H 0 (us := [.int .i64 (max cm 0)]) (cl' := [.int .i64 x.k, .int .i64 x.epoch, .int .i64 x.req, .int .i64 x.serial, .bool x.flag, .int .u64 (x.at_ : Int), .int .u64 (x.last : Int), .int .i64 (max cn 0), .int .i64 (max cm 0), .int .i64 x.p, .int .i64 x.e, .string x.key, .string x.to_, .int .i64 x.conf.epoch, v0_x, .int .u64 (x.conf.floor : Int), .int .i64 x.batch.client, .int .i64 x.batch.req, v1_x, v2_x, v3_x, v4_x]) rfl hS rfl rfl rfl rfl rfl rfl rfl rfl (by simp only [List.mem_cons, List.not_mem_nil, or_false]; rintro u rfl <;> rfl) (Nat.le_of_ble_eq_true rfl) rfl fun yw hK H => ⟨trivial, Gx.go hG hI2 hK (fun _ h => h) H⟩
    refine .cons (fun ss hlo hhi vals1 xw hG hF => ?_) ?_
    · obtain rfl : ss = 2 := Nat.le_antisymm hhi hlo
      rw [← hfe]
      have hS := (hfr vals1).sub (ts := [7]) (S' := [(7, vals1 2)]) rfl
      have hf2 : vals1 2 = .pointer (some ⟨b_x, 0, none⟩) := hF 2 (by decide)
      replace hS := hS.conv (t := 7) rfl hf2
      exact L_val hS rfl (Ob_c TB_Relay3 rfl) ⟨rfl, hG⟩
    refine .cons (fun ss hlo hhi vals1 xw hG hF => ?_) ?_
    · obtain rfl : ss = 2 := Nat.le_antisymm hhi hlo
      rw [← hfe]
      have hS := (hfr vals1).sub (ts := [18]) (S' := [(18, vals1 15)]) rfl
      have hf15 : vals1 15 = .pointer (some ⟨b_x, 0, none⟩) := hF 15 (by decide)
      replace hS := hS.conv (t := 18) rfl hf15
      exact L_val hS rfl (Ob_c TB_Relay3 rfl) ⟨rfl, hG⟩
    refine .cons (fun ss hlo hhi vals1 xw hG hF => ?_) ?_
    · obtain rfl : ss = 2 := Nat.le_antisymm hhi hlo
      rw [← hfe]
      have hS := (hfr vals1).sub (ts := [19, 13]) (S' := [(19, vals1 16), (13, vals1 8)]) rfl
      have hf16 : vals1 16 = .pointer (some ⟨b_x, 9, none⟩) := hF 16 (by decide)
      replace hS := hS.conv (t := 19) rfl hf16
      have hf8 : vals1 8 = .int .i64 (max cp 0) := hF 8 (by decide)
      replace hS := hS.conv (t := 13) rfl hf8
      obtain ⟨I2, hI2, H⟩ := Gx.ex hG
      exact L_store TB_Relay3 H 0 (us := [.int .i64 (max cp 0)]) (cl' := [.int .i64 x.k, .int .i64 x.epoch, .int .i64 x.req, .int .i64 x.serial, .bool x.flag, .int .u64 (x.at_ : Int), .int .u64 (x.last : Int), .int .i64 (max cn 0), .int .i64 (max cm 0), .int .i64 (max cp 0), .int .i64 x.e, .string x.key, .string x.to_, .int .i64 x.conf.epoch, v0_x, .int .u64 (x.conf.floor : Int), .int .i64 x.batch.client, .int .i64 x.batch.req, v1_x, v2_x, v3_x, v4_x]) rfl hS rfl rfl rfl rfl rfl rfl rfl rfl (by simp only [List.mem_cons, List.not_mem_nil, or_false]; rintro u rfl <;> rfl) (Nat.le_of_ble_eq_true rfl) rfl fun yw hK H => ⟨trivial, Gx.go hG hI2 hK (fun _ h => h) H⟩
    exact .nil
  · intro vals1 a w1 hok hG hF
    replace hok := hok.sub (ts := [0, 1, 2, 3]) (S' := [(0, .pointer (some ⟨b_x, 0, none⟩)), (1, .pointer (some ⟨b_cn, 0, none⟩)), (2, .pointer (some ⟨b_cm, 0, none⟩)), (3, .pointer (some ⟨b_cp, 0, none⟩))]) rfl
    obtain ⟨I1, hI1, H⟩ := Gx.ex hG
    clear hG hF
    replace H : Hf I D w I1 w1 [BxC b_x 37 [.int .i64 x.k, .int .i64 x.epoch, .int .i64 x.req, .int .i64 x.serial, .bool x.flag, .int .u64 (x.at_ : Int), .int .u64 (x.last : Int), .int .i64 (max cn 0), .int .i64 (max cm 0), .int .i64 (max cp 0), .int .i64 x.e, .string x.key, .string x.to_, .int .i64 x.conf.epoch, v0_x, .int .u64 (x.conf.floor : Int), .int .i64 x.batch.client, .int .i64 x.batch.req, v1_x, v2_x, v3_x, v4_x], BxC b_cn 3 [.int .i64 cn], BxC b_cm 3 [.int .i64 cm], BxC b_cp 3 [.int .i64 cp]] := H
    refine f_fall hok (run_results0 rfl) ?_
    refine ⟨?_, I1, (H.sub [(0, false), (0, false), (0, false), (0, false)] rfl).eq ?_⟩
    · clear hok H
      rfl
    · clear hok H
      rfl

def msgM (kind epoch n m p req : Int) (at_ : Nat) (entries : List DEntry) (stamps : List Nat) : DMsg :=
  { k := kind, epoch := max epoch 0, req := req, serial := 0, flag := false, at_ := at_, last := 0, n := max n 0, m := max m 0, p := max p 0, e := 0, key := ByteArray.empty, to_ := ByteArray.empty, conf := ⟨0, [], 0⟩, batch := ⟨0, 0, []⟩, entries := entries, stamps := stamps, pairs := [] }

set_option maxHeartbeats 1000000 in
theorem h_made_Ack {I D : Dm} (kind : Int) (epoch : Int) (b_l : Nat) (b_cn : Nat) (cn : Int) (b_cm : Nat) (cm : Int) (b_cp : Nat) (cp : Int) (b_es : Nat) (v_es : Value) (es : List DEntry) (b_f : Nat) (f : Int) (b_g : Nat) (g : Int) (w : World) (h_kind : i64ok kind) (h_epoch : i64ok epoch) (h_cn : i64ok cn) (h_cm : i64ok cm) (h_cp : i64ok cp) (h_f : i64ok f) (h_g : i64ok g) (H : St I D w [BxC b_l 66 [.func (.func 54) #[] #[.pointer (some ⟨b_cn, 0, none⟩), .pointer (some ⟨b_cm, 0, none⟩), .pointer (some ⟨b_cp, 0, none⟩)], .func (.func 36) #[] #[.pointer (some ⟨b_es, 0, none⟩), .pointer (some ⟨b_f, 0, none⟩), .pointer (some ⟨b_g, 0, none⟩)]], BxC b_cn 3 [.int .i64 cn], BxC b_cm 3 [.int .i64 cm], BxC b_cp 3 [.int .i64 cp], BxC b_es 22 [v_es], SlC RDEntry (v_es) es, BxC b_f 3 [.int .i64 f], BxC b_g 3 [.int .i64 g]]) (hf : 0 ≤ f ∧ f ≤ g ∧ g ≤ es.length) (hll : g ≤ 1000000) :
    Calls Try.prog 33 #[.int .i64 kind, .int .i64 epoch, .slice (some ⟨b_l, 0, none⟩) 2 2] w (Ret fun r w' => ∃ q0 q1 q2 q3 q4 : Value, r = .agg (cDMsg (msgM kind epoch cn cm cp 0 0 [] (stampsL es f.toNat (min g (f + 8)).toNat)) q0 q1 q2 q3 q4).toArray ∧ okDMsg (msgM kind epoch cn cm cp 0 0 [] (stampsL es f.toNat (min g (f + 8)).toNat)) ∧ ∃ I', Hf I D w I' w' [BxC b_cn 3 [.int .i64 cn], BxC b_cm 3 [.int .i64 cm], BxC b_cp 3 [.int .i64 cp], BxC b_es 22 [v_es], BxC b_f 3 [.int .i64 f], BxC b_g 3 [.int .i64 g], SlC RDMember (q0) ((msgM kind epoch cn cm cp 0 0 [] (stampsL es f.toNat (min g (f + 8)).toNat)).conf.members), SlC RDOp (q1) ((msgM kind epoch cn cm cp 0 0 [] (stampsL es f.toNat (min g (f + 8)).toNat)).batch.ops), SlC RDEntry (q2) ((msgM kind epoch cn cm cp 0 0 [] (stampsL es f.toNat (min g (f + 8)).toNat)).entries), SlC RU (q3) ((msgM kind epoch cn cm cp 0 0 [] (stampsL es f.toNat (min g (f + 8)).toNat)).stamps), SlC RDPair (q4) ((msgM kind epoch cn cm cp 0 0 [] (stampsL es f.toNat (min g (f + 8)).toNat)).pairs)]) := by
  replace H := H.hf
  obtain ⟨ao_v_es, cap_v_es, rfl, hc_v_es, hm_v_es⟩ := H.slshape 5 rfl
  unfold maxLen at hm_v_es
  unfold i64ok at h_kind
  unfold i64ok at h_epoch
  unfold i64ok at h_cn
  unfold i64ok at h_cm
  unfold i64ok at h_cp
  unfold i64ok at h_f
  unfold i64ok at h_g
  refine f_enter 24 Try.func33 rfl rfl (Nat.le_of_ble_eq_true rfl) fun a hok => ?_
  replace hok := hok.sub (ts := [0, 1, 2]) rfl
  refine wp_seq ?_
  refine f_region hok ?_; clear hok; intro hok
  refine h_alloc hok H (cl := [.int .i64 0, .int .i64 0, .int .i64 0, .int .i64 0, .bool false, .int .u64 0, .int .u64 0, .int .i64 0, .int .i64 0, .int .i64 0, .int .i64 0, .string ByteArray.empty, .string ByteArray.empty, .int .i64 0, .slice none 0 0, .int .u64 0, .int .i64 0, .int .i64 0, .slice none 0 0, .slice none 0 0, .slice none 0 0, .slice none 0 0]) (z := .agg #[.int .i64 0, .int .i64 0, .int .i64 0, .int .i64 0, .bool false, .int .u64 0, .int .u64 0, .int .i64 0, .int .i64 0, .int .i64 0, .int .i64 0, .string ByteArray.empty, .string ByteArray.empty, .int .i64 0, .slice none 0 0, .int .u64 0, .int .i64 0, .int .i64 0, .slice none 0 0, .slice none 0 0, .slice none 0 0, .slice none 0 0]) rfl rfl rfl (by decide) rfl (by kernel_rfl) rfl ?_; clear hok a H; intro a w1 b1 H hok
  refine s_end hok [0, 1, 2, 6] rfl ?_; clear hok; intro hok
  refine p_then ?_
  refine wp_seq ?_
  refine f_region hok ?_; clear hok; intro hok
  refine s_runk TB_Relay3 hok 3 rfl rfl ?_; clear hok a; intro a hok
  refine s_ob hok (v := .agg #[.int .i64 kind, .int .i64 (max epoch 0), .int .i64 0, .int .i64 0, .bool false, .int .u64 0, .int .u64 0, .int .i64 0, .int .i64 0, .int .i64 0, .int .i64 0, .string ByteArray.empty, .string ByteArray.empty, .int .i64 0, .slice none 0 0, .int .u64 0, .int .i64 0, .int .i64 0, .slice none 0 0, .slice none 0 0, .slice none 0 0, .slice none 0 0]) rfl rfl (by decide) rfl (Ob_build (vs := [(0, .int .i64 kind), (1, .int .i64 (max epoch 0))]) rfl rfl (by go_simp <;> rfl)) ?_; clear hok a; intro a hok
  refine h_alloc hok H (cl := [.int .i64 0, .int .i64 0, .int .i64 0, .int .i64 0, .bool false, .int .u64 0, .int .u64 0, .int .i64 0, .int .i64 0, .int .i64 0, .int .i64 0, .string ByteArray.empty, .string ByteArray.empty, .int .i64 0, .slice none 0 0, .int .u64 0, .int .i64 0, .int .i64 0, .slice none 0 0, .slice none 0 0, .slice none 0 0, .slice none 0 0]) (z := .agg #[.int .i64 0, .int .i64 0, .int .i64 0, .int .i64 0, .bool false, .int .u64 0, .int .u64 0, .int .i64 0, .int .i64 0, .int .i64 0, .int .i64 0, .string ByteArray.empty, .string ByteArray.empty, .int .i64 0, .slice none 0 0, .int .u64 0, .int .i64 0, .int .i64 0, .slice none 0 0, .slice none 0 0, .slice none 0 0, .slice none 0 0]) rfl rfl rfl (by decide) rfl (by kernel_rfl) rfl ?_; clear hok a H; intro a w2 b2 H hok
  refine h_store TB_Relay3 hok H 0 (us := [.int .i64 kind, .int .i64 (max epoch 0), .int .i64 0, .int .i64 0, .bool false, .int .u64 0, .int .u64 0, .int .i64 0, .int .i64 0, .int .i64 0, .int .i64 0, .string ByteArray.empty, .string ByteArray.empty, .int .i64 0, .slice none 0 0, .int .u64 0, .int .i64 0, .int .i64 0, .slice none 0 0, .slice none 0 0, .slice none 0 0, .slice none 0 0]) (cl' := [.int .i64 kind, .int .i64 (max epoch 0), .int .i64 0, .int .i64 0, .bool false, .int .u64 0, .int .u64 0, .int .i64 0, .int .i64 0, .int .i64 0, .int .i64 0, .string ByteArray.empty, .string ByteArray.empty, .int .i64 0, .slice none 0 0, .int .u64 0, .int .i64 0, .int .i64 0, .slice none 0 0, .slice none 0 0, .slice none 0 0, .slice none 0 0]) rfl rfl rfl rfl rfl rfl rfl rfl rfl (ones_all rfl) (Nat.le_of_ble_eq_true rfl) (putCells_all rfl) ?_; clear H; intro w3 H
  dsimp only [List.eraseIdx] at H
  refine s_end hok [0, 1, 2, 6, 7] rfl ?_; clear hok; intro hok
  refine p_then ?_
  refine wp_seq ?_
  refine wp_seq ?_
  refine f_region hok ?_; clear hok; intro hok
  refine s_runk TB_Relay3 hok 3 rfl rfl ?_; clear hok a; intro a hok
  refine s_end hok [0, 1, 2, 6, 7, 14, 15, 16] rfl ?_; clear hok; intro hok
  refine p_then ?_
  refine wp_block ?_
  refine wp_loop_rounds 3 ?_
  refine rounds_in ?_
  refine wp_seq ?_
  refine f_region hok ?_; clear hok; intro hok
  refine s_runk TB_Relay3 hok 1 rfl rfl ?_; clear hok a; intro a hok
  refine s_end hok [0, 1, 2, 6, 7, 14, 15, 16, 17] rfl ?_; clear hok; intro hok
  refine p_then ?_
  refine wp_seq ?_
  refine wp_cond_true (hok.ev rfl) ?_
  refine wp_skip ?_
  refine p_then ?_
  refine wp_seq ?_
  refine wp_block ?_
  refine wp_seq ?_
  refine f_region hok ?_; clear hok; intro hok
  refine s_ob hok (v := .pointer (some ⟨b_l, 0, none⟩)) rfl rfl (by decide) rfl (Ob_idx (b := b_l) (off := 0) (m := 1) TB_Relay3 (0) rfl rfl rfl rfl rfl rfl (show 0 < 2 from by decide)) ?_; clear hok a; intro a hok
  refine s_ob hok (v := .func (.func 54) #[] #[.pointer (some ⟨b_cn, 0, none⟩), .pointer (some ⟨b_cm, 0, none⟩), .pointer (some ⟨b_cp, 0, none⟩)]) rfl rfl (by decide) rfl (Ob_load TB_Relay3 rfl rfl rfl ((H.bx 2 rfl).cell 0 rfl)) ?_; clear hok a; intro a hok
  refine s_runk TB_Relay3 hok 1 rfl rfl ?_; clear hok a; intro a hok
  refine s_end hok [0, 1, 2, 6, 7, 14, 15, 16, 17, 9] rfl ?_; clear hok; intro hok
  refine p_then ?_
  refine f_region hok ?_; clear hok; intro hok
  refine s_runk TB_Relay3 hok 1 rfl rfl ?_; clear hok a; intro a hok
  refine h_call hok H (js := [(0, false), (2, false), (2, false), (2, false)]) rfl (caps := #[.pointer (some ⟨b_cn, 0, none⟩), .pointer (some ⟨b_cm, 0, none⟩), .pointer (some ⟨b_cp, 0, none⟩)]) fn_54_Relay3 rfl rfl rfl rfl rfl (by decide) rfl rfl (fun D1 hS => h_counts1 _ (⟨kind, max epoch 0, 0, 0, false, 0, 0, 0, 0, 0, 0, ByteArray.empty, ByteArray.empty, (⟨0, [], 0⟩ : DConf), (⟨0, 0, []⟩ : DBatch), [], [], []⟩ : DMsg) _ _ _ _ _ _ cn _ cm _ cp _ ⟨h_kind, (show i64ok (max epoch 0) by unfold i64ok; omega), (show i64ok 0 by unfold i64ok; omega), (show i64ok 0 by unfold i64ok; omega), (show 0 < 18446744073709551616 by omega), (show 0 < 18446744073709551616 by omega), (show i64ok 0 by unfold i64ok; omega), (show i64ok 0 by unfold i64ok; omega), (show i64ok 0 by unfold i64ok; omega), (show i64ok 0 by unfold i64ok; omega), emp_ok, emp_ok, ⟨(show i64ok 0 by unfold i64ok; omega), (show 0 < 18446744073709551616 by omega)⟩, ⟨(show i64ok 0 by unfold i64ok; omega), (show i64ok 0 by unfold i64ok; omega)⟩⟩ h_cn h_cm h_cp hS) ?_; clear hok a H; intro _ a w4 D1 hr hF hok
  obtain ⟨rfl, I1, H⟩ := hr
  replace H : Hf I D w I1 w4 [BxC b2 37 [.int .i64 kind, .int .i64 (max epoch 0), .int .i64 0, .int .i64 0, .bool false, .int .u64 0, .int .u64 0, .int .i64 (max cn 0), .int .i64 (max cm 0), .int .i64 (max cp 0), .int .i64 0, .string ByteArray.empty, .string ByteArray.empty, .int .i64 0, .slice none 0 0, .int .u64 0, .int .i64 0, .int .i64 0, .slice none 0 0, .slice none 0 0, .slice none 0 0, .slice none 0 0], BxC b_cn 3 [.int .i64 cn], BxC b_cm 3 [.int .i64 cm], BxC b_cp 3 [.int .i64 cp], BxC b1 37 [.int .i64 0, .int .i64 0, .int .i64 0, .int .i64 0, .bool false, .int .u64 0, .int .u64 0, .int .i64 0, .int .i64 0, .int .i64 0, .int .i64 0, .string ByteArray.empty, .string ByteArray.empty, .int .i64 0, .slice none 0 0, .int .u64 0, .int .i64 0, .int .i64 0, .slice none 0 0, .slice none 0 0, .slice none 0 0, .slice none 0 0], BxC b_l 66 [.func (.func 54) #[] #[.pointer (some ⟨b_cn, 0, none⟩), .pointer (some ⟨b_cm, 0, none⟩), .pointer (some ⟨b_cp, 0, none⟩)], .func (.func 36) #[] #[.pointer (some ⟨b_es, 0, none⟩), .pointer (some ⟨b_f, 0, none⟩), .pointer (some ⟨b_g, 0, none⟩)]], BxC b_es 22 [.slice ao_v_es es.length cap_v_es], SlC RDEntry (.slice ao_v_es es.length cap_v_es) es, BxC b_f 3 [.int .i64 f], BxC b_g 3 [.int .i64 g]] := hF H
  clear hF
  refine s_end hok [0, 1, 2, 6, 7, 14, 15, 16, 17, 9] rfl ?_; clear hok; intro hok
  refine p_blk ?_
  refine p_then ?_
  refine f_region hok ?_; clear hok; intro hok
  refine s_ob hok (v := .int .i64 1) rfl rfl (by decide) rfl (Ob_add rfl rfl rfl (by decide)) ?_; clear hok a; intro a hok
  refine s_runk TB_Relay3 hok 1 rfl rfl ?_; clear hok a; intro a hok
  refine s_end hok [0, 1, 2, 6, 7, 14, 15, 16, 17, 9] rfl ?_; clear hok; intro hok
  refine p_then ?_
  refine rounds_in ?_
  refine wp_seq ?_
  refine f_region hok ?_; clear hok; intro hok
  refine s_runk TB_Relay3 hok 1 rfl rfl ?_; clear hok a; intro a hok
  refine s_end hok [0, 1, 2, 6, 7, 14, 15, 16, 17, 9] rfl ?_; clear hok; intro hok
  refine p_then ?_
  refine wp_seq ?_
  refine wp_cond_true (hok.ev rfl) ?_
  refine wp_skip ?_
  refine p_then ?_
  refine wp_seq ?_
  refine wp_block ?_
  refine wp_seq ?_
  refine f_region hok ?_; clear hok; intro hok
  refine s_ob hok (v := .pointer (some ⟨b_l, 1, none⟩)) rfl rfl (by decide) rfl (Ob_idx (b := b_l) (off := 0) (m := 1) TB_Relay3 (1) rfl rfl rfl rfl rfl rfl (show 1 < 2 from by decide)) ?_; clear hok a; intro a hok
  refine s_ob hok (v := .func (.func 36) #[] #[.pointer (some ⟨b_es, 0, none⟩), .pointer (some ⟨b_f, 0, none⟩), .pointer (some ⟨b_g, 0, none⟩)]) rfl rfl (by decide) rfl (Ob_load TB_Relay3 rfl rfl rfl ((H.bx 5 rfl).cell 1 rfl)) ?_; clear hok a; intro a hok
  refine s_runk TB_Relay3 hok 1 rfl rfl ?_; clear hok a; intro a hok
  refine s_end hok [0, 1, 2, 6, 7, 14, 15, 16, 17, 9] rfl ?_; clear hok; intro hok
  refine p_then ?_
  refine f_region hok ?_; clear hok; intro hok
  refine s_runk TB_Relay3 hok 1 rfl rfl ?_; clear hok a; intro a hok
  replace H := H.nilow RU 24
  refine h_call hok H (js := [(1, false), (0, false), (5, false), (5, true), (6, false), (6, false)]) rfl (caps := #[.pointer (some ⟨b_es, 0, none⟩), .pointer (some ⟨b_f, 0, none⟩), .pointer (some ⟨b_g, 0, none⟩)]) fn_36_Relay3 rfl rfl rfl rfl rfl (by decide) rfl rfl (fun D1 hS => c_Ack1 _ (⟨kind, max epoch 0, 0, 0, false, 0, 0, max cn 0, max cm 0, max cp 0, 0, ByteArray.empty, ByteArray.empty, (⟨0, [], 0⟩ : DConf), (⟨0, 0, []⟩ : DBatch), [], [], []⟩ : DMsg) _ _ _ _ _ _ _ es _ f _ g _ ⟨h_kind, (show i64ok (max epoch 0) by unfold i64ok; omega), (show i64ok 0 by unfold i64ok; omega), (show i64ok 0 by unfold i64ok; omega), (show 0 < 18446744073709551616 by omega), (show 0 < 18446744073709551616 by omega), (show i64ok (max cn 0) by unfold i64ok; omega), (show i64ok (max cm 0) by unfold i64ok; omega), (show i64ok (max cp 0) by unfold i64ok; omega), (show i64ok 0 by unfold i64ok; omega), emp_ok, emp_ok, ⟨(show i64ok 0 by unfold i64ok; omega), (show 0 < 18446744073709551616 by omega)⟩, ⟨(show i64ok 0 by unfold i64ok; omega), (show i64ok 0 by unfold i64ok; omega)⟩⟩ h_f h_g hS (by first | omega | rfl | (simp only [List.length_drop, List.length_take, List.length_append, List.length_cons, List.length_nil]; omega)) (by first | omega | rfl | (simp only [List.length_drop, List.length_take, List.length_append, List.length_cons, List.length_nil]; omega)) (by first | omega | rfl | (simp only [List.length_drop, List.length_take, List.length_append, List.length_cons, List.length_nil]; omega))) ?_; clear hok a H; intro _ a w5 D1 hr hF hok
  obtain ⟨q1, rfl, I2, H⟩ := hr
  replace H : Hf I D w I2 w5 [BxC b2 37 [.int .i64 kind, .int .i64 (max epoch 0), .int .i64 0, .int .i64 0, .bool false, .int .u64 0, .int .u64 0, .int .i64 (max cn 0), .int .i64 (max cm 0), .int .i64 (max cp 0), .int .i64 0, .string ByteArray.empty, .string ByteArray.empty, .int .i64 0, .slice none 0 0, .int .u64 0, .int .i64 0, .int .i64 0, .slice none 0 0, .slice none 0 0, q1, .slice none 0 0], OwC RU 24 (q1) (stampsL es f.toNat (min g (f + 8)).toNat), BxC b_es 22 [.slice ao_v_es es.length cap_v_es], BxC b_f 3 [.int .i64 f], BxC b_g 3 [.int .i64 g], BxC b_cn 3 [.int .i64 cn], BxC b_cm 3 [.int .i64 cm], BxC b_cp 3 [.int .i64 cp], BxC b1 37 [.int .i64 0, .int .i64 0, .int .i64 0, .int .i64 0, .bool false, .int .u64 0, .int .u64 0, .int .i64 0, .int .i64 0, .int .i64 0, .int .i64 0, .string ByteArray.empty, .string ByteArray.empty, .int .i64 0, .slice none 0 0, .int .u64 0, .int .i64 0, .int .i64 0, .slice none 0 0, .slice none 0 0, .slice none 0 0, .slice none 0 0], BxC b_l 66 [.func (.func 54) #[] #[.pointer (some ⟨b_cn, 0, none⟩), .pointer (some ⟨b_cm, 0, none⟩), .pointer (some ⟨b_cp, 0, none⟩)], .func (.func 36) #[] #[.pointer (some ⟨b_es, 0, none⟩), .pointer (some ⟨b_f, 0, none⟩), .pointer (some ⟨b_g, 0, none⟩)]], SlC RDEntry (.slice ao_v_es es.length cap_v_es) es] := hF H
  clear hF
  obtain ⟨ao_q1, cap_q1, rfl, hc_q1, hm_q1⟩ := H.owshape 1 rfl
  unfold maxLen at hm_q1
  refine s_end hok [0, 1, 2, 6, 7, 14, 15, 16, 17, 9] rfl ?_; clear hok; intro hok
  refine p_blk ?_
  refine p_then ?_
  refine f_region hok ?_; clear hok; intro hok
  refine s_ob hok (v := .int .i64 2) rfl rfl (by decide) rfl (Ob_add rfl rfl rfl (by decide)) ?_; clear hok a; intro a hok
  refine s_runk TB_Relay3 hok 1 rfl rfl ?_; clear hok a; intro a hok
  refine s_end hok [0, 1, 2, 6, 7, 14, 15, 16, 17, 9] rfl ?_; clear hok; intro hok
  refine p_then ?_
  refine rounds_in ?_
  refine wp_seq ?_
  refine f_region hok ?_; clear hok; intro hok
  refine s_runk TB_Relay3 hok 1 rfl rfl ?_; clear hok a; intro a hok
  refine s_end hok [0, 1, 2, 6, 7, 14, 15, 16, 17, 9] rfl ?_; clear hok; intro hok
  refine p_then ?_
  refine wp_seq ?_
  refine wp_cond_false (hok.ev rfl) ?_
  refine wp_exit ?_
  refine p_then_x ?_
  refine p_then_x ?_
  refine f_exit_here ?_
  refine p_then ?_
  refine wp_seq ?_
  refine f_region hok ?_; clear hok; intro hok
  refine s_ob hok (v := .agg #[.int .i64 kind, .int .i64 (max epoch 0), .int .i64 0, .int .i64 0, .bool false, .int .u64 0, .int .u64 0, .int .i64 (max cn 0), .int .i64 (max cm 0), .int .i64 (max cp 0), .int .i64 0, .string ByteArray.empty, .string ByteArray.empty, .int .i64 0, .slice none 0 0, .int .u64 0, .int .i64 0, .int .i64 0, .slice none 0 0, .slice none 0 0, .slice ao_q1 ((stampsL es f.toNat (min g (f + 8)).toNat).length) cap_q1, .slice none 0 0]) rfl rfl (by decide) rfl (Ob_loads TB_Relay3 (cs := [.int .i64 kind, .int .i64 (max epoch 0), .int .i64 0, .int .i64 0, .bool false, .int .u64 0, .int .u64 0, .int .i64 (max cn 0), .int .i64 (max cm 0), .int .i64 (max cp 0), .int .i64 0, .string ByteArray.empty, .string ByteArray.empty, .int .i64 0, .slice none 0 0, .int .u64 0, .int .i64 0, .int .i64 0, .slice none 0 0, .slice none 0 0, .slice ao_q1 ((stampsL es f.toNat (min g (f + 8)).toNat).length) cap_q1, .slice none 0 0]) rfl rfl rfl (H.bx 0 rfl).at) ?_; clear hok a; intro a hok
  refine h_store TB_Relay3 hok H 8 (us := [.int .i64 kind, .int .i64 (max epoch 0), .int .i64 0, .int .i64 0, .bool false, .int .u64 0, .int .u64 0, .int .i64 (max cn 0), .int .i64 (max cm 0), .int .i64 (max cp 0), .int .i64 0, .string ByteArray.empty, .string ByteArray.empty, .int .i64 0, .slice none 0 0, .int .u64 0, .int .i64 0, .int .i64 0, .slice none 0 0, .slice none 0 0, .slice ao_q1 ((stampsL es f.toNat (min g (f + 8)).toNat).length) cap_q1, .slice none 0 0]) (cl' := [.int .i64 kind, .int .i64 (max epoch 0), .int .i64 0, .int .i64 0, .bool false, .int .u64 0, .int .u64 0, .int .i64 (max cn 0), .int .i64 (max cm 0), .int .i64 (max cp 0), .int .i64 0, .string ByteArray.empty, .string ByteArray.empty, .int .i64 0, .slice none 0 0, .int .u64 0, .int .i64 0, .int .i64 0, .slice none 0 0, .slice none 0 0, .slice ao_q1 ((stampsL es f.toNat (min g (f + 8)).toNat).length) cap_q1, .slice none 0 0]) rfl rfl rfl rfl rfl rfl rfl rfl rfl (ones_all rfl) (Nat.le_of_ble_eq_true rfl) (putCells_all rfl) ?_; clear H; intro w6 H
  dsimp only [List.eraseIdx] at H
  refine s_end hok [0, 1, 2, 6, 7, 14, 15, 16, 17, 9] rfl ?_; clear hok; intro hok
  refine p_then ?_
  refine wp_ret ?_
  replace H := H.addsl (slRep.nil RDMember _ _ none 0 (by decide))
  replace H := H.addsl (slRep.nil RDOp _ _ none 0 (by decide))
  replace H := H.addsl (slRep.nil RDEntry _ _ none 0 (by decide))
  obtain ⟨I3, hI3, H⟩ := H.frzow 5 rfl
  dsimp only [List.eraseIdx] at H
  replace H := H.addsl (slRep.nil RDPair _ _ none 0 (by decide))
  refine f_ret hok (run_resultsC rfl hok rfl (run_loadVar_agg TB_Relay3 rfl (H.bx 5 rfl).at)) ?_
  refine ⟨.slice none 0 0, .slice none 0 0, .slice none 0 0, .slice ao_q1 ((stampsL es f.toNat (min g (f + 8)).toNat).length) cap_q1, .slice none 0 0, ?_, ?_, I3, (H.sub [(10, false), (10, false), (10, false), (7, false), (7, false), (7, false), (4, true), (3, true), (2, true), (1, true), (0, true)] rfl).eq ?_⟩
  · clear hok H
    rfl
  · exact ⟨h_kind, (show i64ok (max epoch 0) by unfold i64ok; omega), (show i64ok 0 by unfold i64ok; omega), (show i64ok 0 by unfold i64ok; omega), (show 0 < 18446744073709551616 by omega), (show 0 < 18446744073709551616 by omega), (show i64ok (max cn 0) by unfold i64ok; omega), (show i64ok (max cm 0) by unfold i64ok; omega), (show i64ok (max cp 0) by unfold i64ok; omega), (show i64ok 0 by unfold i64ok; omega), emp_ok, emp_ok, ⟨(show i64ok 0 by unfold i64ok; omega), (show 0 < 18446744073709551616 by omega)⟩, ⟨(show i64ok 0 by unfold i64ok; omega), (show i64ok 0 by unfold i64ok; omega)⟩⟩
  · clear hok H
    rfl

set_option maxHeartbeats 1000000 in
theorem h_Fwd2 {I D : Dm} (b_x : Nat) (x : DMsg) (v0_x : Value) (v1_x : Value) (v2_x : Value) (v3_x : Value) (v4_x : Value) (b_stable : Nat) (stable : Int) (b_horizon : Nat) (horizon : Nat) (w : World) (h_x : okDMsg x) (h_stable : i64ok stable) (h_horizon : horizon < 18446744073709551616) (H : St I D w [BxC b_x 37 [.int .i64 x.k, .int .i64 x.epoch, .int .i64 x.req, .int .i64 x.serial, .bool x.flag, .int .u64 (x.at_ : Int), .int .u64 (x.last : Int), .int .i64 x.n, .int .i64 x.m, .int .i64 x.p, .int .i64 x.e, .string x.key, .string x.to_, .int .i64 x.conf.epoch, v0_x, .int .u64 (x.conf.floor : Int), .int .i64 x.batch.client, .int .i64 x.batch.req, v1_x, v2_x, v3_x, v4_x], BxC b_stable 3 [.int .i64 stable], BxC b_horizon 24 [.int .u64 (horizon : Int)]]) :
    Calls Try.prog 32 #[.pointer (some ⟨b_x, 0, none⟩), .pointer (some ⟨b_stable, 0, none⟩), .pointer (some ⟨b_horizon, 0, none⟩)] w (Ret fun r w' => r = .tuple #[] ∧ ∃ I', Hf I D w I' w' [BxC b_x 37 (cDMsg ({x with req := max stable 0, at_ := horizon} : DMsg) v0_x v1_x v2_x v3_x v4_x), BxC b_stable 3 [.int .i64 stable], BxC b_horizon 24 [.int .u64 (horizon : Int)]]) := by
  replace H := H.hf
  unfold i64ok at h_stable
  refine f_enter 13 Try.func32 rfl rfl (Nat.le_of_ble_eq_true rfl) fun a hok => ?_
  replace hok := hok.sub (ts := [0, 1, 2]) rfl
  refine f_regionL hok (by kernel_rfl) (by kernel_rfl) (by decide) (by decide) [7, 10] [(0, 0, 0), (0, 0, 1), (0, 0, 0), (4, 0, 0), (0, 0, 1), (13, 0, 0), (45, 0, 0), (109, 0, 0), (255, 1, 1), (511, 1, 1), (1023, 1, 1)] (by kernel_rfl) (fun jj vv => match jj with | 0 => vv = .pointer (some ⟨b_x, 0, none⟩) | 1 => vv = .pointer (some ⟨b_x, 0, none⟩) | 2 => vv = .int .i64 stable | 3 => vv = .int .i64 (max stable 0) | 4 => vv = .int .u64 (horizon : Int) | 5 => vv = .pointer (some ⟨b_x, 0, none⟩) | 6 => vv = .pointer (some ⟨b_x, 2, none⟩) | 7 => True | 8 => vv = .pointer (some ⟨b_x, 0, none⟩) | 9 => vv = .pointer (some ⟨b_x, 5, none⟩) | 10 => True | _ => True) (fun ss vals1 xw => match ss with | 0 => Gx I D w I w xw [BxC b_x 37 [.int .i64 x.k, .int .i64 x.epoch, .int .i64 x.req, .int .i64 x.serial, .bool x.flag, .int .u64 (x.at_ : Int), .int .u64 (x.last : Int), .int .i64 x.n, .int .i64 x.m, .int .i64 x.p, .int .i64 x.e, .string x.key, .string x.to_, .int .i64 x.conf.epoch, v0_x, .int .u64 (x.conf.floor : Int), .int .i64 x.batch.client, .int .i64 x.batch.req, v1_x, v2_x, v3_x, v4_x], BxC b_stable 3 [.int .i64 stable], BxC b_horizon 24 [.int .u64 (horizon : Int)]] | 1 => Gx I D w I w xw [BxC b_x 37 [.int .i64 x.k, .int .i64 x.epoch, .int .i64 (max stable 0), .int .i64 x.serial, .bool x.flag, .int .u64 (x.at_ : Int), .int .u64 (x.last : Int), .int .i64 x.n, .int .i64 x.m, .int .i64 x.p, .int .i64 x.e, .string x.key, .string x.to_, .int .i64 x.conf.epoch, v0_x, .int .u64 (x.conf.floor : Int), .int .i64 x.batch.client, .int .i64 x.batch.req, v1_x, v2_x, v3_x, v4_x], BxC b_stable 3 [.int .i64 stable], BxC b_horizon 24 [.int .u64 (horizon : Int)]] | _ => Gx I D w I w xw [BxC b_x 37 [.int .i64 x.k, .int .i64 x.epoch, .int .i64 (max stable 0), .int .i64 x.serial, .bool x.flag, .int .u64 (horizon : Int), .int .u64 (x.last : Int), .int .i64 x.n, .int .i64 x.m, .int .i64 x.p, .int .i64 x.e, .string x.key, .string x.to_, .int .i64 x.conf.epoch, v0_x, .int .u64 (x.conf.floor : Int), .int .i64 x.batch.client, .int .i64 x.batch.req, v1_x, v2_x, v3_x, v4_x], BxC b_stable 3 [.int .i64 stable], BxC b_horizon 24 [.int .u64 (horizon : Int)]]) (fun _ => Gx.start H) ?_ ?_
  · intro fr hfr hfe
    refine .cons (fun ss hlo hhi vals1 xw hG hF => ?_) ?_
    · obtain rfl : ss = 0 := Nat.le_antisymm hhi hlo
      rw [← hfe]
      have hS := (hfr vals1).sub (ts := [0]) (S' := [(0, .pointer (some ⟨b_x, 0, none⟩))]) rfl
      exact L_val hS rfl (Ob_c TB_Relay3 rfl) ⟨rfl, hG⟩
    refine .cons (fun ss hlo hhi vals1 xw hG hF => ?_) ?_
    · obtain rfl | rfl : ss = 0 ∨ ss = 1 := st1 hlo hhi
      · rw [← hfe]
        have hS := (hfr vals1).sub (ts := [0]) (S' := [(0, .pointer (some ⟨b_x, 0, none⟩))]) rfl
        exact L_val hS rfl (Ob_c TB_Relay3 rfl) ⟨rfl, hG⟩
      · rw [← hfe]
        have hS := (hfr vals1).sub (ts := [0]) (S' := [(0, .pointer (some ⟨b_x, 0, none⟩))]) rfl
        exact L_val hS rfl (Ob_c TB_Relay3 rfl) ⟨rfl, hG⟩
    refine .cons (fun ss hlo hhi vals1 xw hG hF => ?_) ?_
    · obtain rfl : ss = 0 := Nat.le_antisymm hhi hlo
      rw [← hfe]
      have hS := (hfr vals1).sub (ts := [1]) (S' := [(1, .pointer (some ⟨b_stable, 0, none⟩))]) rfl
      obtain ⟨I2, hI2, H⟩ := Gx.ex hG
      exact L_val hS rfl (Ob_load TB_Relay3 rfl rfl rfl ((H.bx 1 rfl).cell 0 rfl)) ⟨rfl, hG⟩
    refine .cons (fun ss hlo hhi vals1 xw hG hF => ?_) ?_
    · obtain rfl : ss = 0 := Nat.le_antisymm hhi hlo
      rw [← hfe]
      have hS := (hfr vals1).sub (ts := [6]) (S' := [(6, vals1 2)]) rfl
      have hf2 : vals1 2 = .int .i64 stable := hF 2 (by decide)
      replace hS := hS.conv (t := 6) rfl hf2
      exact L_val hS rfl (Ob_c TB_Relay3 rfl) ⟨rfl, hG⟩
    refine .cons (fun ss hlo hhi vals1 xw hG hF => ?_) ?_
    · obtain rfl | rfl : ss = 0 ∨ ss = 1 := st1 hlo hhi
      · rw [← hfe]
        have hS := (hfr vals1).sub (ts := [2]) (S' := [(2, .pointer (some ⟨b_horizon, 0, none⟩))]) rfl
        obtain ⟨I2, hI2, H⟩ := Gx.ex hG
        exact L_val hS rfl (Ob_load TB_Relay3 rfl rfl rfl ((H.bx 2 rfl).cell 0 rfl)) ⟨rfl, hG⟩
      · rw [← hfe]
        have hS := (hfr vals1).sub (ts := [2]) (S' := [(2, .pointer (some ⟨b_horizon, 0, none⟩))]) rfl
        obtain ⟨I2, hI2, H⟩ := Gx.ex hG
        exact L_val hS rfl (Ob_load TB_Relay3 rfl rfl rfl ((H.bx 2 rfl).cell 0 rfl)) ⟨rfl, hG⟩
    refine .cons (fun ss hlo hhi vals1 xw hG hF => ?_) ?_
    · obtain rfl : ss = 0 := Nat.le_antisymm hhi hlo
      rw [← hfe]
      have hS := (hfr vals1).sub (ts := [4]) (S' := [(4, vals1 0)]) rfl
      have hf0 : vals1 0 = .pointer (some ⟨b_x, 0, none⟩) := hF 0 (by decide)
      replace hS := hS.conv (t := 4) rfl hf0
      exact L_val hS rfl (Ob_c TB_Relay3 rfl) ⟨rfl, hG⟩
    refine .cons (fun ss hlo hhi vals1 xw hG hF => ?_) ?_
    · obtain rfl : ss = 0 := Nat.le_antisymm hhi hlo
      rw [← hfe]
      have hS := (hfr vals1).sub (ts := [9]) (S' := [(9, vals1 5)]) rfl
      have hf5 : vals1 5 = .pointer (some ⟨b_x, 0, none⟩) := hF 5 (by decide)
      replace hS := hS.conv (t := 9) rfl hf5
      exact L_val hS rfl (Ob_c TB_Relay3 rfl) ⟨rfl, hG⟩
    refine .cons (fun ss hlo hhi vals1 xw hG hF => ?_) ?_
    · obtain rfl : ss = 0 := Nat.le_antisymm hhi hlo
      rw [← hfe]
      have hS := (hfr vals1).sub (ts := [10, 7]) (S' := [(10, vals1 6), (7, vals1 3)]) rfl
      have hf6 : vals1 6 = .pointer (some ⟨b_x, 2, none⟩) := hF 6 (by decide)
      replace hS := hS.conv (t := 10) rfl hf6
      have hf3 : vals1 3 = .int .i64 (max stable 0) := hF 3 (by decide)
      replace hS := hS.conv (t := 7) rfl hf3
      obtain ⟨I2, hI2, H⟩ := Gx.ex hG
      exact L_store TB_Relay3 H 0 (us := [.int .i64 (max stable 0)]) (cl' := [.int .i64 x.k, .int .i64 x.epoch, .int .i64 (max stable 0), .int .i64 x.serial, .bool x.flag, .int .u64 (x.at_ : Int), .int .u64 (x.last : Int), .int .i64 x.n, .int .i64 x.m, .int .i64 x.p, .int .i64 x.e, .string x.key, .string x.to_, .int .i64 x.conf.epoch, v0_x, .int .u64 (x.conf.floor : Int), .int .i64 x.batch.client, .int .i64 x.batch.req, v1_x, v2_x, v3_x, v4_x]) rfl hS rfl rfl rfl rfl rfl rfl rfl rfl (by simp only [List.mem_cons, List.not_mem_nil, or_false]; rintro u rfl <;> rfl) (Nat.le_of_ble_eq_true rfl) rfl fun yw hK H => ⟨trivial, Gx.go hG hI2 hK (fun _ h => h) H⟩
    refine .cons (fun ss hlo hhi vals1 xw hG hF => ?_) ?_
    · obtain rfl : ss = 1 := Nat.le_antisymm hhi hlo
      rw [← hfe]
      have hS := (hfr vals1).sub (ts := [5]) (S' := [(5, vals1 1)]) rfl
      have hf1 : vals1 1 = .pointer (some ⟨b_x, 0, none⟩) := hF 1 (by decide)
      replace hS := hS.conv (t := 5) rfl hf1
      exact L_val hS rfl (Ob_c TB_Relay3 rfl) ⟨rfl, hG⟩
    refine .cons (fun ss hlo hhi vals1 xw hG hF => ?_) ?_
    · obtain rfl : ss = 1 := Nat.le_antisymm hhi hlo
      rw [← hfe]
      have hS := (hfr vals1).sub (ts := [11]) (S' := [(11, vals1 8)]) rfl
      have hf8 : vals1 8 = .pointer (some ⟨b_x, 0, none⟩) := hF 8 (by decide)
      replace hS := hS.conv (t := 11) rfl hf8
      exact L_val hS rfl (Ob_c TB_Relay3 rfl) ⟨rfl, hG⟩
    refine .cons (fun ss hlo hhi vals1 xw hG hF => ?_) ?_
    · obtain rfl : ss = 1 := Nat.le_antisymm hhi hlo
      rw [← hfe]
      have hS := (hfr vals1).sub (ts := [12, 8]) (S' := [(12, vals1 9), (8, vals1 4)]) rfl
      have hf9 : vals1 9 = .pointer (some ⟨b_x, 5, none⟩) := hF 9 (by decide)
      replace hS := hS.conv (t := 12) rfl hf9
      have hf4 : vals1 4 = .int .u64 (horizon : Int) := hF 4 (by decide)
      replace hS := hS.conv (t := 8) rfl hf4
      obtain ⟨I2, hI2, H⟩ := Gx.ex hG
      exact L_store TB_Relay3 H 0 (us := [.int .u64 (horizon : Int)]) (cl' := [.int .i64 x.k, .int .i64 x.epoch, .int .i64 (max stable 0), .int .i64 x.serial, .bool x.flag, .int .u64 (horizon : Int), .int .u64 (x.last : Int), .int .i64 x.n, .int .i64 x.m, .int .i64 x.p, .int .i64 x.e, .string x.key, .string x.to_, .int .i64 x.conf.epoch, v0_x, .int .u64 (x.conf.floor : Int), .int .i64 x.batch.client, .int .i64 x.batch.req, v1_x, v2_x, v3_x, v4_x]) rfl hS rfl rfl rfl rfl rfl rfl rfl rfl (by simp only [List.mem_cons, List.not_mem_nil, or_false]; rintro u rfl <;> rfl) (Nat.le_of_ble_eq_true rfl) rfl fun yw hK H => ⟨trivial, Gx.go hG hI2 hK (fun _ h => h) H⟩
    exact .nil
  · intro vals1 a w1 hok hG hF
    replace hok := hok.sub (ts := [0, 1, 2]) (S' := [(0, .pointer (some ⟨b_x, 0, none⟩)), (1, .pointer (some ⟨b_stable, 0, none⟩)), (2, .pointer (some ⟨b_horizon, 0, none⟩))]) rfl
    obtain ⟨I1, hI1, H⟩ := Gx.ex hG
    clear hG hF
    replace H : Hf I D w I1 w1 [BxC b_x 37 [.int .i64 x.k, .int .i64 x.epoch, .int .i64 (max stable 0), .int .i64 x.serial, .bool x.flag, .int .u64 (horizon : Int), .int .u64 (x.last : Int), .int .i64 x.n, .int .i64 x.m, .int .i64 x.p, .int .i64 x.e, .string x.key, .string x.to_, .int .i64 x.conf.epoch, v0_x, .int .u64 (x.conf.floor : Int), .int .i64 x.batch.client, .int .i64 x.batch.req, v1_x, v2_x, v3_x, v4_x], BxC b_stable 3 [.int .i64 stable], BxC b_horizon 24 [.int .u64 (horizon : Int)]] := H
    refine f_fall hok (run_results0 rfl) ?_
    refine ⟨?_, I1, (H.sub [(0, false), (0, false), (0, false)] rfl).eq ?_⟩
    · clear hok H
      rfl
    · clear hok H
      rfl

set_option maxHeartbeats 1000000 in
theorem h_Fwd1 {I D : Dm} (b_x : Nat) (x : DMsg) (v0_x : Value) (v1_x : Value) (v2_x : Value) (v3_x : Value) (v4_x : Value) (b_l : Nat) (v_l : Value) (l : List DEntry) (b_f : Nat) (f : Int) (b_to_ : Nat) (to_ : Int) (w : World) (h_x : okDMsg x) (h_f : i64ok f) (h_to_ : i64ok to_) (H : St I D w [BxC b_x 37 [.int .i64 x.k, .int .i64 x.epoch, .int .i64 x.req, .int .i64 x.serial, .bool x.flag, .int .u64 (x.at_ : Int), .int .u64 (x.last : Int), .int .i64 x.n, .int .i64 x.m, .int .i64 x.p, .int .i64 x.e, .string x.key, .string x.to_, .int .i64 x.conf.epoch, v0_x, .int .u64 (x.conf.floor : Int), .int .i64 x.batch.client, .int .i64 x.batch.req, v1_x, v2_x, v3_x, v4_x], BxC b_l 22 [v_l], SlC RDEntry (v_l) l, BxC b_f 3 [.int .i64 f], BxC b_to_ 3 [.int .i64 to_]]) (hf0 : 0 ≤ f ∧ f ≤ to_ ∧ to_ ≤ l.length) (hb : to_ - f ≤ 1000) :
    Calls Try.prog 30 #[.pointer (some ⟨b_x, 0, none⟩), .pointer (some ⟨b_l, 0, none⟩), .pointer (some ⟨b_f, 0, none⟩), .pointer (some ⟨b_to_, 0, none⟩)] w (Ret fun r w' => ∃ z0 : Value, r = .tuple #[] ∧ ∃ I', Hf I D w I' w' [BxC b_x 37 (cDMsg ({x with entries := (l.take to_.toNat).drop f.toNat} : DMsg) v0_x v1_x z0 v3_x v4_x), SlC RDEntry (z0) (({x with entries := (l.take to_.toNat).drop f.toNat} : DMsg).entries), BxC b_l 22 [v_l], BxC b_f 3 [.int .i64 f], BxC b_to_ 3 [.int .i64 to_]]) := by
  replace H := H.hf
  obtain ⟨ao_v_l, cap_v_l, rfl, hc_v_l, hm_v_l⟩ := H.slshape 2 rfl
  unfold maxLen at hm_v_l
  unfold i64ok at h_f
  unfold i64ok at h_to_
  refine f_enter 13 Try.func30 rfl rfl (Nat.le_of_ble_eq_true rfl) fun a hok => ?_
  replace hok := hok.sub (ts := [0, 1, 2, 3]) rfl
  refine f_region hok ?_; clear hok; intro hok
  refine s_runk TB_Relay3 hok 1 rfl rfl ?_; clear hok a; intro a hok
  refine s_ob hok (v := .slice ao_v_l l.length cap_v_l) rfl rfl (by decide) rfl (Ob_load TB_Relay3 rfl rfl rfl ((H.bx 1 rfl).cell 0 rfl)) ?_; clear hok a; intro a hok
  refine s_ob hok (v := .int .i64 f) rfl rfl (by decide) rfl (Ob_load TB_Relay3 rfl rfl rfl ((H.bx 3 rfl).cell 0 rfl)) ?_; clear hok a; intro a hok
  refine s_ob hok (v := .int .i64 to_) rfl rfl (by decide) rfl (Ob_load TB_Relay3 rfl rfl rfl ((H.bx 4 rfl).cell 0 rfl)) ?_; clear hok a; intro a hok
  have hs1 : f.toNat ≤ to_.toNat ∧ to_.toNat ≤ l.length := by constructor <;> omega
  replace H := H.addsl ((H.sl 2 rfl).sub 4 f.toNat to_.toNat rfl hs1.1 (by have := hs1.2; simpa using this))
  refine s_ob hok (v := .slice (subA ao_v_l cap_v_l f.toNat 4) (to_.toNat - f.toNat) (cap_v_l - f.toNat)) rfl rfl (by decide) rfl (Ob_sl_of TB_Relay3 (f.toNat) (to_.toNat) rfl rfl rfl rfl rfl (by omega) (by omega) hs1.1 (Nat.le_trans hs1.2 hc_v_l)) ?_; clear hok a; intro a hok
  refine s_call hok fn_31_Relay3 (caps := #[]) rfl rfl rfl rfl rfl (by decide) rfl rfl (c_Clone_Entry _ ((l.take to_.toNat).drop f.toNat) _ (H.sl 0 rfl) (by first | omega | rfl | (simp only [List.length_drop, List.length_take, List.length_append, List.length_cons, List.length_nil]; omega))) ?_; clear hok a; intro _ a w1 hr hok
  obtain ⟨q1, rfl, L1, hb⟩ := hr
  obtain ⟨ao_q1, cap_q1, rfl, hc_q1, hm_q1⟩ := L1.shape
  unfold maxLen at hm_q1
  obtain ⟨I1, hI1, H⟩ := H.fresh hb
  replace H := H.addsl (L1.inI hI1 (fun k h => by rcases h with h | h <;> first | exact .inl h | exact .inr h | exact h.elim))
  clear hb hI1
  refine s_runk TB_Relay3 hok 2 rfl rfl ?_; clear hok a; intro a hok
  refine h_store TB_Relay3 hok H 2 (us := [.slice ao_q1 (((l.take to_.toNat).drop f.toNat).length) cap_q1]) (cl' := [.int .i64 x.k, .int .i64 x.epoch, .int .i64 x.req, .int .i64 x.serial, .bool x.flag, .int .u64 (x.at_ : Int), .int .u64 (x.last : Int), .int .i64 x.n, .int .i64 x.m, .int .i64 x.p, .int .i64 x.e, .string x.key, .string x.to_, .int .i64 x.conf.epoch, v0_x, .int .u64 (x.conf.floor : Int), .int .i64 x.batch.client, .int .i64 x.batch.req, v1_x, .slice ao_q1 (((l.take to_.toNat).drop f.toNat).length) cap_q1, v3_x, v4_x]) rfl rfl rfl rfl rfl rfl rfl rfl rfl (by simp only [List.mem_cons, List.not_mem_nil, or_false]; rintro u rfl <;> rfl) (Nat.le_of_ble_eq_true rfl) rfl ?_; clear H; intro w2 H
  dsimp only [List.eraseIdx] at H
  refine s_end hok [0, 1, 2, 3] rfl ?_; clear hok; intro hok
  refine f_fall hok (run_results0 rfl) ?_
  refine ⟨.slice ao_q1 (((l.take to_.toNat).drop f.toNat).length) cap_q1, ?_, I1, (H.sub [(0, false), (0, true), (2, false), (3, false), (3, false)] rfl).eq ?_⟩
  · clear hok H
    rfl
  · clear hok H
    rfl

set_option maxHeartbeats 1000000 in
theorem h_made_Fwd {I D : Dm} (kind : Int) (epoch : Int) (b_l : Nat) (b_cn : Nat) (cn : Int) (b_cm : Nat) (cm : Int) (b_cp : Nat) (cp : Int) (b_stable : Nat) (stable : Int) (b_horizon : Nat) (horizon : Nat) (b_es : Nat) (v_es : Value) (es : List DEntry) (b_f : Nat) (f : Int) (b_to_ : Nat) (to_ : Int) (w : World) (h_kind : i64ok kind) (h_epoch : i64ok epoch) (h_cn : i64ok cn) (h_cm : i64ok cm) (h_cp : i64ok cp) (h_stable : i64ok stable) (h_horizon : horizon < 18446744073709551616) (h_f : i64ok f) (h_to_ : i64ok to_) (H : St I D w [BxC b_l 66 [.func (.func 54) #[] #[.pointer (some ⟨b_cn, 0, none⟩), .pointer (some ⟨b_cm, 0, none⟩), .pointer (some ⟨b_cp, 0, none⟩)], .func (.func 32) #[] #[.pointer (some ⟨b_stable, 0, none⟩), .pointer (some ⟨b_horizon, 0, none⟩)], .func (.func 30) #[] #[.pointer (some ⟨b_es, 0, none⟩), .pointer (some ⟨b_f, 0, none⟩), .pointer (some ⟨b_to_, 0, none⟩)]], BxC b_cn 3 [.int .i64 cn], BxC b_cm 3 [.int .i64 cm], BxC b_cp 3 [.int .i64 cp], BxC b_stable 3 [.int .i64 stable], BxC b_horizon 24 [.int .u64 (horizon : Int)], BxC b_es 22 [v_es], SlC RDEntry (v_es) es, BxC b_f 3 [.int .i64 f], BxC b_to_ 3 [.int .i64 to_]]) (hf : 0 ≤ f ∧ f ≤ to_ ∧ to_ ≤ es.length) (hll : to_ - f ≤ 1000) :
    Calls Try.prog 33 #[.int .i64 kind, .int .i64 epoch, .slice (some ⟨b_l, 0, none⟩) 3 3] w (Ret fun r w' => ∃ q0 q1 q2 q3 q4 : Value, r = .agg (cDMsg (msgM kind epoch cn cm cp (max stable 0) horizon ((es.take to_.toNat).drop f.toNat) []) q0 q1 q2 q3 q4).toArray ∧ okDMsg (msgM kind epoch cn cm cp (max stable 0) horizon ((es.take to_.toNat).drop f.toNat) []) ∧ ∃ I', Hf I D w I' w' [BxC b_cn 3 [.int .i64 cn], BxC b_cm 3 [.int .i64 cm], BxC b_cp 3 [.int .i64 cp], BxC b_stable 3 [.int .i64 stable], BxC b_horizon 24 [.int .u64 (horizon : Int)], BxC b_es 22 [v_es], BxC b_f 3 [.int .i64 f], BxC b_to_ 3 [.int .i64 to_], SlC RDMember (q0) ((msgM kind epoch cn cm cp (max stable 0) horizon ((es.take to_.toNat).drop f.toNat) []).conf.members), SlC RDOp (q1) ((msgM kind epoch cn cm cp (max stable 0) horizon ((es.take to_.toNat).drop f.toNat) []).batch.ops), SlC RDEntry (q2) ((msgM kind epoch cn cm cp (max stable 0) horizon ((es.take to_.toNat).drop f.toNat) []).entries), SlC RU (q3) ((msgM kind epoch cn cm cp (max stable 0) horizon ((es.take to_.toNat).drop f.toNat) []).stamps), SlC RDPair (q4) ((msgM kind epoch cn cm cp (max stable 0) horizon ((es.take to_.toNat).drop f.toNat) []).pairs)]) := by
  replace H := H.hf
  obtain ⟨ao_v_es, cap_v_es, rfl, hc_v_es, hm_v_es⟩ := H.slshape 7 rfl
  unfold maxLen at hm_v_es
  unfold i64ok at h_kind
  unfold i64ok at h_epoch
  unfold i64ok at h_cn
  unfold i64ok at h_cm
  unfold i64ok at h_cp
  unfold i64ok at h_stable
  unfold i64ok at h_f
  unfold i64ok at h_to_
  refine f_enter 24 Try.func33 rfl rfl (Nat.le_of_ble_eq_true rfl) fun a hok => ?_
  replace hok := hok.sub (ts := [0, 1, 2]) rfl
  refine wp_seq ?_
  refine f_region hok ?_; clear hok; intro hok
  refine h_alloc hok H (cl := [.int .i64 0, .int .i64 0, .int .i64 0, .int .i64 0, .bool false, .int .u64 0, .int .u64 0, .int .i64 0, .int .i64 0, .int .i64 0, .int .i64 0, .string ByteArray.empty, .string ByteArray.empty, .int .i64 0, .slice none 0 0, .int .u64 0, .int .i64 0, .int .i64 0, .slice none 0 0, .slice none 0 0, .slice none 0 0, .slice none 0 0]) (z := .agg #[.int .i64 0, .int .i64 0, .int .i64 0, .int .i64 0, .bool false, .int .u64 0, .int .u64 0, .int .i64 0, .int .i64 0, .int .i64 0, .int .i64 0, .string ByteArray.empty, .string ByteArray.empty, .int .i64 0, .slice none 0 0, .int .u64 0, .int .i64 0, .int .i64 0, .slice none 0 0, .slice none 0 0, .slice none 0 0, .slice none 0 0]) rfl rfl rfl (by decide) rfl (by kernel_rfl) rfl ?_; clear hok a H; intro a w1 b1 H hok
  refine s_end hok [0, 1, 2, 6] rfl ?_; clear hok; intro hok
  refine p_then ?_
  refine wp_seq ?_
  refine f_region hok ?_; clear hok; intro hok
  refine s_runk TB_Relay3 hok 3 rfl rfl ?_; clear hok a; intro a hok
  refine s_ob hok (v := .agg #[.int .i64 kind, .int .i64 (max epoch 0), .int .i64 0, .int .i64 0, .bool false, .int .u64 0, .int .u64 0, .int .i64 0, .int .i64 0, .int .i64 0, .int .i64 0, .string ByteArray.empty, .string ByteArray.empty, .int .i64 0, .slice none 0 0, .int .u64 0, .int .i64 0, .int .i64 0, .slice none 0 0, .slice none 0 0, .slice none 0 0, .slice none 0 0]) rfl rfl (by decide) rfl (Ob_build (vs := [(0, .int .i64 kind), (1, .int .i64 (max epoch 0))]) rfl rfl (by go_simp <;> rfl)) ?_; clear hok a; intro a hok
  refine h_alloc hok H (cl := [.int .i64 0, .int .i64 0, .int .i64 0, .int .i64 0, .bool false, .int .u64 0, .int .u64 0, .int .i64 0, .int .i64 0, .int .i64 0, .int .i64 0, .string ByteArray.empty, .string ByteArray.empty, .int .i64 0, .slice none 0 0, .int .u64 0, .int .i64 0, .int .i64 0, .slice none 0 0, .slice none 0 0, .slice none 0 0, .slice none 0 0]) (z := .agg #[.int .i64 0, .int .i64 0, .int .i64 0, .int .i64 0, .bool false, .int .u64 0, .int .u64 0, .int .i64 0, .int .i64 0, .int .i64 0, .int .i64 0, .string ByteArray.empty, .string ByteArray.empty, .int .i64 0, .slice none 0 0, .int .u64 0, .int .i64 0, .int .i64 0, .slice none 0 0, .slice none 0 0, .slice none 0 0, .slice none 0 0]) rfl rfl rfl (by decide) rfl (by kernel_rfl) rfl ?_; clear hok a H; intro a w2 b2 H hok
  refine h_store TB_Relay3 hok H 0 (us := [.int .i64 kind, .int .i64 (max epoch 0), .int .i64 0, .int .i64 0, .bool false, .int .u64 0, .int .u64 0, .int .i64 0, .int .i64 0, .int .i64 0, .int .i64 0, .string ByteArray.empty, .string ByteArray.empty, .int .i64 0, .slice none 0 0, .int .u64 0, .int .i64 0, .int .i64 0, .slice none 0 0, .slice none 0 0, .slice none 0 0, .slice none 0 0]) (cl' := [.int .i64 kind, .int .i64 (max epoch 0), .int .i64 0, .int .i64 0, .bool false, .int .u64 0, .int .u64 0, .int .i64 0, .int .i64 0, .int .i64 0, .int .i64 0, .string ByteArray.empty, .string ByteArray.empty, .int .i64 0, .slice none 0 0, .int .u64 0, .int .i64 0, .int .i64 0, .slice none 0 0, .slice none 0 0, .slice none 0 0, .slice none 0 0]) rfl rfl rfl rfl rfl rfl rfl rfl rfl (ones_all rfl) (Nat.le_of_ble_eq_true rfl) (putCells_all rfl) ?_; clear H; intro w3 H
  dsimp only [List.eraseIdx] at H
  refine s_end hok [0, 1, 2, 6, 7] rfl ?_; clear hok; intro hok
  refine p_then ?_
  refine wp_seq ?_
  refine wp_seq ?_
  refine f_region hok ?_; clear hok; intro hok
  refine s_runk TB_Relay3 hok 3 rfl rfl ?_; clear hok a; intro a hok
  refine s_end hok [0, 1, 2, 6, 7, 14, 15, 16] rfl ?_; clear hok; intro hok
  refine p_then ?_
  refine wp_block ?_
  refine wp_loop_rounds 4 ?_
  refine rounds_in ?_
  refine wp_seq ?_
  refine f_region hok ?_; clear hok; intro hok
  refine s_runk TB_Relay3 hok 1 rfl rfl ?_; clear hok a; intro a hok
  refine s_end hok [0, 1, 2, 6, 7, 14, 15, 16, 17] rfl ?_; clear hok; intro hok
  refine p_then ?_
  refine wp_seq ?_
  refine wp_cond_true (hok.ev rfl) ?_
  refine wp_skip ?_
  refine p_then ?_
  refine wp_seq ?_
  refine wp_block ?_
  refine wp_seq ?_
  refine f_region hok ?_; clear hok; intro hok
  refine s_ob hok (v := .pointer (some ⟨b_l, 0, none⟩)) rfl rfl (by decide) rfl (Ob_idx (b := b_l) (off := 0) (m := 1) TB_Relay3 (0) rfl rfl rfl rfl rfl rfl (show 0 < 3 from by decide)) ?_; clear hok a; intro a hok
  refine s_ob hok (v := .func (.func 54) #[] #[.pointer (some ⟨b_cn, 0, none⟩), .pointer (some ⟨b_cm, 0, none⟩), .pointer (some ⟨b_cp, 0, none⟩)]) rfl rfl (by decide) rfl (Ob_load TB_Relay3 rfl rfl rfl ((H.bx 2 rfl).cell 0 rfl)) ?_; clear hok a; intro a hok
  refine s_runk TB_Relay3 hok 1 rfl rfl ?_; clear hok a; intro a hok
  refine s_end hok [0, 1, 2, 6, 7, 14, 15, 16, 17, 9] rfl ?_; clear hok; intro hok
  refine p_then ?_
  refine f_region hok ?_; clear hok; intro hok
  refine s_runk TB_Relay3 hok 1 rfl rfl ?_; clear hok a; intro a hok
  refine h_call hok H (js := [(0, false), (2, false), (2, false), (2, false)]) rfl (caps := #[.pointer (some ⟨b_cn, 0, none⟩), .pointer (some ⟨b_cm, 0, none⟩), .pointer (some ⟨b_cp, 0, none⟩)]) fn_54_Relay3 rfl rfl rfl rfl rfl (by decide) rfl rfl (fun D1 hS => h_counts1 _ (⟨kind, max epoch 0, 0, 0, false, 0, 0, 0, 0, 0, 0, ByteArray.empty, ByteArray.empty, (⟨0, [], 0⟩ : DConf), (⟨0, 0, []⟩ : DBatch), [], [], []⟩ : DMsg) _ _ _ _ _ _ cn _ cm _ cp _ ⟨h_kind, (show i64ok (max epoch 0) by unfold i64ok; omega), (show i64ok 0 by unfold i64ok; omega), (show i64ok 0 by unfold i64ok; omega), (show 0 < 18446744073709551616 by omega), (show 0 < 18446744073709551616 by omega), (show i64ok 0 by unfold i64ok; omega), (show i64ok 0 by unfold i64ok; omega), (show i64ok 0 by unfold i64ok; omega), (show i64ok 0 by unfold i64ok; omega), emp_ok, emp_ok, ⟨(show i64ok 0 by unfold i64ok; omega), (show 0 < 18446744073709551616 by omega)⟩, ⟨(show i64ok 0 by unfold i64ok; omega), (show i64ok 0 by unfold i64ok; omega)⟩⟩ h_cn h_cm h_cp hS) ?_; clear hok a H; intro _ a w4 D1 hr hF hok
  obtain ⟨rfl, I1, H⟩ := hr
  replace H : Hf I D w I1 w4 [BxC b2 37 [.int .i64 kind, .int .i64 (max epoch 0), .int .i64 0, .int .i64 0, .bool false, .int .u64 0, .int .u64 0, .int .i64 (max cn 0), .int .i64 (max cm 0), .int .i64 (max cp 0), .int .i64 0, .string ByteArray.empty, .string ByteArray.empty, .int .i64 0, .slice none 0 0, .int .u64 0, .int .i64 0, .int .i64 0, .slice none 0 0, .slice none 0 0, .slice none 0 0, .slice none 0 0], BxC b_cn 3 [.int .i64 cn], BxC b_cm 3 [.int .i64 cm], BxC b_cp 3 [.int .i64 cp], BxC b1 37 [.int .i64 0, .int .i64 0, .int .i64 0, .int .i64 0, .bool false, .int .u64 0, .int .u64 0, .int .i64 0, .int .i64 0, .int .i64 0, .int .i64 0, .string ByteArray.empty, .string ByteArray.empty, .int .i64 0, .slice none 0 0, .int .u64 0, .int .i64 0, .int .i64 0, .slice none 0 0, .slice none 0 0, .slice none 0 0, .slice none 0 0], BxC b_l 66 [.func (.func 54) #[] #[.pointer (some ⟨b_cn, 0, none⟩), .pointer (some ⟨b_cm, 0, none⟩), .pointer (some ⟨b_cp, 0, none⟩)], .func (.func 32) #[] #[.pointer (some ⟨b_stable, 0, none⟩), .pointer (some ⟨b_horizon, 0, none⟩)], .func (.func 30) #[] #[.pointer (some ⟨b_es, 0, none⟩), .pointer (some ⟨b_f, 0, none⟩), .pointer (some ⟨b_to_, 0, none⟩)]], BxC b_stable 3 [.int .i64 stable], BxC b_horizon 24 [.int .u64 (horizon : Int)], BxC b_es 22 [.slice ao_v_es es.length cap_v_es], SlC RDEntry (.slice ao_v_es es.length cap_v_es) es, BxC b_f 3 [.int .i64 f], BxC b_to_ 3 [.int .i64 to_]] := hF H
  clear hF
  refine s_end hok [0, 1, 2, 6, 7, 14, 15, 16, 17, 9] rfl ?_; clear hok; intro hok
  refine p_blk ?_
  refine p_then ?_
  refine f_region hok ?_; clear hok; intro hok
  refine s_ob hok (v := .int .i64 1) rfl rfl (by decide) rfl (Ob_add rfl rfl rfl (by decide)) ?_; clear hok a; intro a hok
  refine s_runk TB_Relay3 hok 1 rfl rfl ?_; clear hok a; intro a hok
  refine s_end hok [0, 1, 2, 6, 7, 14, 15, 16, 17, 9] rfl ?_; clear hok; intro hok
  refine p_then ?_
  refine rounds_in ?_
  refine wp_seq ?_
  refine f_region hok ?_; clear hok; intro hok
  refine s_runk TB_Relay3 hok 1 rfl rfl ?_; clear hok a; intro a hok
  refine s_end hok [0, 1, 2, 6, 7, 14, 15, 16, 17, 9] rfl ?_; clear hok; intro hok
  refine p_then ?_
  refine wp_seq ?_
  refine wp_cond_true (hok.ev rfl) ?_
  refine wp_skip ?_
  refine p_then ?_
  refine wp_seq ?_
  refine wp_block ?_
  refine wp_seq ?_
  refine f_region hok ?_; clear hok; intro hok
  refine s_ob hok (v := .pointer (some ⟨b_l, 1, none⟩)) rfl rfl (by decide) rfl (Ob_idx (b := b_l) (off := 0) (m := 1) TB_Relay3 (1) rfl rfl rfl rfl rfl rfl (show 1 < 3 from by decide)) ?_; clear hok a; intro a hok
  refine s_ob hok (v := .func (.func 32) #[] #[.pointer (some ⟨b_stable, 0, none⟩), .pointer (some ⟨b_horizon, 0, none⟩)]) rfl rfl (by decide) rfl (Ob_load TB_Relay3 rfl rfl rfl ((H.bx 5 rfl).cell 1 rfl)) ?_; clear hok a; intro a hok
  refine s_runk TB_Relay3 hok 1 rfl rfl ?_; clear hok a; intro a hok
  refine s_end hok [0, 1, 2, 6, 7, 14, 15, 16, 17, 9] rfl ?_; clear hok; intro hok
  refine p_then ?_
  refine f_region hok ?_; clear hok; intro hok
  refine s_runk TB_Relay3 hok 1 rfl rfl ?_; clear hok a; intro a hok
  refine h_call hok H (js := [(0, false), (5, false), (5, false)]) rfl (caps := #[.pointer (some ⟨b_stable, 0, none⟩), .pointer (some ⟨b_horizon, 0, none⟩)]) fn_32_Relay3 rfl rfl rfl rfl rfl (by decide) rfl rfl (fun D1 hS => h_Fwd2 _ (⟨kind, max epoch 0, 0, 0, false, 0, 0, max cn 0, max cm 0, max cp 0, 0, ByteArray.empty, ByteArray.empty, (⟨0, [], 0⟩ : DConf), (⟨0, 0, []⟩ : DBatch), [], [], []⟩ : DMsg) _ _ _ _ _ _ stable _ horizon _ ⟨h_kind, (show i64ok (max epoch 0) by unfold i64ok; omega), (show i64ok 0 by unfold i64ok; omega), (show i64ok 0 by unfold i64ok; omega), (show 0 < 18446744073709551616 by omega), (show 0 < 18446744073709551616 by omega), (show i64ok (max cn 0) by unfold i64ok; omega), (show i64ok (max cm 0) by unfold i64ok; omega), (show i64ok (max cp 0) by unfold i64ok; omega), (show i64ok 0 by unfold i64ok; omega), emp_ok, emp_ok, ⟨(show i64ok 0 by unfold i64ok; omega), (show 0 < 18446744073709551616 by omega)⟩, ⟨(show i64ok 0 by unfold i64ok; omega), (show i64ok 0 by unfold i64ok; omega)⟩⟩ h_stable h_horizon hS) ?_; clear hok a H; intro _ a w5 D1 hr hF hok
  obtain ⟨rfl, I2, H⟩ := hr
  replace H : Hf I D w I2 w5 [BxC b2 37 [.int .i64 kind, .int .i64 (max epoch 0), .int .i64 (max stable 0), .int .i64 0, .bool false, .int .u64 (horizon : Int), .int .u64 0, .int .i64 (max cn 0), .int .i64 (max cm 0), .int .i64 (max cp 0), .int .i64 0, .string ByteArray.empty, .string ByteArray.empty, .int .i64 0, .slice none 0 0, .int .u64 0, .int .i64 0, .int .i64 0, .slice none 0 0, .slice none 0 0, .slice none 0 0, .slice none 0 0], BxC b_stable 3 [.int .i64 stable], BxC b_horizon 24 [.int .u64 (horizon : Int)], BxC b_cn 3 [.int .i64 cn], BxC b_cm 3 [.int .i64 cm], BxC b_cp 3 [.int .i64 cp], BxC b1 37 [.int .i64 0, .int .i64 0, .int .i64 0, .int .i64 0, .bool false, .int .u64 0, .int .u64 0, .int .i64 0, .int .i64 0, .int .i64 0, .int .i64 0, .string ByteArray.empty, .string ByteArray.empty, .int .i64 0, .slice none 0 0, .int .u64 0, .int .i64 0, .int .i64 0, .slice none 0 0, .slice none 0 0, .slice none 0 0, .slice none 0 0], BxC b_l 66 [.func (.func 54) #[] #[.pointer (some ⟨b_cn, 0, none⟩), .pointer (some ⟨b_cm, 0, none⟩), .pointer (some ⟨b_cp, 0, none⟩)], .func (.func 32) #[] #[.pointer (some ⟨b_stable, 0, none⟩), .pointer (some ⟨b_horizon, 0, none⟩)], .func (.func 30) #[] #[.pointer (some ⟨b_es, 0, none⟩), .pointer (some ⟨b_f, 0, none⟩), .pointer (some ⟨b_to_, 0, none⟩)]], BxC b_es 22 [.slice ao_v_es es.length cap_v_es], SlC RDEntry (.slice ao_v_es es.length cap_v_es) es, BxC b_f 3 [.int .i64 f], BxC b_to_ 3 [.int .i64 to_]] := hF H
  clear hF
  refine s_end hok [0, 1, 2, 6, 7, 14, 15, 16, 17, 9] rfl ?_; clear hok; intro hok
  refine p_blk ?_
  refine p_then ?_
  refine f_region hok ?_; clear hok; intro hok
  refine s_ob hok (v := .int .i64 2) rfl rfl (by decide) rfl (Ob_add rfl rfl rfl (by decide)) ?_; clear hok a; intro a hok
  refine s_runk TB_Relay3 hok 1 rfl rfl ?_; clear hok a; intro a hok
  refine s_end hok [0, 1, 2, 6, 7, 14, 15, 16, 17, 9] rfl ?_; clear hok; intro hok
  refine p_then ?_
  refine rounds_in ?_
  refine wp_seq ?_
  refine f_region hok ?_; clear hok; intro hok
  refine s_runk TB_Relay3 hok 1 rfl rfl ?_; clear hok a; intro a hok
  refine s_end hok [0, 1, 2, 6, 7, 14, 15, 16, 17, 9] rfl ?_; clear hok; intro hok
  refine p_then ?_
  refine wp_seq ?_
  refine wp_cond_true (hok.ev rfl) ?_
  refine wp_skip ?_
  refine p_then ?_
  refine wp_seq ?_
  refine wp_block ?_
  refine wp_seq ?_
  refine f_region hok ?_; clear hok; intro hok
  refine s_ob hok (v := .pointer (some ⟨b_l, 2, none⟩)) rfl rfl (by decide) rfl (Ob_idx (b := b_l) (off := 0) (m := 1) TB_Relay3 (2) rfl rfl rfl rfl rfl rfl (show 2 < 3 from by decide)) ?_; clear hok a; intro a hok
  refine s_ob hok (v := .func (.func 30) #[] #[.pointer (some ⟨b_es, 0, none⟩), .pointer (some ⟨b_f, 0, none⟩), .pointer (some ⟨b_to_, 0, none⟩)]) rfl rfl (by decide) rfl (Ob_load TB_Relay3 rfl rfl rfl ((H.bx 7 rfl).cell 2 rfl)) ?_; clear hok a; intro a hok
  refine s_runk TB_Relay3 hok 1 rfl rfl ?_; clear hok a; intro a hok
  refine s_end hok [0, 1, 2, 6, 7, 14, 15, 16, 17, 9] rfl ?_; clear hok; intro hok
  refine p_then ?_
  refine f_region hok ?_; clear hok; intro hok
  refine s_runk TB_Relay3 hok 1 rfl rfl ?_; clear hok a; intro a hok
  refine h_call hok H (js := [(0, false), (7, false), (7, true), (8, false), (8, false)]) rfl (caps := #[.pointer (some ⟨b_es, 0, none⟩), .pointer (some ⟨b_f, 0, none⟩), .pointer (some ⟨b_to_, 0, none⟩)]) fn_30_Relay3 rfl rfl rfl rfl rfl (by decide) rfl rfl (fun D1 hS => h_Fwd1 _ (⟨kind, max epoch 0, max stable 0, 0, false, horizon, 0, max cn 0, max cm 0, max cp 0, 0, ByteArray.empty, ByteArray.empty, (⟨0, [], 0⟩ : DConf), (⟨0, 0, []⟩ : DBatch), [], [], []⟩ : DMsg) _ _ _ _ _ _ _ es _ f _ to_ _ ⟨h_kind, (show i64ok (max epoch 0) by unfold i64ok; omega), (show i64ok (max stable 0) by unfold i64ok; omega), (show i64ok 0 by unfold i64ok; omega), (show horizon < 18446744073709551616 by omega), (show 0 < 18446744073709551616 by omega), (show i64ok (max cn 0) by unfold i64ok; omega), (show i64ok (max cm 0) by unfold i64ok; omega), (show i64ok (max cp 0) by unfold i64ok; omega), (show i64ok 0 by unfold i64ok; omega), emp_ok, emp_ok, ⟨(show i64ok 0 by unfold i64ok; omega), (show 0 < 18446744073709551616 by omega)⟩, ⟨(show i64ok 0 by unfold i64ok; omega), (show i64ok 0 by unfold i64ok; omega)⟩⟩ h_f h_to_ hS (by first | omega | rfl | (simp only [List.length_drop, List.length_take, List.length_append, List.length_cons, List.length_nil]; omega)) (by first | omega | rfl | (simp only [List.length_drop, List.length_take, List.length_append, List.length_cons, List.length_nil]; omega))) ?_; clear hok a H; intro _ a w6 D1 hr hF hok
  obtain ⟨q1, rfl, I3, H⟩ := hr
  replace H : Hf I D w I3 w6 [BxC b2 37 [.int .i64 kind, .int .i64 (max epoch 0), .int .i64 (max stable 0), .int .i64 0, .bool false, .int .u64 (horizon : Int), .int .u64 0, .int .i64 (max cn 0), .int .i64 (max cm 0), .int .i64 (max cp 0), .int .i64 0, .string ByteArray.empty, .string ByteArray.empty, .int .i64 0, .slice none 0 0, .int .u64 0, .int .i64 0, .int .i64 0, .slice none 0 0, q1, .slice none 0 0, .slice none 0 0], SlC RDEntry (q1) ((es.take to_.toNat).drop f.toNat), BxC b_es 22 [.slice ao_v_es es.length cap_v_es], BxC b_f 3 [.int .i64 f], BxC b_to_ 3 [.int .i64 to_], BxC b_stable 3 [.int .i64 stable], BxC b_horizon 24 [.int .u64 (horizon : Int)], BxC b_cn 3 [.int .i64 cn], BxC b_cm 3 [.int .i64 cm], BxC b_cp 3 [.int .i64 cp], BxC b1 37 [.int .i64 0, .int .i64 0, .int .i64 0, .int .i64 0, .bool false, .int .u64 0, .int .u64 0, .int .i64 0, .int .i64 0, .int .i64 0, .int .i64 0, .string ByteArray.empty, .string ByteArray.empty, .int .i64 0, .slice none 0 0, .int .u64 0, .int .i64 0, .int .i64 0, .slice none 0 0, .slice none 0 0, .slice none 0 0, .slice none 0 0], BxC b_l 66 [.func (.func 54) #[] #[.pointer (some ⟨b_cn, 0, none⟩), .pointer (some ⟨b_cm, 0, none⟩), .pointer (some ⟨b_cp, 0, none⟩)], .func (.func 32) #[] #[.pointer (some ⟨b_stable, 0, none⟩), .pointer (some ⟨b_horizon, 0, none⟩)], .func (.func 30) #[] #[.pointer (some ⟨b_es, 0, none⟩), .pointer (some ⟨b_f, 0, none⟩), .pointer (some ⟨b_to_, 0, none⟩)]], SlC RDEntry (.slice ao_v_es es.length cap_v_es) es] := hF H
  clear hF
  obtain ⟨ao_q1, cap_q1, rfl, hc_q1, hm_q1⟩ := H.slshape 1 rfl
  unfold maxLen at hm_q1
  refine s_end hok [0, 1, 2, 6, 7, 14, 15, 16, 17, 9] rfl ?_; clear hok; intro hok
  refine p_blk ?_
  refine p_then ?_
  refine f_region hok ?_; clear hok; intro hok
  refine s_ob hok (v := .int .i64 3) rfl rfl (by decide) rfl (Ob_add rfl rfl rfl (by decide)) ?_; clear hok a; intro a hok
  refine s_runk TB_Relay3 hok 1 rfl rfl ?_; clear hok a; intro a hok
  refine s_end hok [0, 1, 2, 6, 7, 14, 15, 16, 17, 9] rfl ?_; clear hok; intro hok
  refine p_then ?_
  refine rounds_in ?_
  refine wp_seq ?_
  refine f_region hok ?_; clear hok; intro hok
  refine s_runk TB_Relay3 hok 1 rfl rfl ?_; clear hok a; intro a hok
  refine s_end hok [0, 1, 2, 6, 7, 14, 15, 16, 17, 9] rfl ?_; clear hok; intro hok
  refine p_then ?_
  refine wp_seq ?_
  refine wp_cond_false (hok.ev rfl) ?_
  refine wp_exit ?_
  refine p_then_x ?_
  refine p_then_x ?_
  refine f_exit_here ?_
  refine p_then ?_
  refine wp_seq ?_
  refine f_region hok ?_; clear hok; intro hok
  refine s_ob hok (v := .agg #[.int .i64 kind, .int .i64 (max epoch 0), .int .i64 (max stable 0), .int .i64 0, .bool false, .int .u64 (horizon : Int), .int .u64 0, .int .i64 (max cn 0), .int .i64 (max cm 0), .int .i64 (max cp 0), .int .i64 0, .string ByteArray.empty, .string ByteArray.empty, .int .i64 0, .slice none 0 0, .int .u64 0, .int .i64 0, .int .i64 0, .slice none 0 0, .slice ao_q1 (((es.take to_.toNat).drop f.toNat).length) cap_q1, .slice none 0 0, .slice none 0 0]) rfl rfl (by decide) rfl (Ob_loads TB_Relay3 (cs := [.int .i64 kind, .int .i64 (max epoch 0), .int .i64 (max stable 0), .int .i64 0, .bool false, .int .u64 (horizon : Int), .int .u64 0, .int .i64 (max cn 0), .int .i64 (max cm 0), .int .i64 (max cp 0), .int .i64 0, .string ByteArray.empty, .string ByteArray.empty, .int .i64 0, .slice none 0 0, .int .u64 0, .int .i64 0, .int .i64 0, .slice none 0 0, .slice ao_q1 (((es.take to_.toNat).drop f.toNat).length) cap_q1, .slice none 0 0, .slice none 0 0]) rfl rfl rfl (H.bx 0 rfl).at) ?_; clear hok a; intro a hok
  refine h_store TB_Relay3 hok H 10 (us := [.int .i64 kind, .int .i64 (max epoch 0), .int .i64 (max stable 0), .int .i64 0, .bool false, .int .u64 (horizon : Int), .int .u64 0, .int .i64 (max cn 0), .int .i64 (max cm 0), .int .i64 (max cp 0), .int .i64 0, .string ByteArray.empty, .string ByteArray.empty, .int .i64 0, .slice none 0 0, .int .u64 0, .int .i64 0, .int .i64 0, .slice none 0 0, .slice ao_q1 (((es.take to_.toNat).drop f.toNat).length) cap_q1, .slice none 0 0, .slice none 0 0]) (cl' := [.int .i64 kind, .int .i64 (max epoch 0), .int .i64 (max stable 0), .int .i64 0, .bool false, .int .u64 (horizon : Int), .int .u64 0, .int .i64 (max cn 0), .int .i64 (max cm 0), .int .i64 (max cp 0), .int .i64 0, .string ByteArray.empty, .string ByteArray.empty, .int .i64 0, .slice none 0 0, .int .u64 0, .int .i64 0, .int .i64 0, .slice none 0 0, .slice ao_q1 (((es.take to_.toNat).drop f.toNat).length) cap_q1, .slice none 0 0, .slice none 0 0]) rfl rfl rfl rfl rfl rfl rfl rfl rfl (ones_all rfl) (Nat.le_of_ble_eq_true rfl) (putCells_all rfl) ?_; clear H; intro w7 H
  dsimp only [List.eraseIdx] at H
  refine s_end hok [0, 1, 2, 6, 7, 14, 15, 16, 17, 9] rfl ?_; clear hok; intro hok
  refine p_then ?_
  refine wp_ret ?_
  replace H := H.addsl (slRep.nil RDMember _ _ none 0 (by decide))
  replace H := H.addsl (slRep.nil RDOp _ _ none 0 (by decide))
  replace H := H.addsl (slRep.nil RU _ _ none 0 (by decide))
  replace H := H.addsl (slRep.nil RDPair _ _ none 0 (by decide))
  refine f_ret hok (run_resultsC rfl hok rfl (run_loadVar_agg TB_Relay3 rfl (H.bx 4 rfl).at)) ?_
  refine ⟨.slice none 0 0, .slice none 0 0, .slice ao_q1 (((es.take to_.toNat).drop f.toNat).length) cap_q1, .slice none 0 0, .slice none 0 0, ?_, ?_, I3, (H.sub [(12, false), (12, false), (12, false), (10, false), (10, false), (7, false), (7, false), (7, false), (3, true), (2, true), (6, true), (1, true), (0, true)] rfl).eq ?_⟩
  · clear hok H
    rfl
  · exact ⟨h_kind, (show i64ok (max epoch 0) by unfold i64ok; omega), (show i64ok (max stable 0) by unfold i64ok; omega), (show i64ok 0 by unfold i64ok; omega), (show horizon < 18446744073709551616 by omega), (show 0 < 18446744073709551616 by omega), (show i64ok (max cn 0) by unfold i64ok; omega), (show i64ok (max cm 0) by unfold i64ok; omega), (show i64ok (max cp 0) by unfold i64ok; omega), (show i64ok 0 by unfold i64ok; omega), emp_ok, emp_ok, ⟨(show i64ok 0 by unfold i64ok; omega), (show 0 < 18446744073709551616 by omega)⟩, ⟨(show i64ok 0 by unfold i64ok; omega), (show i64ok 0 by unfold i64ok; omega)⟩⟩
  · clear hok H
    rfl

def ackP (epoch good held from_ : Int) (l : List DEntry) : DMsg :=
  msgM 4 epoch (min (max good 0) (l.length : Int)) held (min (max from_ 0) (min (max good 0) (l.length : Int))) 0 0 [] (stampsL l (min (max from_ 0) (min (max good 0) (l.length : Int))).toNat (min (min (max good 0) (l.length : Int)) (min (max from_ 0) (min (max good 0) (l.length : Int)) + 8)).toNat)

theorem ackP_eq (epoch good held from_ : Int) (l : List DEntry) : ackP epoch good held from_ l = ackD epoch good held from_ l := by
  unfold ackP ackD msgM
  rw [show max (min (max good 0) (l.length : Int)) 0 = min (max good 0) (l.length : Int) by omega, show max (min (max from_ 0) (min (max good 0) (l.length : Int))) 0 = min (max from_ 0) (min (max good 0) (l.length : Int)) by omega]
  rfl

def fwdP (epoch base from_ stable : Int) (horizon : Nat) (l : List DEntry) (good : Int) : DMsg :=
  msgM 3 epoch base (min (max from_ 0) (min (max good 0) (l.length : Int))) (min (stampedL l : Int) (min (max good 0) (l.length : Int))) (max stable 0) horizon ((l.take (min (min (max good 0) (l.length : Int)) (min (max from_ 0) (min (max good 0) (l.length : Int)) + 4)).toNat).drop (min (max from_ 0) (min (max good 0) (l.length : Int))).toNat) []

theorem fwdP_eq (epoch base from_ stable : Int) (horizon : Nat) (l : List DEntry) (good : Int) : fwdP epoch base from_ stable horizon l good = fwdD epoch base from_ stable horizon l good := by
  unfold fwdP fwdD msgM
  rw [show max (min (max from_ 0) (min (max good 0) (l.length : Int))) 0 = min (max from_ 0) (min (max good 0) (l.length : Int)) by omega, show max (min (stampedL l : Int) (min (max good 0) (l.length : Int))) 0 = min (stampedL l : Int) (min (max good 0) (l.length : Int)) by omega]
  rfl

set_option maxHeartbeats 1000000 in
theorem c_relay_Ack {A0 : Nat → Prop} (epoch : Int) (good : Int) (held : Int) (from_ : Int) (v_l : Value) (l : List DEntry) (w : World) (h_epoch : i64ok epoch) (h_good : i64ok good) (h_held : i64ok held) (h_from_ : i64ok from_) (L_v_l : slRep RDEntry A0 w v_l l) (hgl : good ≤ 1000000 ∨ l.length ≤ 1000000) :
    Calls Try.prog 10 #[.int .i64 epoch, .int .i64 good, .int .i64 held, .int .i64 from_, v_l] w (Ret fun r w' => ∃ q0 q1 q2 q3 q4 : Value, r = .agg (cDMsg (ackP epoch good held from_ l) q0 q1 q2 q3 q4).toArray ∧ slRep RDMember (fun k => A0 k ∨ w.heap.size ≤ k) w' q0 (ackP epoch good held from_ l).conf.members ∧ slRep RDOp (fun k => A0 k ∨ w.heap.size ≤ k) w' q1 (ackP epoch good held from_ l).batch.ops ∧ slRep RDEntry (fun k => A0 k ∨ w.heap.size ≤ k) w' q2 (ackP epoch good held from_ l).entries ∧ slRep RU (fun k => A0 k ∨ w.heap.size ≤ k) w' q3 (ackP epoch good held from_ l).stamps ∧ slRep RDPair (fun k => A0 k ∨ w.heap.size ≤ k) w' q4 (ackP epoch good held from_ l).pairs ∧ okDMsg (ackP epoch good held from_ l) ∧ Below w.heap.size w w') := by
  obtain ⟨ao_v_l, cap_v_l, rfl, hc_v_l, hm_v_l⟩ := L_v_l.shape
  unfold maxLen at hm_v_l
  obtain ⟨I, hI, H⟩ : ∃ I : Dm, (∀ k, I k ↔ ((A0 k) ∧ k < w.heap.size)) ∧ Hf I NoD w I w [] := ⟨_, fun _ => Iff.rfl, (St.none _ _ fun _ h => h.2).hf⟩
  replace H := H.addsl (L_v_l.bound.mono (fun k h => (hI k).2 ⟨h.1, h.2⟩) (Keep.refl _ _))
  unfold i64ok at h_epoch
  unfold i64ok at h_good
  unfold i64ok at h_held
  unfold i64ok at h_from_
  refine f_enter 30 Try.func10 rfl rfl (Nat.le_of_ble_eq_true rfl) fun a hok => ?_
  replace hok := hok.sub (ts := [0, 1, 2, 3, 4]) rfl
  refine wp_seq ?_
  refine f_region hok ?_; clear hok; intro hok
  refine h_boxv hok H (cl := [.slice ao_v_l l.length cap_v_l]) rfl rfl rfl (by decide) rfl rfl rfl ?_; clear hok a H; intro a w1 b1 H hok
  refine h_alloc hok H (cl := [.int .i64 0, .int .i64 0, .int .i64 0, .int .i64 0, .bool false, .int .u64 0, .int .u64 0, .int .i64 0, .int .i64 0, .int .i64 0, .int .i64 0, .string ByteArray.empty, .string ByteArray.empty, .int .i64 0, .slice none 0 0, .int .u64 0, .int .i64 0, .int .i64 0, .slice none 0 0, .slice none 0 0, .slice none 0 0, .slice none 0 0]) (z := .agg #[.int .i64 0, .int .i64 0, .int .i64 0, .int .i64 0, .bool false, .int .u64 0, .int .u64 0, .int .i64 0, .int .i64 0, .int .i64 0, .int .i64 0, .string ByteArray.empty, .string ByteArray.empty, .int .i64 0, .slice none 0 0, .int .u64 0, .int .i64 0, .int .i64 0, .slice none 0 0, .slice none 0 0, .slice none 0 0, .slice none 0 0]) rfl rfl rfl (by decide) rfl (by kernel_rfl) rfl ?_; clear hok a H; intro a w2 b2 H hok
  refine s_end hok [0, 1, 2, 3, 4, 9, 10] rfl ?_; clear hok; intro hok
  refine p_then ?_
  refine wp_seq ?_
  refine f_region hok ?_; clear hok; intro hok
  refine s_runk TB_Relay3 hok 1 rfl rfl ?_; clear hok a; intro a hok
  refine s_ob hok (v := .slice ao_v_l l.length cap_v_l) rfl rfl (by decide) rfl (Ob_load TB_Relay3 rfl rfl rfl ((H.bx 1 rfl).cell 0 rfl)) ?_; clear hok a; intro a hok
  refine s_runk TB_Relay3 hok 1 rfl rfl ?_; clear hok a; intro a hok
  refine s_call hok fn_29_Relay3 (caps := #[]) rfl rfl rfl rfl rfl (by decide) rfl rfl (c_relay_fit good (l.length : Int) _ h_good (show i64ok (l.length : Int) by unfold i64ok; omega)) ?_; clear hok a; intro _ a w3 hr hok
  obtain ⟨rfl, hb⟩ := hr
  replace H := H.blw hb
  clear hb
  refine h_alloc hok H (cl := [.int .i64 0]) (z := .int .i64 0) rfl rfl rfl (by decide) rfl (by kernel_rfl) rfl ?_; clear hok a H; intro a w4 b3 H hok
  refine h_store TB_Relay3 hok H 0 (us := [.int .i64 (min (max good 0) (l.length : Int))]) (cl' := [.int .i64 (min (max good 0) (l.length : Int))]) rfl rfl rfl rfl rfl rfl rfl rfl rfl (by simp only [List.mem_cons, List.not_mem_nil, or_false]; rintro u rfl <;> rfl) (Nat.le_of_ble_eq_true rfl) rfl ?_; clear H; intro w5 H
  dsimp only [List.eraseIdx] at H
  refine s_end hok [0, 1, 2, 3, 4, 9, 10, 11] rfl ?_; clear hok; intro hok
  refine p_then ?_
  refine wp_seq ?_
  refine f_region hok ?_; clear hok; intro hok
  refine s_runk TB_Relay3 hok 1 rfl rfl ?_; clear hok a; intro a hok
  refine s_ob hok (v := .int .i64 (min (max good 0) (l.length : Int))) rfl rfl (by decide) rfl (Ob_load TB_Relay3 rfl rfl rfl ((H.bx 0 rfl).cell 0 rfl)) ?_; clear hok a; intro a hok
  refine s_call hok fn_29_Relay3 (caps := #[]) rfl rfl rfl rfl rfl (by decide) rfl rfl (c_relay_fit from_ (min (max good 0) (l.length : Int)) _ h_from_ (show i64ok (min (max good 0) (l.length : Int)) by unfold i64ok; omega)) ?_; clear hok a; intro _ a w6 hr hok
  obtain ⟨rfl, hb⟩ := hr
  replace H := H.blw hb
  clear hb
  refine h_alloc hok H (cl := [.int .i64 0]) (z := .int .i64 0) rfl rfl rfl (by decide) rfl (by kernel_rfl) rfl ?_; clear hok a H; intro a w7 b4 H hok
  refine h_store TB_Relay3 hok H 0 (us := [.int .i64 (min (max from_ 0) (min (max good 0) (l.length : Int)))]) (cl' := [.int .i64 (min (max from_ 0) (min (max good 0) (l.length : Int)))]) rfl rfl rfl rfl rfl rfl rfl rfl rfl (by simp only [List.mem_cons, List.not_mem_nil, or_false]; rintro u rfl <;> rfl) (Nat.le_of_ble_eq_true rfl) rfl ?_; clear H; intro w8 H
  dsimp only [List.eraseIdx] at H
  refine s_end hok [0, 1, 2, 3, 4, 9, 10, 11, 12] rfl ?_; clear hok; intro hok
  refine p_then ?_
  refine wp_seq ?_
  refine f_region hok ?_; clear hok; intro hok
  refine s_runk TB_Relay3 hok 2 rfl rfl ?_; clear hok a; intro a hok
  refine s_end hok [0, 1, 2, 3, 4, 9, 10, 11, 12, 13] rfl ?_; clear hok; intro hok
  refine p_then ?_
  refine wp_seq ?_
  refine f_region hok ?_; clear hok; intro hok
  refine s_runk TB_Relay3 hok 1 rfl rfl ?_; clear hok a; intro a hok
  refine s_ob hok (v := .int .i64 (min (max good 0) (l.length : Int))) rfl rfl (by decide) rfl (Ob_load TB_Relay3 rfl rfl rfl ((H.bx 1 rfl).cell 0 rfl)) ?_; clear hok a; intro a hok
  refine s_runk TB_Relay3 hok 1 rfl rfl ?_; clear hok a; intro a hok
  refine s_ob hok (v := .int .i64 (min (max from_ 0) (min (max good 0) (l.length : Int)))) rfl rfl (by decide) rfl (Ob_load TB_Relay3 rfl rfl rfl ((H.bx 0 rfl).cell 0 rfl)) ?_; clear hok a; intro a hok
  refine h_call hok H (js := []) rfl (caps := #[]) fn_34_Relay3 rfl rfl rfl rfl rfl (by decide) rfl rfl (fun D1 hS => c_counts (min (max good 0) (l.length : Int)) held (min (max from_ 0) (min (max good 0) (l.length : Int))) _ (show i64ok (min (max good 0) (l.length : Int)) by unfold i64ok; omega) h_held (show i64ok (min (max from_ 0) (min (max good 0) (l.length : Int))) by unfold i64ok; omega) hS) ?_; clear hok a H; intro _ a w9 D1 hr hF hok
  obtain ⟨b5, b6, b7, rfl, I1, H⟩ := hr
  replace H : Hf I NoD w I1 w9 [BxC b5 3 [.int .i64 (min (max good 0) (l.length : Int))], BxC b6 3 [.int .i64 held], BxC b7 3 [.int .i64 (min (max from_ 0) (min (max good 0) (l.length : Int)))], BxC b4 3 [.int .i64 (min (max from_ 0) (min (max good 0) (l.length : Int)))], BxC b3 3 [.int .i64 (min (max good 0) (l.length : Int))], BxC b2 37 [.int .i64 0, .int .i64 0, .int .i64 0, .int .i64 0, .bool false, .int .u64 0, .int .u64 0, .int .i64 0, .int .i64 0, .int .i64 0, .int .i64 0, .string ByteArray.empty, .string ByteArray.empty, .int .i64 0, .slice none 0 0, .int .u64 0, .int .i64 0, .int .i64 0, .slice none 0 0, .slice none 0 0, .slice none 0 0, .slice none 0 0], BxC b1 22 [.slice ao_v_l l.length cap_v_l], SlC RDEntry (.slice ao_v_l l.length cap_v_l) l] := hF H
  clear hF
  refine s_runk TB_Relay3 hok 1 rfl rfl ?_; clear hok a; intro a hok
  refine h_bslice hok H (vs := [(0, .func (.func 54) #[] #[.pointer (some ⟨b5, 0, none⟩), .pointer (some ⟨b6, 0, none⟩), .pointer (some ⟨b7, 0, none⟩)]), (1, .func (.func 36) #[] #[.pointer (some ⟨b1, 0, none⟩), .pointer (some ⟨b4, 0, none⟩), .pointer (some ⟨b3, 0, none⟩)])]) (cl := [.func (.func 54) #[] #[.pointer (some ⟨b5, 0, none⟩), .pointer (some ⟨b6, 0, none⟩), .pointer (some ⟨b7, 0, none⟩)], .func (.func 36) #[] #[.pointer (some ⟨b1, 0, none⟩), .pointer (some ⟨b4, 0, none⟩), .pointer (some ⟨b3, 0, none⟩)]]) (e := 66) rfl rfl rfl (by decide) rfl rfl (fun w => run_bslice (z := .nilFunc) (m := 1) Try.underlying97 (by kernel_rfl) rfl rfl (by decide) (by simp [Instr.fill, Value.cells]) w) ?_; clear hok a H; intro a w10 b8 H hok
  refine h_call hok H (js := [(0, false), (0, false), (0, false), (0, false), (3, false), (3, true), (0, false), (0, false)]) rfl (caps := #[]) fn_33_Relay3 rfl rfl rfl rfl rfl (by decide) rfl rfl (fun D1 hS => h_made_Ack 4 epoch _ _ (min (max good 0) (l.length : Int)) _ held _ (min (max from_ 0) (min (max good 0) (l.length : Int))) _ _ l _ (min (max from_ 0) (min (max good 0) (l.length : Int))) _ (min (max good 0) (l.length : Int)) _ (show i64ok 4 by unfold i64ok; omega) h_epoch (show i64ok (min (max good 0) (l.length : Int)) by unfold i64ok; omega) (show i64ok held by unfold i64ok; omega) (show i64ok (min (max from_ 0) (min (max good 0) (l.length : Int))) by unfold i64ok; omega) (show i64ok (min (max from_ 0) (min (max good 0) (l.length : Int))) by unfold i64ok; omega) (show i64ok (min (max good 0) (l.length : Int)) by unfold i64ok; omega) hS (by first | omega | rfl | (simp only [List.length_drop, List.length_take, List.length_append, List.length_cons, List.length_nil]; omega)) (by first | omega | rfl | (simp only [List.length_drop, List.length_take, List.length_append, List.length_cons, List.length_nil]; omega))) ?_; clear hok a H; intro _ a w11 D1 hr hF hok
  obtain ⟨q1, q2, q3, q4, q5, rfl, hx1, I2, H⟩ := hr
  replace H : Hf I NoD w I2 w11 [BxC b5 3 [.int .i64 (min (max good 0) (l.length : Int))], BxC b6 3 [.int .i64 held], BxC b7 3 [.int .i64 (min (max from_ 0) (min (max good 0) (l.length : Int)))], BxC b1 22 [.slice ao_v_l l.length cap_v_l], BxC b4 3 [.int .i64 (min (max from_ 0) (min (max good 0) (l.length : Int)))], BxC b3 3 [.int .i64 (min (max good 0) (l.length : Int))], SlC RDMember (q1) ((msgM 4 epoch (min (max good 0) (l.length : Int)) held (min (max from_ 0) (min (max good 0) (l.length : Int))) 0 0 [] (stampsL l (min (max from_ 0) (min (max good 0) (l.length : Int))).toNat (min (min (max good 0) (l.length : Int)) ((min (max from_ 0) (min (max good 0) (l.length : Int))) + 8)).toNat)).conf.members), SlC RDOp (q2) ((msgM 4 epoch (min (max good 0) (l.length : Int)) held (min (max from_ 0) (min (max good 0) (l.length : Int))) 0 0 [] (stampsL l (min (max from_ 0) (min (max good 0) (l.length : Int))).toNat (min (min (max good 0) (l.length : Int)) ((min (max from_ 0) (min (max good 0) (l.length : Int))) + 8)).toNat)).batch.ops), SlC RDEntry (q3) ((msgM 4 epoch (min (max good 0) (l.length : Int)) held (min (max from_ 0) (min (max good 0) (l.length : Int))) 0 0 [] (stampsL l (min (max from_ 0) (min (max good 0) (l.length : Int))).toNat (min (min (max good 0) (l.length : Int)) ((min (max from_ 0) (min (max good 0) (l.length : Int))) + 8)).toNat)).entries), SlC RU (q4) ((msgM 4 epoch (min (max good 0) (l.length : Int)) held (min (max from_ 0) (min (max good 0) (l.length : Int))) 0 0 [] (stampsL l (min (max from_ 0) (min (max good 0) (l.length : Int))).toNat (min (min (max good 0) (l.length : Int)) ((min (max from_ 0) (min (max good 0) (l.length : Int))) + 8)).toNat)).stamps), SlC RDPair (q5) ((msgM 4 epoch (min (max good 0) (l.length : Int)) held (min (max from_ 0) (min (max good 0) (l.length : Int))) 0 0 [] (stampsL l (min (max from_ 0) (min (max good 0) (l.length : Int))).toNat (min (min (max good 0) (l.length : Int)) ((min (max from_ 0) (min (max good 0) (l.length : Int))) + 8)).toNat)).pairs), BxC b2 37 [.int .i64 0, .int .i64 0, .int .i64 0, .int .i64 0, .bool false, .int .u64 0, .int .u64 0, .int .i64 0, .int .i64 0, .int .i64 0, .int .i64 0, .string ByteArray.empty, .string ByteArray.empty, .int .i64 0, .slice none 0 0, .int .u64 0, .int .i64 0, .int .i64 0, .slice none 0 0, .slice none 0 0, .slice none 0 0, .slice none 0 0], SlC RDEntry (.slice ao_v_l l.length cap_v_l) l] := hF H
  clear hF
  obtain ⟨ao_q1, cap_q1, rfl, hc_q1, hm_q1⟩ := H.slshape 6 rfl
  unfold maxLen at hm_q1
  obtain ⟨ao_q2, cap_q2, rfl, hc_q2, hm_q2⟩ := H.slshape 7 rfl
  unfold maxLen at hm_q2
  obtain ⟨ao_q3, cap_q3, rfl, hc_q3, hm_q3⟩ := H.slshape 8 rfl
  unfold maxLen at hm_q3
  obtain ⟨ao_q4, cap_q4, rfl, hc_q4, hm_q4⟩ := H.slshape 9 rfl
  unfold maxLen at hm_q4
  obtain ⟨ao_q5, cap_q5, rfl, hc_q5, hm_q5⟩ := H.slshape 10 rfl
  unfold maxLen at hm_q5
  refine h_store TB_Relay3 hok H 11 (us := [.int .i64 ((msgM 4 epoch (min (max good 0) (l.length : Int)) held (min (max from_ 0) (min (max good 0) (l.length : Int))) 0 0 [] (stampsL l (min (max from_ 0) (min (max good 0) (l.length : Int))).toNat (min (min (max good 0) (l.length : Int)) ((min (max from_ 0) (min (max good 0) (l.length : Int))) + 8)).toNat)).k), .int .i64 ((msgM 4 epoch (min (max good 0) (l.length : Int)) held (min (max from_ 0) (min (max good 0) (l.length : Int))) 0 0 [] (stampsL l (min (max from_ 0) (min (max good 0) (l.length : Int))).toNat (min (min (max good 0) (l.length : Int)) ((min (max from_ 0) (min (max good 0) (l.length : Int))) + 8)).toNat)).epoch), .int .i64 ((msgM 4 epoch (min (max good 0) (l.length : Int)) held (min (max from_ 0) (min (max good 0) (l.length : Int))) 0 0 [] (stampsL l (min (max from_ 0) (min (max good 0) (l.length : Int))).toNat (min (min (max good 0) (l.length : Int)) ((min (max from_ 0) (min (max good 0) (l.length : Int))) + 8)).toNat)).req), .int .i64 ((msgM 4 epoch (min (max good 0) (l.length : Int)) held (min (max from_ 0) (min (max good 0) (l.length : Int))) 0 0 [] (stampsL l (min (max from_ 0) (min (max good 0) (l.length : Int))).toNat (min (min (max good 0) (l.length : Int)) ((min (max from_ 0) (min (max good 0) (l.length : Int))) + 8)).toNat)).serial), .bool ((msgM 4 epoch (min (max good 0) (l.length : Int)) held (min (max from_ 0) (min (max good 0) (l.length : Int))) 0 0 [] (stampsL l (min (max from_ 0) (min (max good 0) (l.length : Int))).toNat (min (min (max good 0) (l.length : Int)) ((min (max from_ 0) (min (max good 0) (l.length : Int))) + 8)).toNat)).flag), .int .u64 ((msgM 4 epoch (min (max good 0) (l.length : Int)) held (min (max from_ 0) (min (max good 0) (l.length : Int))) 0 0 [] (stampsL l (min (max from_ 0) (min (max good 0) (l.length : Int))).toNat (min (min (max good 0) (l.length : Int)) ((min (max from_ 0) (min (max good 0) (l.length : Int))) + 8)).toNat)).at_ : Int), .int .u64 ((msgM 4 epoch (min (max good 0) (l.length : Int)) held (min (max from_ 0) (min (max good 0) (l.length : Int))) 0 0 [] (stampsL l (min (max from_ 0) (min (max good 0) (l.length : Int))).toNat (min (min (max good 0) (l.length : Int)) ((min (max from_ 0) (min (max good 0) (l.length : Int))) + 8)).toNat)).last : Int), .int .i64 ((msgM 4 epoch (min (max good 0) (l.length : Int)) held (min (max from_ 0) (min (max good 0) (l.length : Int))) 0 0 [] (stampsL l (min (max from_ 0) (min (max good 0) (l.length : Int))).toNat (min (min (max good 0) (l.length : Int)) ((min (max from_ 0) (min (max good 0) (l.length : Int))) + 8)).toNat)).n), .int .i64 ((msgM 4 epoch (min (max good 0) (l.length : Int)) held (min (max from_ 0) (min (max good 0) (l.length : Int))) 0 0 [] (stampsL l (min (max from_ 0) (min (max good 0) (l.length : Int))).toNat (min (min (max good 0) (l.length : Int)) ((min (max from_ 0) (min (max good 0) (l.length : Int))) + 8)).toNat)).m), .int .i64 ((msgM 4 epoch (min (max good 0) (l.length : Int)) held (min (max from_ 0) (min (max good 0) (l.length : Int))) 0 0 [] (stampsL l (min (max from_ 0) (min (max good 0) (l.length : Int))).toNat (min (min (max good 0) (l.length : Int)) ((min (max from_ 0) (min (max good 0) (l.length : Int))) + 8)).toNat)).p), .int .i64 ((msgM 4 epoch (min (max good 0) (l.length : Int)) held (min (max from_ 0) (min (max good 0) (l.length : Int))) 0 0 [] (stampsL l (min (max from_ 0) (min (max good 0) (l.length : Int))).toNat (min (min (max good 0) (l.length : Int)) ((min (max from_ 0) (min (max good 0) (l.length : Int))) + 8)).toNat)).e), .string ((msgM 4 epoch (min (max good 0) (l.length : Int)) held (min (max from_ 0) (min (max good 0) (l.length : Int))) 0 0 [] (stampsL l (min (max from_ 0) (min (max good 0) (l.length : Int))).toNat (min (min (max good 0) (l.length : Int)) ((min (max from_ 0) (min (max good 0) (l.length : Int))) + 8)).toNat)).key), .string ((msgM 4 epoch (min (max good 0) (l.length : Int)) held (min (max from_ 0) (min (max good 0) (l.length : Int))) 0 0 [] (stampsL l (min (max from_ 0) (min (max good 0) (l.length : Int))).toNat (min (min (max good 0) (l.length : Int)) ((min (max from_ 0) (min (max good 0) (l.length : Int))) + 8)).toNat)).to_), .int .i64 ((msgM 4 epoch (min (max good 0) (l.length : Int)) held (min (max from_ 0) (min (max good 0) (l.length : Int))) 0 0 [] (stampsL l (min (max from_ 0) (min (max good 0) (l.length : Int))).toNat (min (min (max good 0) (l.length : Int)) ((min (max from_ 0) (min (max good 0) (l.length : Int))) + 8)).toNat)).conf.epoch), .slice ao_q1 (((msgM 4 epoch (min (max good 0) (l.length : Int)) held (min (max from_ 0) (min (max good 0) (l.length : Int))) 0 0 [] (stampsL l (min (max from_ 0) (min (max good 0) (l.length : Int))).toNat (min (min (max good 0) (l.length : Int)) ((min (max from_ 0) (min (max good 0) (l.length : Int))) + 8)).toNat)).conf.members).length) cap_q1, .int .u64 ((msgM 4 epoch (min (max good 0) (l.length : Int)) held (min (max from_ 0) (min (max good 0) (l.length : Int))) 0 0 [] (stampsL l (min (max from_ 0) (min (max good 0) (l.length : Int))).toNat (min (min (max good 0) (l.length : Int)) ((min (max from_ 0) (min (max good 0) (l.length : Int))) + 8)).toNat)).conf.floor : Int), .int .i64 ((msgM 4 epoch (min (max good 0) (l.length : Int)) held (min (max from_ 0) (min (max good 0) (l.length : Int))) 0 0 [] (stampsL l (min (max from_ 0) (min (max good 0) (l.length : Int))).toNat (min (min (max good 0) (l.length : Int)) ((min (max from_ 0) (min (max good 0) (l.length : Int))) + 8)).toNat)).batch.client), .int .i64 ((msgM 4 epoch (min (max good 0) (l.length : Int)) held (min (max from_ 0) (min (max good 0) (l.length : Int))) 0 0 [] (stampsL l (min (max from_ 0) (min (max good 0) (l.length : Int))).toNat (min (min (max good 0) (l.length : Int)) ((min (max from_ 0) (min (max good 0) (l.length : Int))) + 8)).toNat)).batch.req), .slice ao_q2 (((msgM 4 epoch (min (max good 0) (l.length : Int)) held (min (max from_ 0) (min (max good 0) (l.length : Int))) 0 0 [] (stampsL l (min (max from_ 0) (min (max good 0) (l.length : Int))).toNat (min (min (max good 0) (l.length : Int)) ((min (max from_ 0) (min (max good 0) (l.length : Int))) + 8)).toNat)).batch.ops).length) cap_q2, .slice ao_q3 (((msgM 4 epoch (min (max good 0) (l.length : Int)) held (min (max from_ 0) (min (max good 0) (l.length : Int))) 0 0 [] (stampsL l (min (max from_ 0) (min (max good 0) (l.length : Int))).toNat (min (min (max good 0) (l.length : Int)) ((min (max from_ 0) (min (max good 0) (l.length : Int))) + 8)).toNat)).entries).length) cap_q3, .slice ao_q4 (((msgM 4 epoch (min (max good 0) (l.length : Int)) held (min (max from_ 0) (min (max good 0) (l.length : Int))) 0 0 [] (stampsL l (min (max from_ 0) (min (max good 0) (l.length : Int))).toNat (min (min (max good 0) (l.length : Int)) ((min (max from_ 0) (min (max good 0) (l.length : Int))) + 8)).toNat)).stamps).length) cap_q4, .slice ao_q5 (((msgM 4 epoch (min (max good 0) (l.length : Int)) held (min (max from_ 0) (min (max good 0) (l.length : Int))) 0 0 [] (stampsL l (min (max from_ 0) (min (max good 0) (l.length : Int))).toNat (min (min (max good 0) (l.length : Int)) ((min (max from_ 0) (min (max good 0) (l.length : Int))) + 8)).toNat)).pairs).length) cap_q5]) (cl' := [.int .i64 ((msgM 4 epoch (min (max good 0) (l.length : Int)) held (min (max from_ 0) (min (max good 0) (l.length : Int))) 0 0 [] (stampsL l (min (max from_ 0) (min (max good 0) (l.length : Int))).toNat (min (min (max good 0) (l.length : Int)) ((min (max from_ 0) (min (max good 0) (l.length : Int))) + 8)).toNat)).k), .int .i64 ((msgM 4 epoch (min (max good 0) (l.length : Int)) held (min (max from_ 0) (min (max good 0) (l.length : Int))) 0 0 [] (stampsL l (min (max from_ 0) (min (max good 0) (l.length : Int))).toNat (min (min (max good 0) (l.length : Int)) ((min (max from_ 0) (min (max good 0) (l.length : Int))) + 8)).toNat)).epoch), .int .i64 ((msgM 4 epoch (min (max good 0) (l.length : Int)) held (min (max from_ 0) (min (max good 0) (l.length : Int))) 0 0 [] (stampsL l (min (max from_ 0) (min (max good 0) (l.length : Int))).toNat (min (min (max good 0) (l.length : Int)) ((min (max from_ 0) (min (max good 0) (l.length : Int))) + 8)).toNat)).req), .int .i64 ((msgM 4 epoch (min (max good 0) (l.length : Int)) held (min (max from_ 0) (min (max good 0) (l.length : Int))) 0 0 [] (stampsL l (min (max from_ 0) (min (max good 0) (l.length : Int))).toNat (min (min (max good 0) (l.length : Int)) ((min (max from_ 0) (min (max good 0) (l.length : Int))) + 8)).toNat)).serial), .bool ((msgM 4 epoch (min (max good 0) (l.length : Int)) held (min (max from_ 0) (min (max good 0) (l.length : Int))) 0 0 [] (stampsL l (min (max from_ 0) (min (max good 0) (l.length : Int))).toNat (min (min (max good 0) (l.length : Int)) ((min (max from_ 0) (min (max good 0) (l.length : Int))) + 8)).toNat)).flag), .int .u64 ((msgM 4 epoch (min (max good 0) (l.length : Int)) held (min (max from_ 0) (min (max good 0) (l.length : Int))) 0 0 [] (stampsL l (min (max from_ 0) (min (max good 0) (l.length : Int))).toNat (min (min (max good 0) (l.length : Int)) ((min (max from_ 0) (min (max good 0) (l.length : Int))) + 8)).toNat)).at_ : Int), .int .u64 ((msgM 4 epoch (min (max good 0) (l.length : Int)) held (min (max from_ 0) (min (max good 0) (l.length : Int))) 0 0 [] (stampsL l (min (max from_ 0) (min (max good 0) (l.length : Int))).toNat (min (min (max good 0) (l.length : Int)) ((min (max from_ 0) (min (max good 0) (l.length : Int))) + 8)).toNat)).last : Int), .int .i64 ((msgM 4 epoch (min (max good 0) (l.length : Int)) held (min (max from_ 0) (min (max good 0) (l.length : Int))) 0 0 [] (stampsL l (min (max from_ 0) (min (max good 0) (l.length : Int))).toNat (min (min (max good 0) (l.length : Int)) ((min (max from_ 0) (min (max good 0) (l.length : Int))) + 8)).toNat)).n), .int .i64 ((msgM 4 epoch (min (max good 0) (l.length : Int)) held (min (max from_ 0) (min (max good 0) (l.length : Int))) 0 0 [] (stampsL l (min (max from_ 0) (min (max good 0) (l.length : Int))).toNat (min (min (max good 0) (l.length : Int)) ((min (max from_ 0) (min (max good 0) (l.length : Int))) + 8)).toNat)).m), .int .i64 ((msgM 4 epoch (min (max good 0) (l.length : Int)) held (min (max from_ 0) (min (max good 0) (l.length : Int))) 0 0 [] (stampsL l (min (max from_ 0) (min (max good 0) (l.length : Int))).toNat (min (min (max good 0) (l.length : Int)) ((min (max from_ 0) (min (max good 0) (l.length : Int))) + 8)).toNat)).p), .int .i64 ((msgM 4 epoch (min (max good 0) (l.length : Int)) held (min (max from_ 0) (min (max good 0) (l.length : Int))) 0 0 [] (stampsL l (min (max from_ 0) (min (max good 0) (l.length : Int))).toNat (min (min (max good 0) (l.length : Int)) ((min (max from_ 0) (min (max good 0) (l.length : Int))) + 8)).toNat)).e), .string ((msgM 4 epoch (min (max good 0) (l.length : Int)) held (min (max from_ 0) (min (max good 0) (l.length : Int))) 0 0 [] (stampsL l (min (max from_ 0) (min (max good 0) (l.length : Int))).toNat (min (min (max good 0) (l.length : Int)) ((min (max from_ 0) (min (max good 0) (l.length : Int))) + 8)).toNat)).key), .string ((msgM 4 epoch (min (max good 0) (l.length : Int)) held (min (max from_ 0) (min (max good 0) (l.length : Int))) 0 0 [] (stampsL l (min (max from_ 0) (min (max good 0) (l.length : Int))).toNat (min (min (max good 0) (l.length : Int)) ((min (max from_ 0) (min (max good 0) (l.length : Int))) + 8)).toNat)).to_), .int .i64 ((msgM 4 epoch (min (max good 0) (l.length : Int)) held (min (max from_ 0) (min (max good 0) (l.length : Int))) 0 0 [] (stampsL l (min (max from_ 0) (min (max good 0) (l.length : Int))).toNat (min (min (max good 0) (l.length : Int)) ((min (max from_ 0) (min (max good 0) (l.length : Int))) + 8)).toNat)).conf.epoch), .slice ao_q1 (((msgM 4 epoch (min (max good 0) (l.length : Int)) held (min (max from_ 0) (min (max good 0) (l.length : Int))) 0 0 [] (stampsL l (min (max from_ 0) (min (max good 0) (l.length : Int))).toNat (min (min (max good 0) (l.length : Int)) ((min (max from_ 0) (min (max good 0) (l.length : Int))) + 8)).toNat)).conf.members).length) cap_q1, .int .u64 ((msgM 4 epoch (min (max good 0) (l.length : Int)) held (min (max from_ 0) (min (max good 0) (l.length : Int))) 0 0 [] (stampsL l (min (max from_ 0) (min (max good 0) (l.length : Int))).toNat (min (min (max good 0) (l.length : Int)) ((min (max from_ 0) (min (max good 0) (l.length : Int))) + 8)).toNat)).conf.floor : Int), .int .i64 ((msgM 4 epoch (min (max good 0) (l.length : Int)) held (min (max from_ 0) (min (max good 0) (l.length : Int))) 0 0 [] (stampsL l (min (max from_ 0) (min (max good 0) (l.length : Int))).toNat (min (min (max good 0) (l.length : Int)) ((min (max from_ 0) (min (max good 0) (l.length : Int))) + 8)).toNat)).batch.client), .int .i64 ((msgM 4 epoch (min (max good 0) (l.length : Int)) held (min (max from_ 0) (min (max good 0) (l.length : Int))) 0 0 [] (stampsL l (min (max from_ 0) (min (max good 0) (l.length : Int))).toNat (min (min (max good 0) (l.length : Int)) ((min (max from_ 0) (min (max good 0) (l.length : Int))) + 8)).toNat)).batch.req), .slice ao_q2 (((msgM 4 epoch (min (max good 0) (l.length : Int)) held (min (max from_ 0) (min (max good 0) (l.length : Int))) 0 0 [] (stampsL l (min (max from_ 0) (min (max good 0) (l.length : Int))).toNat (min (min (max good 0) (l.length : Int)) ((min (max from_ 0) (min (max good 0) (l.length : Int))) + 8)).toNat)).batch.ops).length) cap_q2, .slice ao_q3 (((msgM 4 epoch (min (max good 0) (l.length : Int)) held (min (max from_ 0) (min (max good 0) (l.length : Int))) 0 0 [] (stampsL l (min (max from_ 0) (min (max good 0) (l.length : Int))).toNat (min (min (max good 0) (l.length : Int)) ((min (max from_ 0) (min (max good 0) (l.length : Int))) + 8)).toNat)).entries).length) cap_q3, .slice ao_q4 (((msgM 4 epoch (min (max good 0) (l.length : Int)) held (min (max from_ 0) (min (max good 0) (l.length : Int))) 0 0 [] (stampsL l (min (max from_ 0) (min (max good 0) (l.length : Int))).toNat (min (min (max good 0) (l.length : Int)) ((min (max from_ 0) (min (max good 0) (l.length : Int))) + 8)).toNat)).stamps).length) cap_q4, .slice ao_q5 (((msgM 4 epoch (min (max good 0) (l.length : Int)) held (min (max from_ 0) (min (max good 0) (l.length : Int))) 0 0 [] (stampsL l (min (max from_ 0) (min (max good 0) (l.length : Int))).toNat (min (min (max good 0) (l.length : Int)) ((min (max from_ 0) (min (max good 0) (l.length : Int))) + 8)).toNat)).pairs).length) cap_q5]) rfl rfl rfl rfl rfl rfl rfl rfl rfl (ones_all rfl) (Nat.le_of_ble_eq_true rfl) (putCells_all rfl) ?_; clear H; intro w12 H
  dsimp only [List.eraseIdx] at H
  refine s_end hok [0, 1, 2, 3, 4, 9, 10, 11, 12, 13] rfl ?_; clear hok; intro hok
  refine p_then ?_
  refine wp_ret ?_
  refine f_ret hok (run_resultsC rfl hok rfl (run_loadVar_agg TB_Relay3 rfl (H.bx 0 rfl).at)) ?_
  refine ⟨.slice ao_q1 (((msgM 4 epoch (min (max good 0) (l.length : Int)) held (min (max from_ 0) (min (max good 0) (l.length : Int))) 0 0 [] (stampsL l (min (max from_ 0) (min (max good 0) (l.length : Int))).toNat (min (min (max good 0) (l.length : Int)) ((min (max from_ 0) (min (max good 0) (l.length : Int))) + 8)).toNat)).conf.members).length) cap_q1, .slice ao_q2 (((msgM 4 epoch (min (max good 0) (l.length : Int)) held (min (max from_ 0) (min (max good 0) (l.length : Int))) 0 0 [] (stampsL l (min (max from_ 0) (min (max good 0) (l.length : Int))).toNat (min (min (max good 0) (l.length : Int)) ((min (max from_ 0) (min (max good 0) (l.length : Int))) + 8)).toNat)).batch.ops).length) cap_q2, .slice ao_q3 (((msgM 4 epoch (min (max good 0) (l.length : Int)) held (min (max from_ 0) (min (max good 0) (l.length : Int))) 0 0 [] (stampsL l (min (max from_ 0) (min (max good 0) (l.length : Int))).toNat (min (min (max good 0) (l.length : Int)) ((min (max from_ 0) (min (max good 0) (l.length : Int))) + 8)).toNat)).entries).length) cap_q3, .slice ao_q4 (((msgM 4 epoch (min (max good 0) (l.length : Int)) held (min (max from_ 0) (min (max good 0) (l.length : Int))) 0 0 [] (stampsL l (min (max from_ 0) (min (max good 0) (l.length : Int))).toNat (min (min (max good 0) (l.length : Int)) ((min (max from_ 0) (min (max good 0) (l.length : Int))) + 8)).toNat)).stamps).length) cap_q4, .slice ao_q5 (((msgM 4 epoch (min (max good 0) (l.length : Int)) held (min (max from_ 0) (min (max good 0) (l.length : Int))) 0 0 [] (stampsL l (min (max from_ 0) (min (max good 0) (l.length : Int))).toNat (min (min (max good 0) (l.length : Int)) ((min (max from_ 0) (min (max good 0) (l.length : Int))) + 8)).toNat)).pairs).length) cap_q5, ?_, ?_, ?_, ?_, ?_, ?_, ?_, H.below fun _ h => h⟩
  · clear hok H
    rfl
  · exact (H.slres 7 rfl).mono (fun k h => h.elim (fun h => .inl ((hI k).1 h).1) fun h => (.inr (h.resolve_left id))) (Keep.refl _ _)
  · exact (H.slres 8 rfl).mono (fun k h => h.elim (fun h => .inl ((hI k).1 h).1) fun h => (.inr (h.resolve_left id))) (Keep.refl _ _)
  · exact (H.slres 9 rfl).mono (fun k h => h.elim (fun h => .inl ((hI k).1 h).1) fun h => (.inr (h.resolve_left id))) (Keep.refl _ _)
  · exact (H.slres 10 rfl).mono (fun k h => h.elim (fun h => .inl ((hI k).1 h).1) fun h => (.inr (h.resolve_left id))) (Keep.refl _ _)
  · exact (H.slres 11 rfl).mono (fun k h => h.elim (fun h => .inl ((hI k).1 h).1) fun h => (.inr (h.resolve_left id))) (Keep.refl _ _)
  · exact hx1

set_option maxHeartbeats 1000000 in
theorem c_relay_Fwd {A0 : Nat → Prop} (epoch : Int) (base : Int) (from_ : Int) (stable : Int) (horizon : Nat) (v_l : Value) (l : List DEntry) (good : Int) (w : World) (h_epoch : i64ok epoch) (h_base : i64ok base) (h_from_ : i64ok from_) (h_stable : i64ok stable) (h_horizon : horizon < 18446744073709551616) (L_v_l : slRep RDEntry A0 w v_l l) (h_good : i64ok good) (hgl : good ≤ 1000000 ∨ l.length ≤ 1000000) :
    Calls Try.prog 9 #[.int .i64 epoch, .int .i64 base, .int .i64 from_, .int .i64 stable, .int .u64 (horizon : Int), v_l, .int .i64 good] w (Ret fun r w' => ∃ q0 q1 q2 q3 q4 : Value, r = .agg (cDMsg (fwdP epoch base from_ stable horizon l good) q0 q1 q2 q3 q4).toArray ∧ slRep RDMember (fun k => A0 k ∨ w.heap.size ≤ k) w' q0 (fwdP epoch base from_ stable horizon l good).conf.members ∧ slRep RDOp (fun k => A0 k ∨ w.heap.size ≤ k) w' q1 (fwdP epoch base from_ stable horizon l good).batch.ops ∧ slRep RDEntry (fun k => A0 k ∨ w.heap.size ≤ k) w' q2 (fwdP epoch base from_ stable horizon l good).entries ∧ slRep RU (fun k => A0 k ∨ w.heap.size ≤ k) w' q3 (fwdP epoch base from_ stable horizon l good).stamps ∧ slRep RDPair (fun k => A0 k ∨ w.heap.size ≤ k) w' q4 (fwdP epoch base from_ stable horizon l good).pairs ∧ okDMsg (fwdP epoch base from_ stable horizon l good) ∧ Below w.heap.size w w') := by
  obtain ⟨ao_v_l, cap_v_l, rfl, hc_v_l, hm_v_l⟩ := L_v_l.shape
  unfold maxLen at hm_v_l
  obtain ⟨I, hI, H⟩ : ∃ I : Dm, (∀ k, I k ↔ ((A0 k) ∧ k < w.heap.size)) ∧ Hf I NoD w I w [] := ⟨_, fun _ => Iff.rfl, (St.none _ _ fun _ h => h.2).hf⟩
  replace H := H.addsl (L_v_l.bound.mono (fun k h => (hI k).2 ⟨h.1, h.2⟩) (Keep.refl _ _))
  unfold i64ok at h_epoch
  unfold i64ok at h_base
  unfold i64ok at h_from_
  unfold i64ok at h_stable
  unfold i64ok at h_good
  have hsl := stamped_le l
  refine f_enter 45 Try.func9 rfl rfl (Nat.le_of_ble_eq_true rfl) fun a hok => ?_
  replace hok := hok.sub (ts := [0, 1, 2, 3, 4, 5, 6]) rfl
  refine wp_seq ?_
  refine f_region hok ?_; clear hok; intro hok
  refine h_boxv hok H (cl := [.int .i64 stable]) rfl rfl rfl (by decide) rfl rfl rfl ?_; clear hok a H; intro a w1 b1 H hok
  refine h_boxv hok H (cl := [.int .u64 (horizon : Int)]) rfl rfl rfl (by decide) rfl rfl rfl ?_; clear hok a H; intro a w2 b2 H hok
  refine h_boxv hok H (cl := [.slice ao_v_l l.length cap_v_l]) rfl rfl rfl (by decide) rfl rfl rfl ?_; clear hok a H; intro a w3 b3 H hok
  refine h_alloc hok H (cl := [.int .i64 0, .int .i64 0, .int .i64 0, .int .i64 0, .bool false, .int .u64 0, .int .u64 0, .int .i64 0, .int .i64 0, .int .i64 0, .int .i64 0, .string ByteArray.empty, .string ByteArray.empty, .int .i64 0, .slice none 0 0, .int .u64 0, .int .i64 0, .int .i64 0, .slice none 0 0, .slice none 0 0, .slice none 0 0, .slice none 0 0]) (z := .agg #[.int .i64 0, .int .i64 0, .int .i64 0, .int .i64 0, .bool false, .int .u64 0, .int .u64 0, .int .i64 0, .int .i64 0, .int .i64 0, .int .i64 0, .string ByteArray.empty, .string ByteArray.empty, .int .i64 0, .slice none 0 0, .int .u64 0, .int .i64 0, .int .i64 0, .slice none 0 0, .slice none 0 0, .slice none 0 0, .slice none 0 0]) rfl rfl rfl (by decide) rfl (by kernel_rfl) rfl ?_; clear hok a H; intro a w4 b4 H hok
  refine s_end hok [0, 1, 2, 3, 4, 5, 6, 10, 11, 12, 14] rfl ?_; clear hok; intro hok
  refine p_then ?_
  refine wp_seq ?_
  refine f_region hok ?_; clear hok; intro hok
  refine s_runk TB_Relay3 hok 1 rfl rfl ?_; clear hok a; intro a hok
  refine s_ob hok (v := .slice ao_v_l l.length cap_v_l) rfl rfl (by decide) rfl (Ob_load TB_Relay3 rfl rfl rfl ((H.bx 1 rfl).cell 0 rfl)) ?_; clear hok a; intro a hok
  refine s_runk TB_Relay3 hok 1 rfl rfl ?_; clear hok a; intro a hok
  refine s_call hok fn_29_Relay3 (caps := #[]) rfl rfl rfl rfl rfl (by decide) rfl rfl (c_relay_fit good (l.length : Int) _ h_good (show i64ok (l.length : Int) by unfold i64ok; omega)) ?_; clear hok a; intro _ a w5 hr hok
  obtain ⟨rfl, hb⟩ := hr
  replace H := H.blw hb
  clear hb
  refine s_runk TB_Relay3 hok 1 rfl rfl ?_; clear hok a; intro a hok
  refine s_end hok [0, 1, 2, 3, 4, 5, 6, 10, 11, 12, 14, 15] rfl ?_; clear hok; intro hok
  refine p_then ?_
  refine wp_seq ?_
  refine f_region hok ?_; clear hok; intro hok
  refine s_runk TB_Relay3 hok 2 rfl rfl ?_; clear hok a; intro a hok
  refine s_call hok fn_29_Relay3 (caps := #[]) rfl rfl rfl rfl rfl (by decide) rfl rfl (c_relay_fit from_ (min (max good 0) (l.length : Int)) _ h_from_ (show i64ok (min (max good 0) (l.length : Int)) by unfold i64ok; omega)) ?_; clear hok a; intro _ a w6 hr hok
  obtain ⟨rfl, hb⟩ := hr
  replace H := H.blw hb
  clear hb
  refine h_alloc hok H (cl := [.int .i64 0]) (z := .int .i64 0) rfl rfl rfl (by decide) rfl (by kernel_rfl) rfl ?_; clear hok a H; intro a w7 b5 H hok
  refine h_store TB_Relay3 hok H 0 (us := [.int .i64 (min (max from_ 0) (min (max good 0) (l.length : Int)))]) (cl' := [.int .i64 (min (max from_ 0) (min (max good 0) (l.length : Int)))]) rfl rfl rfl rfl rfl rfl rfl rfl rfl (by simp only [List.mem_cons, List.not_mem_nil, or_false]; rintro u rfl <;> rfl) (Nat.le_of_ble_eq_true rfl) rfl ?_; clear H; intro w8 H
  dsimp only [List.eraseIdx] at H
  refine s_end hok [0, 1, 2, 3, 4, 5, 6, 10, 11, 12, 14, 15, 16] rfl ?_; clear hok; intro hok
  refine p_then ?_
  refine wp_seq ?_
  refine f_region hok ?_; clear hok; intro hok
  refine s_runk TB_Relay3 hok 1 rfl rfl ?_; clear hok a; intro a hok
  refine s_ob hok (v := .int .i64 (min (max from_ 0) (min (max good 0) (l.length : Int)))) rfl rfl (by decide) rfl (Ob_load TB_Relay3 rfl rfl rfl ((H.bx 0 rfl).cell 0 rfl)) ?_; clear hok a; intro a hok
  refine s_ob hok (v := .int .i64 (min (max from_ 0) (min (max good 0) (l.length : Int)) + 4)) rfl rfl (by decide) rfl (Ob_add rfl rfl rfl (IntWalk.i64_in _ (by omega))) ?_; clear hok a; intro a hok
  refine s_runk TB_Relay3 hok 1 rfl rfl ?_; clear hok a; intro a hok
  refine h_alloc hok H (cl := [.int .i64 0]) (z := .int .i64 0) rfl rfl rfl (by decide) rfl (by kernel_rfl) rfl ?_; clear hok a H; intro a w9 b6 H hok
  refine h_store TB_Relay3 hok H 0 (us := [.int .i64 (min (min (max good 0) (l.length : Int)) (min (max from_ 0) (min (max good 0) (l.length : Int)) + 4))]) (cl' := [.int .i64 (min (min (max good 0) (l.length : Int)) (min (max from_ 0) (min (max good 0) (l.length : Int)) + 4))]) rfl rfl rfl rfl rfl rfl rfl rfl rfl (by simp only [List.mem_cons, List.not_mem_nil, or_false]; rintro u rfl <;> rfl) (Nat.le_of_ble_eq_true rfl) rfl ?_; clear H; intro w10 H
  dsimp only [List.eraseIdx] at H
  refine s_end hok [0, 1, 2, 3, 4, 5, 6, 10, 11, 12, 14, 15, 16, 17] rfl ?_; clear hok; intro hok
  refine p_then ?_
  refine wp_seq ?_
  refine f_region hok ?_; clear hok; intro hok
  refine s_runk TB_Relay3 hok 2 rfl rfl ?_; clear hok a; intro a hok
  refine s_end hok [0, 1, 2, 3, 4, 5, 6, 10, 11, 12, 14, 15, 16, 17, 18] rfl ?_; clear hok; intro hok
  refine p_then ?_
  refine wp_seq ?_
  refine f_region hok ?_; clear hok; intro hok
  refine s_runk TB_Relay3 hok 2 rfl rfl ?_; clear hok a; intro a hok
  refine s_end hok [0, 1, 2, 3, 4, 5, 6, 10, 11, 12, 14, 15, 16, 17, 18, 19] rfl ?_; clear hok; intro hok
  refine p_then ?_
  refine wp_seq ?_
  refine f_regionL hok (by kernel_rfl) (by kernel_rfl) (by decide) (by decide) [7, 10, 11, 12] [(0, 0, 2), (0, 0, 0), (0, 0, 0), (0, 0, 0), (8, 0, 0), (0, 0, 0), (56, 0, 0), (126, 0, 0), (0, 0, 1), (0, 0, 1), (1022, 1, 1), (2047, 2, 2), (4095, 3, 3)] (by kernel_rfl) (fun jj vv => cond (Nat.blt jj 6) (cond (Nat.blt jj 3) (cond (Nat.blt jj 1) (vv = .int .i64 epoch) (cond (Nat.blt jj 2) (vv = .int .i64 base) (vv = .int .i64 (min (max from_ 0) (min (max good 0) (l.length : Int)))))) (cond (Nat.blt jj 4) (vv = .slice ao_v_l l.length cap_v_l) (cond (Nat.blt jj 5) (vv = .int .i64 (stampedL l : Int)) (vv = .int .i64 (min (max good 0) (l.length : Int)))))) (cond (Nat.blt jj 9) (cond (Nat.blt jj 7) (vv = .int .i64 (min (stampedL l : Int) (min (max good 0) (l.length : Int)))) (cond (Nat.blt jj 8) (vv = .func (.func 54) #[] #[.pointer (some ⟨(blkOf (funCap vv 0)), 0, none⟩), .pointer (some ⟨(blkOf (funCap vv 1)), 0, none⟩), .pointer (some ⟨(blkOf (funCap vv 2)), 0, none⟩)]) (vv = .func (.func 32) #[] #[.pointer (some ⟨b1, 0, none⟩), .pointer (some ⟨b2, 0, none⟩)]))) (cond (Nat.blt jj 11) (cond (Nat.blt jj 10) (vv = .func (.func 30) #[] #[.pointer (some ⟨b3, 0, none⟩), .pointer (some ⟨b5, 0, none⟩), .pointer (some ⟨b6, 0, none⟩)]) (vv = .slice (some ⟨blkOf vv, 0, none⟩) 3 3)) (cond (Nat.blt jj 12) (vv = .agg #[.int .i64 ((msgM 3 epoch base (min (max from_ 0) (min (max good 0) (l.length : Int))) (min (stampedL l : Int) (min (max good 0) (l.length : Int))) (max stable 0) horizon ((l.take (min (min (max good 0) (l.length : Int)) (min (max from_ 0) (min (max good 0) (l.length : Int)) + 4)).toNat).drop (min (max from_ 0) (min (max good 0) (l.length : Int))).toNat) []).k), .int .i64 ((msgM 3 epoch base (min (max from_ 0) (min (max good 0) (l.length : Int))) (min (stampedL l : Int) (min (max good 0) (l.length : Int))) (max stable 0) horizon ((l.take (min (min (max good 0) (l.length : Int)) (min (max from_ 0) (min (max good 0) (l.length : Int)) + 4)).toNat).drop (min (max from_ 0) (min (max good 0) (l.length : Int))).toNat) []).epoch), .int .i64 ((msgM 3 epoch base (min (max from_ 0) (min (max good 0) (l.length : Int))) (min (stampedL l : Int) (min (max good 0) (l.length : Int))) (max stable 0) horizon ((l.take (min (min (max good 0) (l.length : Int)) (min (max from_ 0) (min (max good 0) (l.length : Int)) + 4)).toNat).drop (min (max from_ 0) (min (max good 0) (l.length : Int))).toNat) []).req), .int .i64 ((msgM 3 epoch base (min (max from_ 0) (min (max good 0) (l.length : Int))) (min (stampedL l : Int) (min (max good 0) (l.length : Int))) (max stable 0) horizon ((l.take (min (min (max good 0) (l.length : Int)) (min (max from_ 0) (min (max good 0) (l.length : Int)) + 4)).toNat).drop (min (max from_ 0) (min (max good 0) (l.length : Int))).toNat) []).serial), .bool ((msgM 3 epoch base (min (max from_ 0) (min (max good 0) (l.length : Int))) (min (stampedL l : Int) (min (max good 0) (l.length : Int))) (max stable 0) horizon ((l.take (min (min (max good 0) (l.length : Int)) (min (max from_ 0) (min (max good 0) (l.length : Int)) + 4)).toNat).drop (min (max from_ 0) (min (max good 0) (l.length : Int))).toNat) []).flag), .int .u64 ((msgM 3 epoch base (min (max from_ 0) (min (max good 0) (l.length : Int))) (min (stampedL l : Int) (min (max good 0) (l.length : Int))) (max stable 0) horizon ((l.take (min (min (max good 0) (l.length : Int)) (min (max from_ 0) (min (max good 0) (l.length : Int)) + 4)).toNat).drop (min (max from_ 0) (min (max good 0) (l.length : Int))).toNat) []).at_ : Int), .int .u64 ((msgM 3 epoch base (min (max from_ 0) (min (max good 0) (l.length : Int))) (min (stampedL l : Int) (min (max good 0) (l.length : Int))) (max stable 0) horizon ((l.take (min (min (max good 0) (l.length : Int)) (min (max from_ 0) (min (max good 0) (l.length : Int)) + 4)).toNat).drop (min (max from_ 0) (min (max good 0) (l.length : Int))).toNat) []).last : Int), .int .i64 ((msgM 3 epoch base (min (max from_ 0) (min (max good 0) (l.length : Int))) (min (stampedL l : Int) (min (max good 0) (l.length : Int))) (max stable 0) horizon ((l.take (min (min (max good 0) (l.length : Int)) (min (max from_ 0) (min (max good 0) (l.length : Int)) + 4)).toNat).drop (min (max from_ 0) (min (max good 0) (l.length : Int))).toNat) []).n), .int .i64 ((msgM 3 epoch base (min (max from_ 0) (min (max good 0) (l.length : Int))) (min (stampedL l : Int) (min (max good 0) (l.length : Int))) (max stable 0) horizon ((l.take (min (min (max good 0) (l.length : Int)) (min (max from_ 0) (min (max good 0) (l.length : Int)) + 4)).toNat).drop (min (max from_ 0) (min (max good 0) (l.length : Int))).toNat) []).m), .int .i64 ((msgM 3 epoch base (min (max from_ 0) (min (max good 0) (l.length : Int))) (min (stampedL l : Int) (min (max good 0) (l.length : Int))) (max stable 0) horizon ((l.take (min (min (max good 0) (l.length : Int)) (min (max from_ 0) (min (max good 0) (l.length : Int)) + 4)).toNat).drop (min (max from_ 0) (min (max good 0) (l.length : Int))).toNat) []).p), .int .i64 ((msgM 3 epoch base (min (max from_ 0) (min (max good 0) (l.length : Int))) (min (stampedL l : Int) (min (max good 0) (l.length : Int))) (max stable 0) horizon ((l.take (min (min (max good 0) (l.length : Int)) (min (max from_ 0) (min (max good 0) (l.length : Int)) + 4)).toNat).drop (min (max from_ 0) (min (max good 0) (l.length : Int))).toNat) []).e), .string ((msgM 3 epoch base (min (max from_ 0) (min (max good 0) (l.length : Int))) (min (stampedL l : Int) (min (max good 0) (l.length : Int))) (max stable 0) horizon ((l.take (min (min (max good 0) (l.length : Int)) (min (max from_ 0) (min (max good 0) (l.length : Int)) + 4)).toNat).drop (min (max from_ 0) (min (max good 0) (l.length : Int))).toNat) []).key), .string ((msgM 3 epoch base (min (max from_ 0) (min (max good 0) (l.length : Int))) (min (stampedL l : Int) (min (max good 0) (l.length : Int))) (max stable 0) horizon ((l.take (min (min (max good 0) (l.length : Int)) (min (max from_ 0) (min (max good 0) (l.length : Int)) + 4)).toNat).drop (min (max from_ 0) (min (max good 0) (l.length : Int))).toNat) []).to_), .int .i64 ((msgM 3 epoch base (min (max from_ 0) (min (max good 0) (l.length : Int))) (min (stampedL l : Int) (min (max good 0) (l.length : Int))) (max stable 0) horizon ((l.take (min (min (max good 0) (l.length : Int)) (min (max from_ 0) (min (max good 0) (l.length : Int)) + 4)).toNat).drop (min (max from_ 0) (min (max good 0) (l.length : Int))).toNat) []).conf.epoch), .slice (aoOf (aggAt vv 14)) (((msgM 3 epoch base (min (max from_ 0) (min (max good 0) (l.length : Int))) (min (stampedL l : Int) (min (max good 0) (l.length : Int))) (max stable 0) horizon ((l.take (min (min (max good 0) (l.length : Int)) (min (max from_ 0) (min (max good 0) (l.length : Int)) + 4)).toNat).drop (min (max from_ 0) (min (max good 0) (l.length : Int))).toNat) []).conf.members).length) (capOf (aggAt vv 14)), .int .u64 ((msgM 3 epoch base (min (max from_ 0) (min (max good 0) (l.length : Int))) (min (stampedL l : Int) (min (max good 0) (l.length : Int))) (max stable 0) horizon ((l.take (min (min (max good 0) (l.length : Int)) (min (max from_ 0) (min (max good 0) (l.length : Int)) + 4)).toNat).drop (min (max from_ 0) (min (max good 0) (l.length : Int))).toNat) []).conf.floor : Int), .int .i64 ((msgM 3 epoch base (min (max from_ 0) (min (max good 0) (l.length : Int))) (min (stampedL l : Int) (min (max good 0) (l.length : Int))) (max stable 0) horizon ((l.take (min (min (max good 0) (l.length : Int)) (min (max from_ 0) (min (max good 0) (l.length : Int)) + 4)).toNat).drop (min (max from_ 0) (min (max good 0) (l.length : Int))).toNat) []).batch.client), .int .i64 ((msgM 3 epoch base (min (max from_ 0) (min (max good 0) (l.length : Int))) (min (stampedL l : Int) (min (max good 0) (l.length : Int))) (max stable 0) horizon ((l.take (min (min (max good 0) (l.length : Int)) (min (max from_ 0) (min (max good 0) (l.length : Int)) + 4)).toNat).drop (min (max from_ 0) (min (max good 0) (l.length : Int))).toNat) []).batch.req), .slice (aoOf (aggAt vv 18)) (((msgM 3 epoch base (min (max from_ 0) (min (max good 0) (l.length : Int))) (min (stampedL l : Int) (min (max good 0) (l.length : Int))) (max stable 0) horizon ((l.take (min (min (max good 0) (l.length : Int)) (min (max from_ 0) (min (max good 0) (l.length : Int)) + 4)).toNat).drop (min (max from_ 0) (min (max good 0) (l.length : Int))).toNat) []).batch.ops).length) (capOf (aggAt vv 18)), .slice (aoOf (aggAt vv 19)) (((msgM 3 epoch base (min (max from_ 0) (min (max good 0) (l.length : Int))) (min (stampedL l : Int) (min (max good 0) (l.length : Int))) (max stable 0) horizon ((l.take (min (min (max good 0) (l.length : Int)) (min (max from_ 0) (min (max good 0) (l.length : Int)) + 4)).toNat).drop (min (max from_ 0) (min (max good 0) (l.length : Int))).toNat) []).entries).length) (capOf (aggAt vv 19)), .slice (aoOf (aggAt vv 20)) (((msgM 3 epoch base (min (max from_ 0) (min (max good 0) (l.length : Int))) (min (stampedL l : Int) (min (max good 0) (l.length : Int))) (max stable 0) horizon ((l.take (min (min (max good 0) (l.length : Int)) (min (max from_ 0) (min (max good 0) (l.length : Int)) + 4)).toNat).drop (min (max from_ 0) (min (max good 0) (l.length : Int))).toNat) []).stamps).length) (capOf (aggAt vv 20)), .slice (aoOf (aggAt vv 21)) (((msgM 3 epoch base (min (max from_ 0) (min (max good 0) (l.length : Int))) (min (stampedL l : Int) (min (max good 0) (l.length : Int))) (max stable 0) horizon ((l.take (min (min (max good 0) (l.length : Int)) (min (max from_ 0) (min (max good 0) (l.length : Int)) + 4)).toNat).drop (min (max from_ 0) (min (max good 0) (l.length : Int))).toNat) []).pairs).length) (capOf (aggAt vv 21))] ∧ ((msgM 3 epoch base (min (max from_ 0) (min (max good 0) (l.length : Int))) (min (stampedL l : Int) (min (max good 0) (l.length : Int))) (max stable 0) horizon ((l.take (min (min (max good 0) (l.length : Int)) (min (max from_ 0) (min (max good 0) (l.length : Int)) + 4)).toNat).drop (min (max from_ 0) (min (max good 0) (l.length : Int))).toNat) []).conf.members).length ≤ capOf (aggAt vv 14) ∧ capOf (aggAt vv 14) ≤ maxLen ∧ ((msgM 3 epoch base (min (max from_ 0) (min (max good 0) (l.length : Int))) (min (stampedL l : Int) (min (max good 0) (l.length : Int))) (max stable 0) horizon ((l.take (min (min (max good 0) (l.length : Int)) (min (max from_ 0) (min (max good 0) (l.length : Int)) + 4)).toNat).drop (min (max from_ 0) (min (max good 0) (l.length : Int))).toNat) []).batch.ops).length ≤ capOf (aggAt vv 18) ∧ capOf (aggAt vv 18) ≤ maxLen ∧ ((msgM 3 epoch base (min (max from_ 0) (min (max good 0) (l.length : Int))) (min (stampedL l : Int) (min (max good 0) (l.length : Int))) (max stable 0) horizon ((l.take (min (min (max good 0) (l.length : Int)) (min (max from_ 0) (min (max good 0) (l.length : Int)) + 4)).toNat).drop (min (max from_ 0) (min (max good 0) (l.length : Int))).toNat) []).entries).length ≤ capOf (aggAt vv 19) ∧ capOf (aggAt vv 19) ≤ maxLen ∧ ((msgM 3 epoch base (min (max from_ 0) (min (max good 0) (l.length : Int))) (min (stampedL l : Int) (min (max good 0) (l.length : Int))) (max stable 0) horizon ((l.take (min (min (max good 0) (l.length : Int)) (min (max from_ 0) (min (max good 0) (l.length : Int)) + 4)).toNat).drop (min (max from_ 0) (min (max good 0) (l.length : Int))).toNat) []).stamps).length ≤ capOf (aggAt vv 20) ∧ capOf (aggAt vv 20) ≤ maxLen ∧ ((msgM 3 epoch base (min (max from_ 0) (min (max good 0) (l.length : Int))) (min (stampedL l : Int) (min (max good 0) (l.length : Int))) (max stable 0) horizon ((l.take (min (min (max good 0) (l.length : Int)) (min (max from_ 0) (min (max good 0) (l.length : Int)) + 4)).toNat).drop (min (max from_ 0) (min (max good 0) (l.length : Int))).toNat) []).pairs).length ≤ capOf (aggAt vv 21) ∧ capOf (aggAt vv 21) ≤ maxLen ∧ (okDMsg (msgM 3 epoch base (min (max from_ 0) (min (max good 0) (l.length : Int))) (min (stampedL l : Int) (min (max good 0) (l.length : Int))) (max stable 0) horizon ((l.take (min (min (max good 0) (l.length : Int)) (min (max from_ 0) (min (max good 0) (l.length : Int)) + 4)).toNat).drop (min (max from_ 0) (min (max good 0) (l.length : Int))).toNat) []))) (True))))) (fun ss vals1 xw => match ss with | 0 => Gx I NoD w I w10 xw [BxC b6 3 [.int .i64 (min (min (max good 0) (l.length : Int)) (min (max from_ 0) (min (max good 0) (l.length : Int)) + 4))], BxC b5 3 [.int .i64 (min (max from_ 0) (min (max good 0) (l.length : Int)))], BxC b4 37 [.int .i64 0, .int .i64 0, .int .i64 0, .int .i64 0, .bool false, .int .u64 0, .int .u64 0, .int .i64 0, .int .i64 0, .int .i64 0, .int .i64 0, .string ByteArray.empty, .string ByteArray.empty, .int .i64 0, .slice none 0 0, .int .u64 0, .int .i64 0, .int .i64 0, .slice none 0 0, .slice none 0 0, .slice none 0 0, .slice none 0 0], BxC b3 22 [.slice ao_v_l l.length cap_v_l], BxC b2 24 [.int .u64 (horizon : Int)], BxC b1 3 [.int .i64 stable], SlC RDEntry (.slice ao_v_l l.length cap_v_l) l] | 1 => Gx I NoD w I w10 xw [BxC (blkOf (funCap (vals1 7) 0)) 3 [.int .i64 base], BxC (blkOf (funCap (vals1 7) 1)) 3 [.int .i64 (min (max from_ 0) (min (max good 0) (l.length : Int)))], BxC (blkOf (funCap (vals1 7) 2)) 3 [.int .i64 (min (stampedL l : Int) (min (max good 0) (l.length : Int)))], BxC b6 3 [.int .i64 (min (min (max good 0) (l.length : Int)) (min (max from_ 0) (min (max good 0) (l.length : Int)) + 4))], BxC b5 3 [.int .i64 (min (max from_ 0) (min (max good 0) (l.length : Int)))], BxC b4 37 [.int .i64 0, .int .i64 0, .int .i64 0, .int .i64 0, .bool false, .int .u64 0, .int .u64 0, .int .i64 0, .int .i64 0, .int .i64 0, .int .i64 0, .string ByteArray.empty, .string ByteArray.empty, .int .i64 0, .slice none 0 0, .int .u64 0, .int .i64 0, .int .i64 0, .slice none 0 0, .slice none 0 0, .slice none 0 0, .slice none 0 0], BxC b3 22 [.slice ao_v_l l.length cap_v_l], BxC b2 24 [.int .u64 (horizon : Int)], BxC b1 3 [.int .i64 stable], SlC RDEntry (.slice ao_v_l l.length cap_v_l) l] | 2 => Gx I NoD w I w10 xw [BxC (blkOf (vals1 10)) 66 [.func (.func 54) #[] #[.pointer (some ⟨(blkOf (funCap (vals1 7) 0)), 0, none⟩), .pointer (some ⟨(blkOf (funCap (vals1 7) 1)), 0, none⟩), .pointer (some ⟨(blkOf (funCap (vals1 7) 2)), 0, none⟩)], .func (.func 32) #[] #[.pointer (some ⟨b1, 0, none⟩), .pointer (some ⟨b2, 0, none⟩)], .func (.func 30) #[] #[.pointer (some ⟨b3, 0, none⟩), .pointer (some ⟨b5, 0, none⟩), .pointer (some ⟨b6, 0, none⟩)]], BxC (blkOf (funCap (vals1 7) 0)) 3 [.int .i64 base], BxC (blkOf (funCap (vals1 7) 1)) 3 [.int .i64 (min (max from_ 0) (min (max good 0) (l.length : Int)))], BxC (blkOf (funCap (vals1 7) 2)) 3 [.int .i64 (min (stampedL l : Int) (min (max good 0) (l.length : Int)))], BxC b6 3 [.int .i64 (min (min (max good 0) (l.length : Int)) (min (max from_ 0) (min (max good 0) (l.length : Int)) + 4))], BxC b5 3 [.int .i64 (min (max from_ 0) (min (max good 0) (l.length : Int)))], BxC b4 37 [.int .i64 0, .int .i64 0, .int .i64 0, .int .i64 0, .bool false, .int .u64 0, .int .u64 0, .int .i64 0, .int .i64 0, .int .i64 0, .int .i64 0, .string ByteArray.empty, .string ByteArray.empty, .int .i64 0, .slice none 0 0, .int .u64 0, .int .i64 0, .int .i64 0, .slice none 0 0, .slice none 0 0, .slice none 0 0, .slice none 0 0], BxC b3 22 [.slice ao_v_l l.length cap_v_l], BxC b2 24 [.int .u64 (horizon : Int)], BxC b1 3 [.int .i64 stable], SlC RDEntry (.slice ao_v_l l.length cap_v_l) l] | 3 => Gx I NoD w I w10 xw [BxC (blkOf (funCap (vals1 7) 0)) 3 [.int .i64 base], BxC (blkOf (funCap (vals1 7) 1)) 3 [.int .i64 (min (max from_ 0) (min (max good 0) (l.length : Int)))], BxC (blkOf (funCap (vals1 7) 2)) 3 [.int .i64 (min (stampedL l : Int) (min (max good 0) (l.length : Int)))], BxC b1 3 [.int .i64 stable], BxC b2 24 [.int .u64 (horizon : Int)], BxC b3 22 [.slice ao_v_l l.length cap_v_l], BxC b5 3 [.int .i64 (min (max from_ 0) (min (max good 0) (l.length : Int)))], BxC b6 3 [.int .i64 (min (min (max good 0) (l.length : Int)) (min (max from_ 0) (min (max good 0) (l.length : Int)) + 4))], SlC RDMember (.slice (aoOf (aggAt (vals1 11) 14)) (((msgM 3 epoch base (min (max from_ 0) (min (max good 0) (l.length : Int))) (min (stampedL l : Int) (min (max good 0) (l.length : Int))) (max stable 0) horizon ((l.take (min (min (max good 0) (l.length : Int)) (min (max from_ 0) (min (max good 0) (l.length : Int)) + 4)).toNat).drop (min (max from_ 0) (min (max good 0) (l.length : Int))).toNat) []).conf.members).length) (capOf (aggAt (vals1 11) 14))) ((msgM 3 epoch base (min (max from_ 0) (min (max good 0) (l.length : Int))) (min (stampedL l : Int) (min (max good 0) (l.length : Int))) (max stable 0) horizon ((l.take (min (min (max good 0) (l.length : Int)) (min (max from_ 0) (min (max good 0) (l.length : Int)) + 4)).toNat).drop (min (max from_ 0) (min (max good 0) (l.length : Int))).toNat) []).conf.members), SlC RDOp (.slice (aoOf (aggAt (vals1 11) 18)) (((msgM 3 epoch base (min (max from_ 0) (min (max good 0) (l.length : Int))) (min (stampedL l : Int) (min (max good 0) (l.length : Int))) (max stable 0) horizon ((l.take (min (min (max good 0) (l.length : Int)) (min (max from_ 0) (min (max good 0) (l.length : Int)) + 4)).toNat).drop (min (max from_ 0) (min (max good 0) (l.length : Int))).toNat) []).batch.ops).length) (capOf (aggAt (vals1 11) 18))) ((msgM 3 epoch base (min (max from_ 0) (min (max good 0) (l.length : Int))) (min (stampedL l : Int) (min (max good 0) (l.length : Int))) (max stable 0) horizon ((l.take (min (min (max good 0) (l.length : Int)) (min (max from_ 0) (min (max good 0) (l.length : Int)) + 4)).toNat).drop (min (max from_ 0) (min (max good 0) (l.length : Int))).toNat) []).batch.ops), SlC RDEntry (.slice (aoOf (aggAt (vals1 11) 19)) (((msgM 3 epoch base (min (max from_ 0) (min (max good 0) (l.length : Int))) (min (stampedL l : Int) (min (max good 0) (l.length : Int))) (max stable 0) horizon ((l.take (min (min (max good 0) (l.length : Int)) (min (max from_ 0) (min (max good 0) (l.length : Int)) + 4)).toNat).drop (min (max from_ 0) (min (max good 0) (l.length : Int))).toNat) []).entries).length) (capOf (aggAt (vals1 11) 19))) ((msgM 3 epoch base (min (max from_ 0) (min (max good 0) (l.length : Int))) (min (stampedL l : Int) (min (max good 0) (l.length : Int))) (max stable 0) horizon ((l.take (min (min (max good 0) (l.length : Int)) (min (max from_ 0) (min (max good 0) (l.length : Int)) + 4)).toNat).drop (min (max from_ 0) (min (max good 0) (l.length : Int))).toNat) []).entries), SlC RU (.slice (aoOf (aggAt (vals1 11) 20)) (((msgM 3 epoch base (min (max from_ 0) (min (max good 0) (l.length : Int))) (min (stampedL l : Int) (min (max good 0) (l.length : Int))) (max stable 0) horizon ((l.take (min (min (max good 0) (l.length : Int)) (min (max from_ 0) (min (max good 0) (l.length : Int)) + 4)).toNat).drop (min (max from_ 0) (min (max good 0) (l.length : Int))).toNat) []).stamps).length) (capOf (aggAt (vals1 11) 20))) ((msgM 3 epoch base (min (max from_ 0) (min (max good 0) (l.length : Int))) (min (stampedL l : Int) (min (max good 0) (l.length : Int))) (max stable 0) horizon ((l.take (min (min (max good 0) (l.length : Int)) (min (max from_ 0) (min (max good 0) (l.length : Int)) + 4)).toNat).drop (min (max from_ 0) (min (max good 0) (l.length : Int))).toNat) []).stamps), SlC RDPair (.slice (aoOf (aggAt (vals1 11) 21)) (((msgM 3 epoch base (min (max from_ 0) (min (max good 0) (l.length : Int))) (min (stampedL l : Int) (min (max good 0) (l.length : Int))) (max stable 0) horizon ((l.take (min (min (max good 0) (l.length : Int)) (min (max from_ 0) (min (max good 0) (l.length : Int)) + 4)).toNat).drop (min (max from_ 0) (min (max good 0) (l.length : Int))).toNat) []).pairs).length) (capOf (aggAt (vals1 11) 21))) ((msgM 3 epoch base (min (max from_ 0) (min (max good 0) (l.length : Int))) (min (stampedL l : Int) (min (max good 0) (l.length : Int))) (max stable 0) horizon ((l.take (min (min (max good 0) (l.length : Int)) (min (max from_ 0) (min (max good 0) (l.length : Int)) + 4)).toNat).drop (min (max from_ 0) (min (max good 0) (l.length : Int))).toNat) []).pairs), BxC b4 37 [.int .i64 0, .int .i64 0, .int .i64 0, .int .i64 0, .bool false, .int .u64 0, .int .u64 0, .int .i64 0, .int .i64 0, .int .i64 0, .int .i64 0, .string ByteArray.empty, .string ByteArray.empty, .int .i64 0, .slice none 0 0, .int .u64 0, .int .i64 0, .int .i64 0, .slice none 0 0, .slice none 0 0, .slice none 0 0, .slice none 0 0], SlC RDEntry (.slice ao_v_l l.length cap_v_l) l] | _ => Gx I NoD w I w10 xw [BxC b4 37 [.int .i64 ((msgM 3 epoch base (min (max from_ 0) (min (max good 0) (l.length : Int))) (min (stampedL l : Int) (min (max good 0) (l.length : Int))) (max stable 0) horizon ((l.take (min (min (max good 0) (l.length : Int)) (min (max from_ 0) (min (max good 0) (l.length : Int)) + 4)).toNat).drop (min (max from_ 0) (min (max good 0) (l.length : Int))).toNat) []).k), .int .i64 ((msgM 3 epoch base (min (max from_ 0) (min (max good 0) (l.length : Int))) (min (stampedL l : Int) (min (max good 0) (l.length : Int))) (max stable 0) horizon ((l.take (min (min (max good 0) (l.length : Int)) (min (max from_ 0) (min (max good 0) (l.length : Int)) + 4)).toNat).drop (min (max from_ 0) (min (max good 0) (l.length : Int))).toNat) []).epoch), .int .i64 ((msgM 3 epoch base (min (max from_ 0) (min (max good 0) (l.length : Int))) (min (stampedL l : Int) (min (max good 0) (l.length : Int))) (max stable 0) horizon ((l.take (min (min (max good 0) (l.length : Int)) (min (max from_ 0) (min (max good 0) (l.length : Int)) + 4)).toNat).drop (min (max from_ 0) (min (max good 0) (l.length : Int))).toNat) []).req), .int .i64 ((msgM 3 epoch base (min (max from_ 0) (min (max good 0) (l.length : Int))) (min (stampedL l : Int) (min (max good 0) (l.length : Int))) (max stable 0) horizon ((l.take (min (min (max good 0) (l.length : Int)) (min (max from_ 0) (min (max good 0) (l.length : Int)) + 4)).toNat).drop (min (max from_ 0) (min (max good 0) (l.length : Int))).toNat) []).serial), .bool ((msgM 3 epoch base (min (max from_ 0) (min (max good 0) (l.length : Int))) (min (stampedL l : Int) (min (max good 0) (l.length : Int))) (max stable 0) horizon ((l.take (min (min (max good 0) (l.length : Int)) (min (max from_ 0) (min (max good 0) (l.length : Int)) + 4)).toNat).drop (min (max from_ 0) (min (max good 0) (l.length : Int))).toNat) []).flag), .int .u64 ((msgM 3 epoch base (min (max from_ 0) (min (max good 0) (l.length : Int))) (min (stampedL l : Int) (min (max good 0) (l.length : Int))) (max stable 0) horizon ((l.take (min (min (max good 0) (l.length : Int)) (min (max from_ 0) (min (max good 0) (l.length : Int)) + 4)).toNat).drop (min (max from_ 0) (min (max good 0) (l.length : Int))).toNat) []).at_ : Int), .int .u64 ((msgM 3 epoch base (min (max from_ 0) (min (max good 0) (l.length : Int))) (min (stampedL l : Int) (min (max good 0) (l.length : Int))) (max stable 0) horizon ((l.take (min (min (max good 0) (l.length : Int)) (min (max from_ 0) (min (max good 0) (l.length : Int)) + 4)).toNat).drop (min (max from_ 0) (min (max good 0) (l.length : Int))).toNat) []).last : Int), .int .i64 ((msgM 3 epoch base (min (max from_ 0) (min (max good 0) (l.length : Int))) (min (stampedL l : Int) (min (max good 0) (l.length : Int))) (max stable 0) horizon ((l.take (min (min (max good 0) (l.length : Int)) (min (max from_ 0) (min (max good 0) (l.length : Int)) + 4)).toNat).drop (min (max from_ 0) (min (max good 0) (l.length : Int))).toNat) []).n), .int .i64 ((msgM 3 epoch base (min (max from_ 0) (min (max good 0) (l.length : Int))) (min (stampedL l : Int) (min (max good 0) (l.length : Int))) (max stable 0) horizon ((l.take (min (min (max good 0) (l.length : Int)) (min (max from_ 0) (min (max good 0) (l.length : Int)) + 4)).toNat).drop (min (max from_ 0) (min (max good 0) (l.length : Int))).toNat) []).m), .int .i64 ((msgM 3 epoch base (min (max from_ 0) (min (max good 0) (l.length : Int))) (min (stampedL l : Int) (min (max good 0) (l.length : Int))) (max stable 0) horizon ((l.take (min (min (max good 0) (l.length : Int)) (min (max from_ 0) (min (max good 0) (l.length : Int)) + 4)).toNat).drop (min (max from_ 0) (min (max good 0) (l.length : Int))).toNat) []).p), .int .i64 ((msgM 3 epoch base (min (max from_ 0) (min (max good 0) (l.length : Int))) (min (stampedL l : Int) (min (max good 0) (l.length : Int))) (max stable 0) horizon ((l.take (min (min (max good 0) (l.length : Int)) (min (max from_ 0) (min (max good 0) (l.length : Int)) + 4)).toNat).drop (min (max from_ 0) (min (max good 0) (l.length : Int))).toNat) []).e), .string ((msgM 3 epoch base (min (max from_ 0) (min (max good 0) (l.length : Int))) (min (stampedL l : Int) (min (max good 0) (l.length : Int))) (max stable 0) horizon ((l.take (min (min (max good 0) (l.length : Int)) (min (max from_ 0) (min (max good 0) (l.length : Int)) + 4)).toNat).drop (min (max from_ 0) (min (max good 0) (l.length : Int))).toNat) []).key), .string ((msgM 3 epoch base (min (max from_ 0) (min (max good 0) (l.length : Int))) (min (stampedL l : Int) (min (max good 0) (l.length : Int))) (max stable 0) horizon ((l.take (min (min (max good 0) (l.length : Int)) (min (max from_ 0) (min (max good 0) (l.length : Int)) + 4)).toNat).drop (min (max from_ 0) (min (max good 0) (l.length : Int))).toNat) []).to_), .int .i64 ((msgM 3 epoch base (min (max from_ 0) (min (max good 0) (l.length : Int))) (min (stampedL l : Int) (min (max good 0) (l.length : Int))) (max stable 0) horizon ((l.take (min (min (max good 0) (l.length : Int)) (min (max from_ 0) (min (max good 0) (l.length : Int)) + 4)).toNat).drop (min (max from_ 0) (min (max good 0) (l.length : Int))).toNat) []).conf.epoch), .slice (aoOf (aggAt (vals1 11) 14)) (((msgM 3 epoch base (min (max from_ 0) (min (max good 0) (l.length : Int))) (min (stampedL l : Int) (min (max good 0) (l.length : Int))) (max stable 0) horizon ((l.take (min (min (max good 0) (l.length : Int)) (min (max from_ 0) (min (max good 0) (l.length : Int)) + 4)).toNat).drop (min (max from_ 0) (min (max good 0) (l.length : Int))).toNat) []).conf.members).length) (capOf (aggAt (vals1 11) 14)), .int .u64 ((msgM 3 epoch base (min (max from_ 0) (min (max good 0) (l.length : Int))) (min (stampedL l : Int) (min (max good 0) (l.length : Int))) (max stable 0) horizon ((l.take (min (min (max good 0) (l.length : Int)) (min (max from_ 0) (min (max good 0) (l.length : Int)) + 4)).toNat).drop (min (max from_ 0) (min (max good 0) (l.length : Int))).toNat) []).conf.floor : Int), .int .i64 ((msgM 3 epoch base (min (max from_ 0) (min (max good 0) (l.length : Int))) (min (stampedL l : Int) (min (max good 0) (l.length : Int))) (max stable 0) horizon ((l.take (min (min (max good 0) (l.length : Int)) (min (max from_ 0) (min (max good 0) (l.length : Int)) + 4)).toNat).drop (min (max from_ 0) (min (max good 0) (l.length : Int))).toNat) []).batch.client), .int .i64 ((msgM 3 epoch base (min (max from_ 0) (min (max good 0) (l.length : Int))) (min (stampedL l : Int) (min (max good 0) (l.length : Int))) (max stable 0) horizon ((l.take (min (min (max good 0) (l.length : Int)) (min (max from_ 0) (min (max good 0) (l.length : Int)) + 4)).toNat).drop (min (max from_ 0) (min (max good 0) (l.length : Int))).toNat) []).batch.req), .slice (aoOf (aggAt (vals1 11) 18)) (((msgM 3 epoch base (min (max from_ 0) (min (max good 0) (l.length : Int))) (min (stampedL l : Int) (min (max good 0) (l.length : Int))) (max stable 0) horizon ((l.take (min (min (max good 0) (l.length : Int)) (min (max from_ 0) (min (max good 0) (l.length : Int)) + 4)).toNat).drop (min (max from_ 0) (min (max good 0) (l.length : Int))).toNat) []).batch.ops).length) (capOf (aggAt (vals1 11) 18)), .slice (aoOf (aggAt (vals1 11) 19)) (((msgM 3 epoch base (min (max from_ 0) (min (max good 0) (l.length : Int))) (min (stampedL l : Int) (min (max good 0) (l.length : Int))) (max stable 0) horizon ((l.take (min (min (max good 0) (l.length : Int)) (min (max from_ 0) (min (max good 0) (l.length : Int)) + 4)).toNat).drop (min (max from_ 0) (min (max good 0) (l.length : Int))).toNat) []).entries).length) (capOf (aggAt (vals1 11) 19)), .slice (aoOf (aggAt (vals1 11) 20)) (((msgM 3 epoch base (min (max from_ 0) (min (max good 0) (l.length : Int))) (min (stampedL l : Int) (min (max good 0) (l.length : Int))) (max stable 0) horizon ((l.take (min (min (max good 0) (l.length : Int)) (min (max from_ 0) (min (max good 0) (l.length : Int)) + 4)).toNat).drop (min (max from_ 0) (min (max good 0) (l.length : Int))).toNat) []).stamps).length) (capOf (aggAt (vals1 11) 20)), .slice (aoOf (aggAt (vals1 11) 21)) (((msgM 3 epoch base (min (max from_ 0) (min (max good 0) (l.length : Int))) (min (stampedL l : Int) (min (max good 0) (l.length : Int))) (max stable 0) horizon ((l.take (min (min (max good 0) (l.length : Int)) (min (max from_ 0) (min (max good 0) (l.length : Int)) + 4)).toNat).drop (min (max from_ 0) (min (max good 0) (l.length : Int))).toNat) []).pairs).length) (capOf (aggAt (vals1 11) 21))], BxC (blkOf (funCap (vals1 7) 0)) 3 [.int .i64 base], BxC (blkOf (funCap (vals1 7) 1)) 3 [.int .i64 (min (max from_ 0) (min (max good 0) (l.length : Int)))], BxC (blkOf (funCap (vals1 7) 2)) 3 [.int .i64 (min (stampedL l : Int) (min (max good 0) (l.length : Int)))], BxC b1 3 [.int .i64 stable], BxC b2 24 [.int .u64 (horizon : Int)], BxC b3 22 [.slice ao_v_l l.length cap_v_l], BxC b5 3 [.int .i64 (min (max from_ 0) (min (max good 0) (l.length : Int)))], BxC b6 3 [.int .i64 (min (min (max good 0) (l.length : Int)) (min (max from_ 0) (min (max good 0) (l.length : Int)) + 4))], SlC RDMember (.slice (aoOf (aggAt (vals1 11) 14)) (((msgM 3 epoch base (min (max from_ 0) (min (max good 0) (l.length : Int))) (min (stampedL l : Int) (min (max good 0) (l.length : Int))) (max stable 0) horizon ((l.take (min (min (max good 0) (l.length : Int)) (min (max from_ 0) (min (max good 0) (l.length : Int)) + 4)).toNat).drop (min (max from_ 0) (min (max good 0) (l.length : Int))).toNat) []).conf.members).length) (capOf (aggAt (vals1 11) 14))) ((msgM 3 epoch base (min (max from_ 0) (min (max good 0) (l.length : Int))) (min (stampedL l : Int) (min (max good 0) (l.length : Int))) (max stable 0) horizon ((l.take (min (min (max good 0) (l.length : Int)) (min (max from_ 0) (min (max good 0) (l.length : Int)) + 4)).toNat).drop (min (max from_ 0) (min (max good 0) (l.length : Int))).toNat) []).conf.members), SlC RDOp (.slice (aoOf (aggAt (vals1 11) 18)) (((msgM 3 epoch base (min (max from_ 0) (min (max good 0) (l.length : Int))) (min (stampedL l : Int) (min (max good 0) (l.length : Int))) (max stable 0) horizon ((l.take (min (min (max good 0) (l.length : Int)) (min (max from_ 0) (min (max good 0) (l.length : Int)) + 4)).toNat).drop (min (max from_ 0) (min (max good 0) (l.length : Int))).toNat) []).batch.ops).length) (capOf (aggAt (vals1 11) 18))) ((msgM 3 epoch base (min (max from_ 0) (min (max good 0) (l.length : Int))) (min (stampedL l : Int) (min (max good 0) (l.length : Int))) (max stable 0) horizon ((l.take (min (min (max good 0) (l.length : Int)) (min (max from_ 0) (min (max good 0) (l.length : Int)) + 4)).toNat).drop (min (max from_ 0) (min (max good 0) (l.length : Int))).toNat) []).batch.ops), SlC RDEntry (.slice (aoOf (aggAt (vals1 11) 19)) (((msgM 3 epoch base (min (max from_ 0) (min (max good 0) (l.length : Int))) (min (stampedL l : Int) (min (max good 0) (l.length : Int))) (max stable 0) horizon ((l.take (min (min (max good 0) (l.length : Int)) (min (max from_ 0) (min (max good 0) (l.length : Int)) + 4)).toNat).drop (min (max from_ 0) (min (max good 0) (l.length : Int))).toNat) []).entries).length) (capOf (aggAt (vals1 11) 19))) ((msgM 3 epoch base (min (max from_ 0) (min (max good 0) (l.length : Int))) (min (stampedL l : Int) (min (max good 0) (l.length : Int))) (max stable 0) horizon ((l.take (min (min (max good 0) (l.length : Int)) (min (max from_ 0) (min (max good 0) (l.length : Int)) + 4)).toNat).drop (min (max from_ 0) (min (max good 0) (l.length : Int))).toNat) []).entries), SlC RU (.slice (aoOf (aggAt (vals1 11) 20)) (((msgM 3 epoch base (min (max from_ 0) (min (max good 0) (l.length : Int))) (min (stampedL l : Int) (min (max good 0) (l.length : Int))) (max stable 0) horizon ((l.take (min (min (max good 0) (l.length : Int)) (min (max from_ 0) (min (max good 0) (l.length : Int)) + 4)).toNat).drop (min (max from_ 0) (min (max good 0) (l.length : Int))).toNat) []).stamps).length) (capOf (aggAt (vals1 11) 20))) ((msgM 3 epoch base (min (max from_ 0) (min (max good 0) (l.length : Int))) (min (stampedL l : Int) (min (max good 0) (l.length : Int))) (max stable 0) horizon ((l.take (min (min (max good 0) (l.length : Int)) (min (max from_ 0) (min (max good 0) (l.length : Int)) + 4)).toNat).drop (min (max from_ 0) (min (max good 0) (l.length : Int))).toNat) []).stamps), SlC RDPair (.slice (aoOf (aggAt (vals1 11) 21)) (((msgM 3 epoch base (min (max from_ 0) (min (max good 0) (l.length : Int))) (min (stampedL l : Int) (min (max good 0) (l.length : Int))) (max stable 0) horizon ((l.take (min (min (max good 0) (l.length : Int)) (min (max from_ 0) (min (max good 0) (l.length : Int)) + 4)).toNat).drop (min (max from_ 0) (min (max good 0) (l.length : Int))).toNat) []).pairs).length) (capOf (aggAt (vals1 11) 21))) ((msgM 3 epoch base (min (max from_ 0) (min (max good 0) (l.length : Int))) (min (stampedL l : Int) (min (max good 0) (l.length : Int))) (max stable 0) horizon ((l.take (min (min (max good 0) (l.length : Int)) (min (max from_ 0) (min (max good 0) (l.length : Int)) + 4)).toNat).drop (min (max from_ 0) (min (max good 0) (l.length : Int))).toNat) []).pairs), SlC RDEntry (.slice ao_v_l l.length cap_v_l) l]) (fun _ => Gx.start H) ?_ ?_
  · intro fr hfr hfe
    refine .cons (fun ss hlo hhi vals1 xw hG hF => ?_) ?_
    · obtain rfl | rfl | rfl : ss = 0 ∨ ss = 1 ∨ ss = 2 := st2 hlo hhi
      · rw [← hfe]
        have hS := (hfr vals1).sub (ts := [0]) (S' := [(0, .int .i64 epoch)]) rfl
        exact L_val hS rfl (Ob_c TB_Relay3 rfl) ⟨rfl, hG⟩
      · rw [← hfe]
        have hS := (hfr vals1).sub (ts := [0]) (S' := [(0, .int .i64 epoch)]) rfl
        exact L_val hS rfl (Ob_c TB_Relay3 rfl) ⟨rfl, hG⟩
      · rw [← hfe]
        have hS := (hfr vals1).sub (ts := [0]) (S' := [(0, .int .i64 epoch)]) rfl
        exact L_val hS rfl (Ob_c TB_Relay3 rfl) ⟨rfl, hG⟩
    refine .cons (fun ss hlo hhi vals1 xw hG hF => ?_) ?_
    · obtain rfl : ss = 0 := Nat.le_antisymm hhi hlo
      rw [← hfe]
      have hS := (hfr vals1).sub (ts := [1]) (S' := [(1, .int .i64 base)]) rfl
      exact L_val hS rfl (Ob_c TB_Relay3 rfl) ⟨rfl, hG⟩
    refine .cons (fun ss hlo hhi vals1 xw hG hF => ?_) ?_
    · obtain rfl : ss = 0 := Nat.le_antisymm hhi hlo
      rw [← hfe]
      have hS := (hfr vals1).sub (ts := [16]) (S' := [(16, .pointer (some ⟨b5, 0, none⟩))]) rfl
      obtain ⟨I2, hI2, H⟩ := Gx.ex hG
      exact L_val hS rfl (Ob_load TB_Relay3 rfl rfl rfl ((H.bx 1 rfl).cell 0 rfl)) ⟨rfl, hG⟩
    refine .cons (fun ss hlo hhi vals1 xw hG hF => ?_) ?_
    · obtain rfl : ss = 0 := Nat.le_antisymm hhi hlo
      rw [← hfe]
      have hS := (hfr vals1).sub (ts := [12]) (S' := [(12, .pointer (some ⟨b3, 0, none⟩))]) rfl
      obtain ⟨I2, hI2, H⟩ := Gx.ex hG
      exact L_val hS rfl (Ob_load TB_Relay3 rfl rfl rfl ((H.bx 3 rfl).cell 0 rfl)) ⟨rfl, hG⟩
    refine .cons (fun ss hlo hhi vals1 xw hG hF => ?_) ?_
    · obtain rfl : ss = 0 := Nat.le_antisymm hhi hlo
      rw [← hfe]
      have hS := (hfr vals1).sub (ts := [36]) (S' := [(36, vals1 3)]) rfl
      have hf3 : vals1 3 = .slice ao_v_l l.length cap_v_l := hF 3 (by decide)
      replace hS := hS.conv (t := 36) rfl hf3
      obtain ⟨I2, hI2, H⟩ := Gx.ex hG
      refine L_call (caps := #[]) hS fn_35_Relay3 rfl rfl rfl rfl rfl (c_item_Stamped _ l _ (H.sl 6 rfl)) fun r yw hr => ?_
      obtain ⟨rfl, hb⟩ := hr
      exact ⟨rfl, Gx.blw hG hb⟩
    refine .cons (fun ss hlo hhi vals1 xw hG hF => ?_) ?_
    · obtain rfl : ss = 0 := Nat.le_antisymm hhi hlo
      rw [← hfe]
      have hS := (hfr vals1).sub (ts := [15]) (S' := [(15, .int .i64 (min (max good 0) (l.length : Int)))]) rfl
      exact L_val hS rfl (Ob_c TB_Relay3 rfl) ⟨rfl, hG⟩
    refine .cons (fun ss hlo hhi vals1 xw hG hF => ?_) ?_
    · obtain rfl : ss = 0 := Nat.le_antisymm hhi hlo
      rw [← hfe]
      have hS := (hfr vals1).sub (ts := [37, 38]) (S' := [(37, vals1 4), (38, vals1 5)]) rfl
      have hf4 : vals1 4 = .int .i64 (stampedL l : Int) := hF 4 (by decide)
      replace hS := hS.conv (t := 37) rfl hf4
      have hf5 : vals1 5 = .int .i64 (min (max good 0) (l.length : Int)) := hF 5 (by decide)
      replace hS := hS.conv (t := 38) rfl hf5
      exact L_val hS rfl (Ob_c TB_Relay3 rfl) ⟨rfl, hG⟩
    refine .cons (fun ss hlo hhi vals1 xw hG hF => ?_) ?_
    · obtain rfl : ss = 0 := Nat.le_antisymm hhi hlo
      rw [← hfe]
      have hS := (hfr vals1).sub (ts := [34, 35, 39]) (S' := [(34, vals1 1), (35, vals1 2), (39, vals1 6)]) rfl
      have hf1 : vals1 1 = .int .i64 base := hF 1 (by decide)
      replace hS := hS.conv (t := 34) rfl hf1
      have hf2 : vals1 2 = .int .i64 (min (max from_ 0) (min (max good 0) (l.length : Int))) := hF 2 (by decide)
      replace hS := hS.conv (t := 35) rfl hf2
      have hf6 : vals1 6 = .int .i64 (min (stampedL l : Int) (min (max good 0) (l.length : Int))) := hF 6 (by decide)
      replace hS := hS.conv (t := 39) rfl hf6
      obtain ⟨I2, hI2, H⟩ := Gx.ex hG
      refine L_hcall H (js := []) rfl (caps := #[]) hS fn_34_Relay3 rfl rfl rfl rfl rfl (fun D1 hS => c_counts base (min (max from_ 0) (min (max good 0) (l.length : Int))) (min (stampedL l : Int) (min (max good 0) (l.length : Int))) _ h_base (show i64ok (min (max from_ 0) (min (max good 0) (l.length : Int))) by unfold i64ok; omega) (show i64ok (min (stampedL l : Int) (min (max good 0) (l.length : Int))) by unfold i64ok; omega) hS) fun _ yw D1 hr hF2 => ?_
      obtain ⟨g0_, g1_, g2_, rfl, I3, K⟩ := hr
      obtain ⟨hK, H2⟩ := hF2 K
      exact ⟨rfl, Gx.go hG hI2 hK K.imm H2⟩
    refine .cons (fun ss hlo hhi vals1 xw hG hF => ?_) ?_
    · obtain rfl | rfl : ss = 0 ∨ ss = 1 := st1 hlo hhi
      · rw [← hfe]
        have hS := (hfr vals1).sub (ts := [19]) (S' := [(19, .func (.func 32) #[] #[.pointer (some ⟨b1, 0, none⟩), .pointer (some ⟨b2, 0, none⟩)])]) rfl
        exact L_val hS rfl (Ob_c TB_Relay3 rfl) ⟨rfl, hG⟩
      · rw [← hfe]
        have hS := (hfr vals1).sub (ts := [19]) (S' := [(19, .func (.func 32) #[] #[.pointer (some ⟨b1, 0, none⟩), .pointer (some ⟨b2, 0, none⟩)])]) rfl
        exact L_val hS rfl (Ob_c TB_Relay3 rfl) ⟨rfl, hG⟩
    refine .cons (fun ss hlo hhi vals1 xw hG hF => ?_) ?_
    · obtain rfl | rfl : ss = 0 ∨ ss = 1 := st1 hlo hhi
      · rw [← hfe]
        have hS := (hfr vals1).sub (ts := [18]) (S' := [(18, .func (.func 30) #[] #[.pointer (some ⟨b3, 0, none⟩), .pointer (some ⟨b5, 0, none⟩), .pointer (some ⟨b6, 0, none⟩)])]) rfl
        exact L_val hS rfl (Ob_c TB_Relay3 rfl) ⟨rfl, hG⟩
      · rw [← hfe]
        have hS := (hfr vals1).sub (ts := [18]) (S' := [(18, .func (.func 30) #[] #[.pointer (some ⟨b3, 0, none⟩), .pointer (some ⟨b5, 0, none⟩), .pointer (some ⟨b6, 0, none⟩)])]) rfl
        exact L_val hS rfl (Ob_c TB_Relay3 rfl) ⟨rfl, hG⟩
    refine .cons (fun ss hlo hhi vals1 xw hG hF => ?_) ?_
    · obtain rfl : ss = 1 := Nat.le_antisymm hhi hlo
      rw [← hfe]
      have hS := (hfr vals1).sub (ts := [40, 41, 42]) (S' := [(40, vals1 7), (41, vals1 8), (42, vals1 9)]) rfl
      have hf7 : vals1 7 = .func (.func 54) #[] #[.pointer (some ⟨(blkOf (funCap (vals1 7) 0)), 0, none⟩), .pointer (some ⟨(blkOf (funCap (vals1 7) 1)), 0, none⟩), .pointer (some ⟨(blkOf (funCap (vals1 7) 2)), 0, none⟩)] := hF 7 (by decide)
      replace hS := hS.conv (t := 40) rfl hf7
      have hf8 : vals1 8 = .func (.func 32) #[] #[.pointer (some ⟨b1, 0, none⟩), .pointer (some ⟨b2, 0, none⟩)] := hF 8 (by decide)
      replace hS := hS.conv (t := 41) rfl hf8
      have hf9 : vals1 9 = .func (.func 30) #[] #[.pointer (some ⟨b3, 0, none⟩), .pointer (some ⟨b5, 0, none⟩), .pointer (some ⟨b6, 0, none⟩)] := hF 9 (by decide)
      replace hS := hS.conv (t := 42) rfl hf9
      obtain ⟨I2, hI2, H⟩ := Gx.ex hG
      exact L_bslice H (vs := [(0, .func (.func 54) #[] #[.pointer (some ⟨(blkOf (funCap (vals1 7) 0)), 0, none⟩), .pointer (some ⟨(blkOf (funCap (vals1 7) 1)), 0, none⟩), .pointer (some ⟨(blkOf (funCap (vals1 7) 2)), 0, none⟩)]), (1, .func (.func 32) #[] #[.pointer (some ⟨b1, 0, none⟩), .pointer (some ⟨b2, 0, none⟩)]), (2, .func (.func 30) #[] #[.pointer (some ⟨b3, 0, none⟩), .pointer (some ⟨b5, 0, none⟩), .pointer (some ⟨b6, 0, none⟩)])]) (cl := [.func (.func 54) #[] #[.pointer (some ⟨(blkOf (funCap (vals1 7) 0)), 0, none⟩), .pointer (some ⟨(blkOf (funCap (vals1 7) 1)), 0, none⟩), .pointer (some ⟨(blkOf (funCap (vals1 7) 2)), 0, none⟩)], .func (.func 32) #[] #[.pointer (some ⟨b1, 0, none⟩), .pointer (some ⟨b2, 0, none⟩)], .func (.func 30) #[] #[.pointer (some ⟨b3, 0, none⟩), .pointer (some ⟨b5, 0, none⟩), .pointer (some ⟨b6, 0, none⟩)]]) (e := 66) hS rfl rfl rfl (fun w => run_bslice (z := .nilFunc) (m := 1) Try.underlying97 (by kernel_rfl) rfl rfl (by decide) (by simp [Instr.fill, Value.cells]) w) fun yw b hK H => ⟨rfl, Gx.go hG hI2 hK (fun _ h => h) H⟩
    refine .cons (fun ss hlo hhi vals1 xw hG hF => ?_) ?_
    · obtain rfl : ss = 2 := Nat.le_antisymm hhi hlo
      rw [← hfe]
      have hS := (hfr vals1).sub (ts := [33, 43]) (S' := [(33, vals1 0), (43, vals1 10)]) rfl
      have hf0 : vals1 0 = .int .i64 epoch := hF 0 (by decide)
      replace hS := hS.conv (t := 33) rfl hf0
      have hf10 : vals1 10 = .slice (some ⟨blkOf (vals1 10), 0, none⟩) 3 3 := hF 10 (by decide)
      replace hS := hS.conv (t := 43) rfl hf10
      obtain ⟨I2, hI2, H⟩ := Gx.ex hG
      refine L_hcall H (js := [(0, false), (0, false), (0, false), (0, false), (5, false), (4, false), (3, false), (3, true), (1, false), (0, false)]) rfl (caps := #[]) hS fn_33_Relay3 rfl rfl rfl rfl rfl (fun D1 hS => h_made_Fwd 3 epoch _ _ base _ (min (max from_ 0) (min (max good 0) (l.length : Int))) _ (min (stampedL l : Int) (min (max good 0) (l.length : Int))) _ stable _ horizon _ _ l _ (min (max from_ 0) (min (max good 0) (l.length : Int))) _ (min (min (max good 0) (l.length : Int)) (min (max from_ 0) (min (max good 0) (l.length : Int)) + 4)) _ (show i64ok 3 by unfold i64ok; omega) h_epoch (show i64ok base by unfold i64ok; omega) (show i64ok (min (max from_ 0) (min (max good 0) (l.length : Int))) by unfold i64ok; omega) (show i64ok (min (stampedL l : Int) (min (max good 0) (l.length : Int))) by unfold i64ok; omega) h_stable h_horizon (show i64ok (min (max from_ 0) (min (max good 0) (l.length : Int))) by unfold i64ok; omega) (show i64ok (min (min (max good 0) (l.length : Int)) (min (max from_ 0) (min (max good 0) (l.length : Int)) + 4)) by unfold i64ok; omega) hS (by first | omega | rfl | (simp only [List.length_drop, List.length_take, List.length_append, List.length_cons, List.length_nil]; omega)) (by first | omega | rfl | (simp only [List.length_drop, List.length_take, List.length_append, List.length_cons, List.length_nil]; omega))) fun _ yw D1 hr hF2 => ?_
      obtain ⟨q0_, q1_, q2_, q3_, q4_, rfl, hx0_, I3, K⟩ := hr
      obtain ⟨hK, H2⟩ := hF2 K
      obtain ⟨ao0_, cap0_, rfl, gc0_, gm0_⟩ := H2.slshape 8 rfl
      obtain ⟨ao1_, cap1_, rfl, gc1_, gm1_⟩ := H2.slshape 9 rfl
      obtain ⟨ao2_, cap2_, rfl, gc2_, gm2_⟩ := H2.slshape 10 rfl
      obtain ⟨ao3_, cap3_, rfl, gc3_, gm3_⟩ := H2.slshape 11 rfl
      obtain ⟨ao4_, cap4_, rfl, gc4_, gm4_⟩ := H2.slshape 12 rfl
      exact ⟨⟨rfl, gc0_, gm0_, gc1_, gm1_, gc2_, gm2_, gc3_, gm3_, gc4_, gm4_, hx0_⟩, Gx.go hG hI2 hK K.imm H2⟩
    refine .cons (fun ss hlo hhi vals1 xw hG hF => ?_) ?_
    · obtain rfl : ss = 3 := Nat.le_antisymm hhi hlo
      rw [← hfe]
      have hS := (hfr vals1).sub (ts := [44, 14]) (S' := [(44, vals1 11), (14, .pointer (some ⟨b4, 0, none⟩))]) rfl
      have hf11 : vals1 11 = .agg #[.int .i64 ((msgM 3 epoch base (min (max from_ 0) (min (max good 0) (l.length : Int))) (min (stampedL l : Int) (min (max good 0) (l.length : Int))) (max stable 0) horizon ((l.take (min (min (max good 0) (l.length : Int)) (min (max from_ 0) (min (max good 0) (l.length : Int)) + 4)).toNat).drop (min (max from_ 0) (min (max good 0) (l.length : Int))).toNat) []).k), .int .i64 ((msgM 3 epoch base (min (max from_ 0) (min (max good 0) (l.length : Int))) (min (stampedL l : Int) (min (max good 0) (l.length : Int))) (max stable 0) horizon ((l.take (min (min (max good 0) (l.length : Int)) (min (max from_ 0) (min (max good 0) (l.length : Int)) + 4)).toNat).drop (min (max from_ 0) (min (max good 0) (l.length : Int))).toNat) []).epoch), .int .i64 ((msgM 3 epoch base (min (max from_ 0) (min (max good 0) (l.length : Int))) (min (stampedL l : Int) (min (max good 0) (l.length : Int))) (max stable 0) horizon ((l.take (min (min (max good 0) (l.length : Int)) (min (max from_ 0) (min (max good 0) (l.length : Int)) + 4)).toNat).drop (min (max from_ 0) (min (max good 0) (l.length : Int))).toNat) []).req), .int .i64 ((msgM 3 epoch base (min (max from_ 0) (min (max good 0) (l.length : Int))) (min (stampedL l : Int) (min (max good 0) (l.length : Int))) (max stable 0) horizon ((l.take (min (min (max good 0) (l.length : Int)) (min (max from_ 0) (min (max good 0) (l.length : Int)) + 4)).toNat).drop (min (max from_ 0) (min (max good 0) (l.length : Int))).toNat) []).serial), .bool ((msgM 3 epoch base (min (max from_ 0) (min (max good 0) (l.length : Int))) (min (stampedL l : Int) (min (max good 0) (l.length : Int))) (max stable 0) horizon ((l.take (min (min (max good 0) (l.length : Int)) (min (max from_ 0) (min (max good 0) (l.length : Int)) + 4)).toNat).drop (min (max from_ 0) (min (max good 0) (l.length : Int))).toNat) []).flag), .int .u64 ((msgM 3 epoch base (min (max from_ 0) (min (max good 0) (l.length : Int))) (min (stampedL l : Int) (min (max good 0) (l.length : Int))) (max stable 0) horizon ((l.take (min (min (max good 0) (l.length : Int)) (min (max from_ 0) (min (max good 0) (l.length : Int)) + 4)).toNat).drop (min (max from_ 0) (min (max good 0) (l.length : Int))).toNat) []).at_ : Int), .int .u64 ((msgM 3 epoch base (min (max from_ 0) (min (max good 0) (l.length : Int))) (min (stampedL l : Int) (min (max good 0) (l.length : Int))) (max stable 0) horizon ((l.take (min (min (max good 0) (l.length : Int)) (min (max from_ 0) (min (max good 0) (l.length : Int)) + 4)).toNat).drop (min (max from_ 0) (min (max good 0) (l.length : Int))).toNat) []).last : Int), .int .i64 ((msgM 3 epoch base (min (max from_ 0) (min (max good 0) (l.length : Int))) (min (stampedL l : Int) (min (max good 0) (l.length : Int))) (max stable 0) horizon ((l.take (min (min (max good 0) (l.length : Int)) (min (max from_ 0) (min (max good 0) (l.length : Int)) + 4)).toNat).drop (min (max from_ 0) (min (max good 0) (l.length : Int))).toNat) []).n), .int .i64 ((msgM 3 epoch base (min (max from_ 0) (min (max good 0) (l.length : Int))) (min (stampedL l : Int) (min (max good 0) (l.length : Int))) (max stable 0) horizon ((l.take (min (min (max good 0) (l.length : Int)) (min (max from_ 0) (min (max good 0) (l.length : Int)) + 4)).toNat).drop (min (max from_ 0) (min (max good 0) (l.length : Int))).toNat) []).m), .int .i64 ((msgM 3 epoch base (min (max from_ 0) (min (max good 0) (l.length : Int))) (min (stampedL l : Int) (min (max good 0) (l.length : Int))) (max stable 0) horizon ((l.take (min (min (max good 0) (l.length : Int)) (min (max from_ 0) (min (max good 0) (l.length : Int)) + 4)).toNat).drop (min (max from_ 0) (min (max good 0) (l.length : Int))).toNat) []).p), .int .i64 ((msgM 3 epoch base (min (max from_ 0) (min (max good 0) (l.length : Int))) (min (stampedL l : Int) (min (max good 0) (l.length : Int))) (max stable 0) horizon ((l.take (min (min (max good 0) (l.length : Int)) (min (max from_ 0) (min (max good 0) (l.length : Int)) + 4)).toNat).drop (min (max from_ 0) (min (max good 0) (l.length : Int))).toNat) []).e), .string ((msgM 3 epoch base (min (max from_ 0) (min (max good 0) (l.length : Int))) (min (stampedL l : Int) (min (max good 0) (l.length : Int))) (max stable 0) horizon ((l.take (min (min (max good 0) (l.length : Int)) (min (max from_ 0) (min (max good 0) (l.length : Int)) + 4)).toNat).drop (min (max from_ 0) (min (max good 0) (l.length : Int))).toNat) []).key), .string ((msgM 3 epoch base (min (max from_ 0) (min (max good 0) (l.length : Int))) (min (stampedL l : Int) (min (max good 0) (l.length : Int))) (max stable 0) horizon ((l.take (min (min (max good 0) (l.length : Int)) (min (max from_ 0) (min (max good 0) (l.length : Int)) + 4)).toNat).drop (min (max from_ 0) (min (max good 0) (l.length : Int))).toNat) []).to_), .int .i64 ((msgM 3 epoch base (min (max from_ 0) (min (max good 0) (l.length : Int))) (min (stampedL l : Int) (min (max good 0) (l.length : Int))) (max stable 0) horizon ((l.take (min (min (max good 0) (l.length : Int)) (min (max from_ 0) (min (max good 0) (l.length : Int)) + 4)).toNat).drop (min (max from_ 0) (min (max good 0) (l.length : Int))).toNat) []).conf.epoch), .slice (aoOf (aggAt (vals1 11) 14)) (((msgM 3 epoch base (min (max from_ 0) (min (max good 0) (l.length : Int))) (min (stampedL l : Int) (min (max good 0) (l.length : Int))) (max stable 0) horizon ((l.take (min (min (max good 0) (l.length : Int)) (min (max from_ 0) (min (max good 0) (l.length : Int)) + 4)).toNat).drop (min (max from_ 0) (min (max good 0) (l.length : Int))).toNat) []).conf.members).length) (capOf (aggAt (vals1 11) 14)), .int .u64 ((msgM 3 epoch base (min (max from_ 0) (min (max good 0) (l.length : Int))) (min (stampedL l : Int) (min (max good 0) (l.length : Int))) (max stable 0) horizon ((l.take (min (min (max good 0) (l.length : Int)) (min (max from_ 0) (min (max good 0) (l.length : Int)) + 4)).toNat).drop (min (max from_ 0) (min (max good 0) (l.length : Int))).toNat) []).conf.floor : Int), .int .i64 ((msgM 3 epoch base (min (max from_ 0) (min (max good 0) (l.length : Int))) (min (stampedL l : Int) (min (max good 0) (l.length : Int))) (max stable 0) horizon ((l.take (min (min (max good 0) (l.length : Int)) (min (max from_ 0) (min (max good 0) (l.length : Int)) + 4)).toNat).drop (min (max from_ 0) (min (max good 0) (l.length : Int))).toNat) []).batch.client), .int .i64 ((msgM 3 epoch base (min (max from_ 0) (min (max good 0) (l.length : Int))) (min (stampedL l : Int) (min (max good 0) (l.length : Int))) (max stable 0) horizon ((l.take (min (min (max good 0) (l.length : Int)) (min (max from_ 0) (min (max good 0) (l.length : Int)) + 4)).toNat).drop (min (max from_ 0) (min (max good 0) (l.length : Int))).toNat) []).batch.req), .slice (aoOf (aggAt (vals1 11) 18)) (((msgM 3 epoch base (min (max from_ 0) (min (max good 0) (l.length : Int))) (min (stampedL l : Int) (min (max good 0) (l.length : Int))) (max stable 0) horizon ((l.take (min (min (max good 0) (l.length : Int)) (min (max from_ 0) (min (max good 0) (l.length : Int)) + 4)).toNat).drop (min (max from_ 0) (min (max good 0) (l.length : Int))).toNat) []).batch.ops).length) (capOf (aggAt (vals1 11) 18)), .slice (aoOf (aggAt (vals1 11) 19)) (((msgM 3 epoch base (min (max from_ 0) (min (max good 0) (l.length : Int))) (min (stampedL l : Int) (min (max good 0) (l.length : Int))) (max stable 0) horizon ((l.take (min (min (max good 0) (l.length : Int)) (min (max from_ 0) (min (max good 0) (l.length : Int)) + 4)).toNat).drop (min (max from_ 0) (min (max good 0) (l.length : Int))).toNat) []).entries).length) (capOf (aggAt (vals1 11) 19)), .slice (aoOf (aggAt (vals1 11) 20)) (((msgM 3 epoch base (min (max from_ 0) (min (max good 0) (l.length : Int))) (min (stampedL l : Int) (min (max good 0) (l.length : Int))) (max stable 0) horizon ((l.take (min (min (max good 0) (l.length : Int)) (min (max from_ 0) (min (max good 0) (l.length : Int)) + 4)).toNat).drop (min (max from_ 0) (min (max good 0) (l.length : Int))).toNat) []).stamps).length) (capOf (aggAt (vals1 11) 20)), .slice (aoOf (aggAt (vals1 11) 21)) (((msgM 3 epoch base (min (max from_ 0) (min (max good 0) (l.length : Int))) (min (stampedL l : Int) (min (max good 0) (l.length : Int))) (max stable 0) horizon ((l.take (min (min (max good 0) (l.length : Int)) (min (max from_ 0) (min (max good 0) (l.length : Int)) + 4)).toNat).drop (min (max from_ 0) (min (max good 0) (l.length : Int))).toNat) []).pairs).length) (capOf (aggAt (vals1 11) 21))] ∧ ((msgM 3 epoch base (min (max from_ 0) (min (max good 0) (l.length : Int))) (min (stampedL l : Int) (min (max good 0) (l.length : Int))) (max stable 0) horizon ((l.take (min (min (max good 0) (l.length : Int)) (min (max from_ 0) (min (max good 0) (l.length : Int)) + 4)).toNat).drop (min (max from_ 0) (min (max good 0) (l.length : Int))).toNat) []).conf.members).length ≤ capOf (aggAt (vals1 11) 14) ∧ capOf (aggAt (vals1 11) 14) ≤ maxLen ∧ ((msgM 3 epoch base (min (max from_ 0) (min (max good 0) (l.length : Int))) (min (stampedL l : Int) (min (max good 0) (l.length : Int))) (max stable 0) horizon ((l.take (min (min (max good 0) (l.length : Int)) (min (max from_ 0) (min (max good 0) (l.length : Int)) + 4)).toNat).drop (min (max from_ 0) (min (max good 0) (l.length : Int))).toNat) []).batch.ops).length ≤ capOf (aggAt (vals1 11) 18) ∧ capOf (aggAt (vals1 11) 18) ≤ maxLen ∧ ((msgM 3 epoch base (min (max from_ 0) (min (max good 0) (l.length : Int))) (min (stampedL l : Int) (min (max good 0) (l.length : Int))) (max stable 0) horizon ((l.take (min (min (max good 0) (l.length : Int)) (min (max from_ 0) (min (max good 0) (l.length : Int)) + 4)).toNat).drop (min (max from_ 0) (min (max good 0) (l.length : Int))).toNat) []).entries).length ≤ capOf (aggAt (vals1 11) 19) ∧ capOf (aggAt (vals1 11) 19) ≤ maxLen ∧ ((msgM 3 epoch base (min (max from_ 0) (min (max good 0) (l.length : Int))) (min (stampedL l : Int) (min (max good 0) (l.length : Int))) (max stable 0) horizon ((l.take (min (min (max good 0) (l.length : Int)) (min (max from_ 0) (min (max good 0) (l.length : Int)) + 4)).toNat).drop (min (max from_ 0) (min (max good 0) (l.length : Int))).toNat) []).stamps).length ≤ capOf (aggAt (vals1 11) 20) ∧ capOf (aggAt (vals1 11) 20) ≤ maxLen ∧ ((msgM 3 epoch base (min (max from_ 0) (min (max good 0) (l.length : Int))) (min (stampedL l : Int) (min (max good 0) (l.length : Int))) (max stable 0) horizon ((l.take (min (min (max good 0) (l.length : Int)) (min (max from_ 0) (min (max good 0) (l.length : Int)) + 4)).toNat).drop (min (max from_ 0) (min (max good 0) (l.length : Int))).toNat) []).pairs).length ≤ capOf (aggAt (vals1 11) 21) ∧ capOf (aggAt (vals1 11) 21) ≤ maxLen ∧ (okDMsg (msgM 3 epoch base (min (max from_ 0) (min (max good 0) (l.length : Int))) (min (stampedL l : Int) (min (max good 0) (l.length : Int))) (max stable 0) horizon ((l.take (min (min (max good 0) (l.length : Int)) (min (max from_ 0) (min (max good 0) (l.length : Int)) + 4)).toNat).drop (min (max from_ 0) (min (max good 0) (l.length : Int))).toNat) [])) := hF 11 (by decide)
      replace hS := hS.conv (t := 44) rfl hf11.1
      obtain ⟨I2, hI2, H⟩ := Gx.ex hG
      exact L_store TB_Relay3 H 13 (us := [.int .i64 ((msgM 3 epoch base (min (max from_ 0) (min (max good 0) (l.length : Int))) (min (stampedL l : Int) (min (max good 0) (l.length : Int))) (max stable 0) horizon ((l.take (min (min (max good 0) (l.length : Int)) (min (max from_ 0) (min (max good 0) (l.length : Int)) + 4)).toNat).drop (min (max from_ 0) (min (max good 0) (l.length : Int))).toNat) []).k), .int .i64 ((msgM 3 epoch base (min (max from_ 0) (min (max good 0) (l.length : Int))) (min (stampedL l : Int) (min (max good 0) (l.length : Int))) (max stable 0) horizon ((l.take (min (min (max good 0) (l.length : Int)) (min (max from_ 0) (min (max good 0) (l.length : Int)) + 4)).toNat).drop (min (max from_ 0) (min (max good 0) (l.length : Int))).toNat) []).epoch), .int .i64 ((msgM 3 epoch base (min (max from_ 0) (min (max good 0) (l.length : Int))) (min (stampedL l : Int) (min (max good 0) (l.length : Int))) (max stable 0) horizon ((l.take (min (min (max good 0) (l.length : Int)) (min (max from_ 0) (min (max good 0) (l.length : Int)) + 4)).toNat).drop (min (max from_ 0) (min (max good 0) (l.length : Int))).toNat) []).req), .int .i64 ((msgM 3 epoch base (min (max from_ 0) (min (max good 0) (l.length : Int))) (min (stampedL l : Int) (min (max good 0) (l.length : Int))) (max stable 0) horizon ((l.take (min (min (max good 0) (l.length : Int)) (min (max from_ 0) (min (max good 0) (l.length : Int)) + 4)).toNat).drop (min (max from_ 0) (min (max good 0) (l.length : Int))).toNat) []).serial), .bool ((msgM 3 epoch base (min (max from_ 0) (min (max good 0) (l.length : Int))) (min (stampedL l : Int) (min (max good 0) (l.length : Int))) (max stable 0) horizon ((l.take (min (min (max good 0) (l.length : Int)) (min (max from_ 0) (min (max good 0) (l.length : Int)) + 4)).toNat).drop (min (max from_ 0) (min (max good 0) (l.length : Int))).toNat) []).flag), .int .u64 ((msgM 3 epoch base (min (max from_ 0) (min (max good 0) (l.length : Int))) (min (stampedL l : Int) (min (max good 0) (l.length : Int))) (max stable 0) horizon ((l.take (min (min (max good 0) (l.length : Int)) (min (max from_ 0) (min (max good 0) (l.length : Int)) + 4)).toNat).drop (min (max from_ 0) (min (max good 0) (l.length : Int))).toNat) []).at_ : Int), .int .u64 ((msgM 3 epoch base (min (max from_ 0) (min (max good 0) (l.length : Int))) (min (stampedL l : Int) (min (max good 0) (l.length : Int))) (max stable 0) horizon ((l.take (min (min (max good 0) (l.length : Int)) (min (max from_ 0) (min (max good 0) (l.length : Int)) + 4)).toNat).drop (min (max from_ 0) (min (max good 0) (l.length : Int))).toNat) []).last : Int), .int .i64 ((msgM 3 epoch base (min (max from_ 0) (min (max good 0) (l.length : Int))) (min (stampedL l : Int) (min (max good 0) (l.length : Int))) (max stable 0) horizon ((l.take (min (min (max good 0) (l.length : Int)) (min (max from_ 0) (min (max good 0) (l.length : Int)) + 4)).toNat).drop (min (max from_ 0) (min (max good 0) (l.length : Int))).toNat) []).n), .int .i64 ((msgM 3 epoch base (min (max from_ 0) (min (max good 0) (l.length : Int))) (min (stampedL l : Int) (min (max good 0) (l.length : Int))) (max stable 0) horizon ((l.take (min (min (max good 0) (l.length : Int)) (min (max from_ 0) (min (max good 0) (l.length : Int)) + 4)).toNat).drop (min (max from_ 0) (min (max good 0) (l.length : Int))).toNat) []).m), .int .i64 ((msgM 3 epoch base (min (max from_ 0) (min (max good 0) (l.length : Int))) (min (stampedL l : Int) (min (max good 0) (l.length : Int))) (max stable 0) horizon ((l.take (min (min (max good 0) (l.length : Int)) (min (max from_ 0) (min (max good 0) (l.length : Int)) + 4)).toNat).drop (min (max from_ 0) (min (max good 0) (l.length : Int))).toNat) []).p), .int .i64 ((msgM 3 epoch base (min (max from_ 0) (min (max good 0) (l.length : Int))) (min (stampedL l : Int) (min (max good 0) (l.length : Int))) (max stable 0) horizon ((l.take (min (min (max good 0) (l.length : Int)) (min (max from_ 0) (min (max good 0) (l.length : Int)) + 4)).toNat).drop (min (max from_ 0) (min (max good 0) (l.length : Int))).toNat) []).e), .string ((msgM 3 epoch base (min (max from_ 0) (min (max good 0) (l.length : Int))) (min (stampedL l : Int) (min (max good 0) (l.length : Int))) (max stable 0) horizon ((l.take (min (min (max good 0) (l.length : Int)) (min (max from_ 0) (min (max good 0) (l.length : Int)) + 4)).toNat).drop (min (max from_ 0) (min (max good 0) (l.length : Int))).toNat) []).key), .string ((msgM 3 epoch base (min (max from_ 0) (min (max good 0) (l.length : Int))) (min (stampedL l : Int) (min (max good 0) (l.length : Int))) (max stable 0) horizon ((l.take (min (min (max good 0) (l.length : Int)) (min (max from_ 0) (min (max good 0) (l.length : Int)) + 4)).toNat).drop (min (max from_ 0) (min (max good 0) (l.length : Int))).toNat) []).to_), .int .i64 ((msgM 3 epoch base (min (max from_ 0) (min (max good 0) (l.length : Int))) (min (stampedL l : Int) (min (max good 0) (l.length : Int))) (max stable 0) horizon ((l.take (min (min (max good 0) (l.length : Int)) (min (max from_ 0) (min (max good 0) (l.length : Int)) + 4)).toNat).drop (min (max from_ 0) (min (max good 0) (l.length : Int))).toNat) []).conf.epoch), .slice (aoOf (aggAt (vals1 11) 14)) (((msgM 3 epoch base (min (max from_ 0) (min (max good 0) (l.length : Int))) (min (stampedL l : Int) (min (max good 0) (l.length : Int))) (max stable 0) horizon ((l.take (min (min (max good 0) (l.length : Int)) (min (max from_ 0) (min (max good 0) (l.length : Int)) + 4)).toNat).drop (min (max from_ 0) (min (max good 0) (l.length : Int))).toNat) []).conf.members).length) (capOf (aggAt (vals1 11) 14)), .int .u64 ((msgM 3 epoch base (min (max from_ 0) (min (max good 0) (l.length : Int))) (min (stampedL l : Int) (min (max good 0) (l.length : Int))) (max stable 0) horizon ((l.take (min (min (max good 0) (l.length : Int)) (min (max from_ 0) (min (max good 0) (l.length : Int)) + 4)).toNat).drop (min (max from_ 0) (min (max good 0) (l.length : Int))).toNat) []).conf.floor : Int), .int .i64 ((msgM 3 epoch base (min (max from_ 0) (min (max good 0) (l.length : Int))) (min (stampedL l : Int) (min (max good 0) (l.length : Int))) (max stable 0) horizon ((l.take (min (min (max good 0) (l.length : Int)) (min (max from_ 0) (min (max good 0) (l.length : Int)) + 4)).toNat).drop (min (max from_ 0) (min (max good 0) (l.length : Int))).toNat) []).batch.client), .int .i64 ((msgM 3 epoch base (min (max from_ 0) (min (max good 0) (l.length : Int))) (min (stampedL l : Int) (min (max good 0) (l.length : Int))) (max stable 0) horizon ((l.take (min (min (max good 0) (l.length : Int)) (min (max from_ 0) (min (max good 0) (l.length : Int)) + 4)).toNat).drop (min (max from_ 0) (min (max good 0) (l.length : Int))).toNat) []).batch.req), .slice (aoOf (aggAt (vals1 11) 18)) (((msgM 3 epoch base (min (max from_ 0) (min (max good 0) (l.length : Int))) (min (stampedL l : Int) (min (max good 0) (l.length : Int))) (max stable 0) horizon ((l.take (min (min (max good 0) (l.length : Int)) (min (max from_ 0) (min (max good 0) (l.length : Int)) + 4)).toNat).drop (min (max from_ 0) (min (max good 0) (l.length : Int))).toNat) []).batch.ops).length) (capOf (aggAt (vals1 11) 18)), .slice (aoOf (aggAt (vals1 11) 19)) (((msgM 3 epoch base (min (max from_ 0) (min (max good 0) (l.length : Int))) (min (stampedL l : Int) (min (max good 0) (l.length : Int))) (max stable 0) horizon ((l.take (min (min (max good 0) (l.length : Int)) (min (max from_ 0) (min (max good 0) (l.length : Int)) + 4)).toNat).drop (min (max from_ 0) (min (max good 0) (l.length : Int))).toNat) []).entries).length) (capOf (aggAt (vals1 11) 19)), .slice (aoOf (aggAt (vals1 11) 20)) (((msgM 3 epoch base (min (max from_ 0) (min (max good 0) (l.length : Int))) (min (stampedL l : Int) (min (max good 0) (l.length : Int))) (max stable 0) horizon ((l.take (min (min (max good 0) (l.length : Int)) (min (max from_ 0) (min (max good 0) (l.length : Int)) + 4)).toNat).drop (min (max from_ 0) (min (max good 0) (l.length : Int))).toNat) []).stamps).length) (capOf (aggAt (vals1 11) 20)), .slice (aoOf (aggAt (vals1 11) 21)) (((msgM 3 epoch base (min (max from_ 0) (min (max good 0) (l.length : Int))) (min (stampedL l : Int) (min (max good 0) (l.length : Int))) (max stable 0) horizon ((l.take (min (min (max good 0) (l.length : Int)) (min (max from_ 0) (min (max good 0) (l.length : Int)) + 4)).toNat).drop (min (max from_ 0) (min (max good 0) (l.length : Int))).toNat) []).pairs).length) (capOf (aggAt (vals1 11) 21))]) (cl' := [.int .i64 ((msgM 3 epoch base (min (max from_ 0) (min (max good 0) (l.length : Int))) (min (stampedL l : Int) (min (max good 0) (l.length : Int))) (max stable 0) horizon ((l.take (min (min (max good 0) (l.length : Int)) (min (max from_ 0) (min (max good 0) (l.length : Int)) + 4)).toNat).drop (min (max from_ 0) (min (max good 0) (l.length : Int))).toNat) []).k), .int .i64 ((msgM 3 epoch base (min (max from_ 0) (min (max good 0) (l.length : Int))) (min (stampedL l : Int) (min (max good 0) (l.length : Int))) (max stable 0) horizon ((l.take (min (min (max good 0) (l.length : Int)) (min (max from_ 0) (min (max good 0) (l.length : Int)) + 4)).toNat).drop (min (max from_ 0) (min (max good 0) (l.length : Int))).toNat) []).epoch), .int .i64 ((msgM 3 epoch base (min (max from_ 0) (min (max good 0) (l.length : Int))) (min (stampedL l : Int) (min (max good 0) (l.length : Int))) (max stable 0) horizon ((l.take (min (min (max good 0) (l.length : Int)) (min (max from_ 0) (min (max good 0) (l.length : Int)) + 4)).toNat).drop (min (max from_ 0) (min (max good 0) (l.length : Int))).toNat) []).req), .int .i64 ((msgM 3 epoch base (min (max from_ 0) (min (max good 0) (l.length : Int))) (min (stampedL l : Int) (min (max good 0) (l.length : Int))) (max stable 0) horizon ((l.take (min (min (max good 0) (l.length : Int)) (min (max from_ 0) (min (max good 0) (l.length : Int)) + 4)).toNat).drop (min (max from_ 0) (min (max good 0) (l.length : Int))).toNat) []).serial), .bool ((msgM 3 epoch base (min (max from_ 0) (min (max good 0) (l.length : Int))) (min (stampedL l : Int) (min (max good 0) (l.length : Int))) (max stable 0) horizon ((l.take (min (min (max good 0) (l.length : Int)) (min (max from_ 0) (min (max good 0) (l.length : Int)) + 4)).toNat).drop (min (max from_ 0) (min (max good 0) (l.length : Int))).toNat) []).flag), .int .u64 ((msgM 3 epoch base (min (max from_ 0) (min (max good 0) (l.length : Int))) (min (stampedL l : Int) (min (max good 0) (l.length : Int))) (max stable 0) horizon ((l.take (min (min (max good 0) (l.length : Int)) (min (max from_ 0) (min (max good 0) (l.length : Int)) + 4)).toNat).drop (min (max from_ 0) (min (max good 0) (l.length : Int))).toNat) []).at_ : Int), .int .u64 ((msgM 3 epoch base (min (max from_ 0) (min (max good 0) (l.length : Int))) (min (stampedL l : Int) (min (max good 0) (l.length : Int))) (max stable 0) horizon ((l.take (min (min (max good 0) (l.length : Int)) (min (max from_ 0) (min (max good 0) (l.length : Int)) + 4)).toNat).drop (min (max from_ 0) (min (max good 0) (l.length : Int))).toNat) []).last : Int), .int .i64 ((msgM 3 epoch base (min (max from_ 0) (min (max good 0) (l.length : Int))) (min (stampedL l : Int) (min (max good 0) (l.length : Int))) (max stable 0) horizon ((l.take (min (min (max good 0) (l.length : Int)) (min (max from_ 0) (min (max good 0) (l.length : Int)) + 4)).toNat).drop (min (max from_ 0) (min (max good 0) (l.length : Int))).toNat) []).n), .int .i64 ((msgM 3 epoch base (min (max from_ 0) (min (max good 0) (l.length : Int))) (min (stampedL l : Int) (min (max good 0) (l.length : Int))) (max stable 0) horizon ((l.take (min (min (max good 0) (l.length : Int)) (min (max from_ 0) (min (max good 0) (l.length : Int)) + 4)).toNat).drop (min (max from_ 0) (min (max good 0) (l.length : Int))).toNat) []).m), .int .i64 ((msgM 3 epoch base (min (max from_ 0) (min (max good 0) (l.length : Int))) (min (stampedL l : Int) (min (max good 0) (l.length : Int))) (max stable 0) horizon ((l.take (min (min (max good 0) (l.length : Int)) (min (max from_ 0) (min (max good 0) (l.length : Int)) + 4)).toNat).drop (min (max from_ 0) (min (max good 0) (l.length : Int))).toNat) []).p), .int .i64 ((msgM 3 epoch base (min (max from_ 0) (min (max good 0) (l.length : Int))) (min (stampedL l : Int) (min (max good 0) (l.length : Int))) (max stable 0) horizon ((l.take (min (min (max good 0) (l.length : Int)) (min (max from_ 0) (min (max good 0) (l.length : Int)) + 4)).toNat).drop (min (max from_ 0) (min (max good 0) (l.length : Int))).toNat) []).e), .string ((msgM 3 epoch base (min (max from_ 0) (min (max good 0) (l.length : Int))) (min (stampedL l : Int) (min (max good 0) (l.length : Int))) (max stable 0) horizon ((l.take (min (min (max good 0) (l.length : Int)) (min (max from_ 0) (min (max good 0) (l.length : Int)) + 4)).toNat).drop (min (max from_ 0) (min (max good 0) (l.length : Int))).toNat) []).key), .string ((msgM 3 epoch base (min (max from_ 0) (min (max good 0) (l.length : Int))) (min (stampedL l : Int) (min (max good 0) (l.length : Int))) (max stable 0) horizon ((l.take (min (min (max good 0) (l.length : Int)) (min (max from_ 0) (min (max good 0) (l.length : Int)) + 4)).toNat).drop (min (max from_ 0) (min (max good 0) (l.length : Int))).toNat) []).to_), .int .i64 ((msgM 3 epoch base (min (max from_ 0) (min (max good 0) (l.length : Int))) (min (stampedL l : Int) (min (max good 0) (l.length : Int))) (max stable 0) horizon ((l.take (min (min (max good 0) (l.length : Int)) (min (max from_ 0) (min (max good 0) (l.length : Int)) + 4)).toNat).drop (min (max from_ 0) (min (max good 0) (l.length : Int))).toNat) []).conf.epoch), .slice (aoOf (aggAt (vals1 11) 14)) (((msgM 3 epoch base (min (max from_ 0) (min (max good 0) (l.length : Int))) (min (stampedL l : Int) (min (max good 0) (l.length : Int))) (max stable 0) horizon ((l.take (min (min (max good 0) (l.length : Int)) (min (max from_ 0) (min (max good 0) (l.length : Int)) + 4)).toNat).drop (min (max from_ 0) (min (max good 0) (l.length : Int))).toNat) []).conf.members).length) (capOf (aggAt (vals1 11) 14)), .int .u64 ((msgM 3 epoch base (min (max from_ 0) (min (max good 0) (l.length : Int))) (min (stampedL l : Int) (min (max good 0) (l.length : Int))) (max stable 0) horizon ((l.take (min (min (max good 0) (l.length : Int)) (min (max from_ 0) (min (max good 0) (l.length : Int)) + 4)).toNat).drop (min (max from_ 0) (min (max good 0) (l.length : Int))).toNat) []).conf.floor : Int), .int .i64 ((msgM 3 epoch base (min (max from_ 0) (min (max good 0) (l.length : Int))) (min (stampedL l : Int) (min (max good 0) (l.length : Int))) (max stable 0) horizon ((l.take (min (min (max good 0) (l.length : Int)) (min (max from_ 0) (min (max good 0) (l.length : Int)) + 4)).toNat).drop (min (max from_ 0) (min (max good 0) (l.length : Int))).toNat) []).batch.client), .int .i64 ((msgM 3 epoch base (min (max from_ 0) (min (max good 0) (l.length : Int))) (min (stampedL l : Int) (min (max good 0) (l.length : Int))) (max stable 0) horizon ((l.take (min (min (max good 0) (l.length : Int)) (min (max from_ 0) (min (max good 0) (l.length : Int)) + 4)).toNat).drop (min (max from_ 0) (min (max good 0) (l.length : Int))).toNat) []).batch.req), .slice (aoOf (aggAt (vals1 11) 18)) (((msgM 3 epoch base (min (max from_ 0) (min (max good 0) (l.length : Int))) (min (stampedL l : Int) (min (max good 0) (l.length : Int))) (max stable 0) horizon ((l.take (min (min (max good 0) (l.length : Int)) (min (max from_ 0) (min (max good 0) (l.length : Int)) + 4)).toNat).drop (min (max from_ 0) (min (max good 0) (l.length : Int))).toNat) []).batch.ops).length) (capOf (aggAt (vals1 11) 18)), .slice (aoOf (aggAt (vals1 11) 19)) (((msgM 3 epoch base (min (max from_ 0) (min (max good 0) (l.length : Int))) (min (stampedL l : Int) (min (max good 0) (l.length : Int))) (max stable 0) horizon ((l.take (min (min (max good 0) (l.length : Int)) (min (max from_ 0) (min (max good 0) (l.length : Int)) + 4)).toNat).drop (min (max from_ 0) (min (max good 0) (l.length : Int))).toNat) []).entries).length) (capOf (aggAt (vals1 11) 19)), .slice (aoOf (aggAt (vals1 11) 20)) (((msgM 3 epoch base (min (max from_ 0) (min (max good 0) (l.length : Int))) (min (stampedL l : Int) (min (max good 0) (l.length : Int))) (max stable 0) horizon ((l.take (min (min (max good 0) (l.length : Int)) (min (max from_ 0) (min (max good 0) (l.length : Int)) + 4)).toNat).drop (min (max from_ 0) (min (max good 0) (l.length : Int))).toNat) []).stamps).length) (capOf (aggAt (vals1 11) 20)), .slice (aoOf (aggAt (vals1 11) 21)) (((msgM 3 epoch base (min (max from_ 0) (min (max good 0) (l.length : Int))) (min (stampedL l : Int) (min (max good 0) (l.length : Int))) (max stable 0) horizon ((l.take (min (min (max good 0) (l.length : Int)) (min (max from_ 0) (min (max good 0) (l.length : Int)) + 4)).toNat).drop (min (max from_ 0) (min (max good 0) (l.length : Int))).toNat) []).pairs).length) (capOf (aggAt (vals1 11) 21))]) rfl hS rfl rfl rfl rfl rfl rfl rfl rfl (ones_all rfl) (Nat.le_of_ble_eq_true rfl) (putCells_all rfl) fun yw hK H => ⟨trivial, Gx.go hG hI2 hK (fun _ h => h) H⟩
    exact .nil
  · intro vals1 a w11 hok hG hF
    replace hok := hok.sub (ts := [0, 1, 2, 3, 4, 5, 6, 10, 11, 12, 14, 15, 16, 17, 18, 19]) (S' := [(0, .int .i64 epoch), (1, .int .i64 base), (2, .int .i64 from_), (3, .int .i64 stable), (4, .int .u64 (horizon : Int)), (5, .slice ao_v_l l.length cap_v_l), (6, .int .i64 good), (10, .pointer (some ⟨b1, 0, none⟩)), (11, .pointer (some ⟨b2, 0, none⟩)), (12, .pointer (some ⟨b3, 0, none⟩)), (14, .pointer (some ⟨b4, 0, none⟩)), (15, .int .i64 (min (max good 0) (l.length : Int))), (16, .pointer (some ⟨b5, 0, none⟩)), (17, .pointer (some ⟨b6, 0, none⟩)), (18, .func (.func 30) #[] #[.pointer (some ⟨b3, 0, none⟩), .pointer (some ⟨b5, 0, none⟩), .pointer (some ⟨b6, 0, none⟩)]), (19, .func (.func 32) #[] #[.pointer (some ⟨b1, 0, none⟩), .pointer (some ⟨b2, 0, none⟩)])]) rfl
    have hv_vals1_7 : vals1 7 = .func (.func 54) #[] #[.pointer (some ⟨(blkOf (funCap (vals1 7) 0)), 0, none⟩), .pointer (some ⟨(blkOf (funCap (vals1 7) 1)), 0, none⟩), .pointer (some ⟨(blkOf (funCap (vals1 7) 2)), 0, none⟩)] := hF 7 (by decide)
    have hv_vals1_10 : vals1 10 = .slice (some ⟨blkOf (vals1 10), 0, none⟩) 3 3 := hF 10 (by decide)
    have hv_vals1_11 : vals1 11 = .agg #[.int .i64 ((msgM 3 epoch base (min (max from_ 0) (min (max good 0) (l.length : Int))) (min (stampedL l : Int) (min (max good 0) (l.length : Int))) (max stable 0) horizon ((l.take (min (min (max good 0) (l.length : Int)) (min (max from_ 0) (min (max good 0) (l.length : Int)) + 4)).toNat).drop (min (max from_ 0) (min (max good 0) (l.length : Int))).toNat) []).k), .int .i64 ((msgM 3 epoch base (min (max from_ 0) (min (max good 0) (l.length : Int))) (min (stampedL l : Int) (min (max good 0) (l.length : Int))) (max stable 0) horizon ((l.take (min (min (max good 0) (l.length : Int)) (min (max from_ 0) (min (max good 0) (l.length : Int)) + 4)).toNat).drop (min (max from_ 0) (min (max good 0) (l.length : Int))).toNat) []).epoch), .int .i64 ((msgM 3 epoch base (min (max from_ 0) (min (max good 0) (l.length : Int))) (min (stampedL l : Int) (min (max good 0) (l.length : Int))) (max stable 0) horizon ((l.take (min (min (max good 0) (l.length : Int)) (min (max from_ 0) (min (max good 0) (l.length : Int)) + 4)).toNat).drop (min (max from_ 0) (min (max good 0) (l.length : Int))).toNat) []).req), .int .i64 ((msgM 3 epoch base (min (max from_ 0) (min (max good 0) (l.length : Int))) (min (stampedL l : Int) (min (max good 0) (l.length : Int))) (max stable 0) horizon ((l.take (min (min (max good 0) (l.length : Int)) (min (max from_ 0) (min (max good 0) (l.length : Int)) + 4)).toNat).drop (min (max from_ 0) (min (max good 0) (l.length : Int))).toNat) []).serial), .bool ((msgM 3 epoch base (min (max from_ 0) (min (max good 0) (l.length : Int))) (min (stampedL l : Int) (min (max good 0) (l.length : Int))) (max stable 0) horizon ((l.take (min (min (max good 0) (l.length : Int)) (min (max from_ 0) (min (max good 0) (l.length : Int)) + 4)).toNat).drop (min (max from_ 0) (min (max good 0) (l.length : Int))).toNat) []).flag), .int .u64 ((msgM 3 epoch base (min (max from_ 0) (min (max good 0) (l.length : Int))) (min (stampedL l : Int) (min (max good 0) (l.length : Int))) (max stable 0) horizon ((l.take (min (min (max good 0) (l.length : Int)) (min (max from_ 0) (min (max good 0) (l.length : Int)) + 4)).toNat).drop (min (max from_ 0) (min (max good 0) (l.length : Int))).toNat) []).at_ : Int), .int .u64 ((msgM 3 epoch base (min (max from_ 0) (min (max good 0) (l.length : Int))) (min (stampedL l : Int) (min (max good 0) (l.length : Int))) (max stable 0) horizon ((l.take (min (min (max good 0) (l.length : Int)) (min (max from_ 0) (min (max good 0) (l.length : Int)) + 4)).toNat).drop (min (max from_ 0) (min (max good 0) (l.length : Int))).toNat) []).last : Int), .int .i64 ((msgM 3 epoch base (min (max from_ 0) (min (max good 0) (l.length : Int))) (min (stampedL l : Int) (min (max good 0) (l.length : Int))) (max stable 0) horizon ((l.take (min (min (max good 0) (l.length : Int)) (min (max from_ 0) (min (max good 0) (l.length : Int)) + 4)).toNat).drop (min (max from_ 0) (min (max good 0) (l.length : Int))).toNat) []).n), .int .i64 ((msgM 3 epoch base (min (max from_ 0) (min (max good 0) (l.length : Int))) (min (stampedL l : Int) (min (max good 0) (l.length : Int))) (max stable 0) horizon ((l.take (min (min (max good 0) (l.length : Int)) (min (max from_ 0) (min (max good 0) (l.length : Int)) + 4)).toNat).drop (min (max from_ 0) (min (max good 0) (l.length : Int))).toNat) []).m), .int .i64 ((msgM 3 epoch base (min (max from_ 0) (min (max good 0) (l.length : Int))) (min (stampedL l : Int) (min (max good 0) (l.length : Int))) (max stable 0) horizon ((l.take (min (min (max good 0) (l.length : Int)) (min (max from_ 0) (min (max good 0) (l.length : Int)) + 4)).toNat).drop (min (max from_ 0) (min (max good 0) (l.length : Int))).toNat) []).p), .int .i64 ((msgM 3 epoch base (min (max from_ 0) (min (max good 0) (l.length : Int))) (min (stampedL l : Int) (min (max good 0) (l.length : Int))) (max stable 0) horizon ((l.take (min (min (max good 0) (l.length : Int)) (min (max from_ 0) (min (max good 0) (l.length : Int)) + 4)).toNat).drop (min (max from_ 0) (min (max good 0) (l.length : Int))).toNat) []).e), .string ((msgM 3 epoch base (min (max from_ 0) (min (max good 0) (l.length : Int))) (min (stampedL l : Int) (min (max good 0) (l.length : Int))) (max stable 0) horizon ((l.take (min (min (max good 0) (l.length : Int)) (min (max from_ 0) (min (max good 0) (l.length : Int)) + 4)).toNat).drop (min (max from_ 0) (min (max good 0) (l.length : Int))).toNat) []).key), .string ((msgM 3 epoch base (min (max from_ 0) (min (max good 0) (l.length : Int))) (min (stampedL l : Int) (min (max good 0) (l.length : Int))) (max stable 0) horizon ((l.take (min (min (max good 0) (l.length : Int)) (min (max from_ 0) (min (max good 0) (l.length : Int)) + 4)).toNat).drop (min (max from_ 0) (min (max good 0) (l.length : Int))).toNat) []).to_), .int .i64 ((msgM 3 epoch base (min (max from_ 0) (min (max good 0) (l.length : Int))) (min (stampedL l : Int) (min (max good 0) (l.length : Int))) (max stable 0) horizon ((l.take (min (min (max good 0) (l.length : Int)) (min (max from_ 0) (min (max good 0) (l.length : Int)) + 4)).toNat).drop (min (max from_ 0) (min (max good 0) (l.length : Int))).toNat) []).conf.epoch), .slice (aoOf (aggAt (vals1 11) 14)) (((msgM 3 epoch base (min (max from_ 0) (min (max good 0) (l.length : Int))) (min (stampedL l : Int) (min (max good 0) (l.length : Int))) (max stable 0) horizon ((l.take (min (min (max good 0) (l.length : Int)) (min (max from_ 0) (min (max good 0) (l.length : Int)) + 4)).toNat).drop (min (max from_ 0) (min (max good 0) (l.length : Int))).toNat) []).conf.members).length) (capOf (aggAt (vals1 11) 14)), .int .u64 ((msgM 3 epoch base (min (max from_ 0) (min (max good 0) (l.length : Int))) (min (stampedL l : Int) (min (max good 0) (l.length : Int))) (max stable 0) horizon ((l.take (min (min (max good 0) (l.length : Int)) (min (max from_ 0) (min (max good 0) (l.length : Int)) + 4)).toNat).drop (min (max from_ 0) (min (max good 0) (l.length : Int))).toNat) []).conf.floor : Int), .int .i64 ((msgM 3 epoch base (min (max from_ 0) (min (max good 0) (l.length : Int))) (min (stampedL l : Int) (min (max good 0) (l.length : Int))) (max stable 0) horizon ((l.take (min (min (max good 0) (l.length : Int)) (min (max from_ 0) (min (max good 0) (l.length : Int)) + 4)).toNat).drop (min (max from_ 0) (min (max good 0) (l.length : Int))).toNat) []).batch.client), .int .i64 ((msgM 3 epoch base (min (max from_ 0) (min (max good 0) (l.length : Int))) (min (stampedL l : Int) (min (max good 0) (l.length : Int))) (max stable 0) horizon ((l.take (min (min (max good 0) (l.length : Int)) (min (max from_ 0) (min (max good 0) (l.length : Int)) + 4)).toNat).drop (min (max from_ 0) (min (max good 0) (l.length : Int))).toNat) []).batch.req), .slice (aoOf (aggAt (vals1 11) 18)) (((msgM 3 epoch base (min (max from_ 0) (min (max good 0) (l.length : Int))) (min (stampedL l : Int) (min (max good 0) (l.length : Int))) (max stable 0) horizon ((l.take (min (min (max good 0) (l.length : Int)) (min (max from_ 0) (min (max good 0) (l.length : Int)) + 4)).toNat).drop (min (max from_ 0) (min (max good 0) (l.length : Int))).toNat) []).batch.ops).length) (capOf (aggAt (vals1 11) 18)), .slice (aoOf (aggAt (vals1 11) 19)) (((msgM 3 epoch base (min (max from_ 0) (min (max good 0) (l.length : Int))) (min (stampedL l : Int) (min (max good 0) (l.length : Int))) (max stable 0) horizon ((l.take (min (min (max good 0) (l.length : Int)) (min (max from_ 0) (min (max good 0) (l.length : Int)) + 4)).toNat).drop (min (max from_ 0) (min (max good 0) (l.length : Int))).toNat) []).entries).length) (capOf (aggAt (vals1 11) 19)), .slice (aoOf (aggAt (vals1 11) 20)) (((msgM 3 epoch base (min (max from_ 0) (min (max good 0) (l.length : Int))) (min (stampedL l : Int) (min (max good 0) (l.length : Int))) (max stable 0) horizon ((l.take (min (min (max good 0) (l.length : Int)) (min (max from_ 0) (min (max good 0) (l.length : Int)) + 4)).toNat).drop (min (max from_ 0) (min (max good 0) (l.length : Int))).toNat) []).stamps).length) (capOf (aggAt (vals1 11) 20)), .slice (aoOf (aggAt (vals1 11) 21)) (((msgM 3 epoch base (min (max from_ 0) (min (max good 0) (l.length : Int))) (min (stampedL l : Int) (min (max good 0) (l.length : Int))) (max stable 0) horizon ((l.take (min (min (max good 0) (l.length : Int)) (min (max from_ 0) (min (max good 0) (l.length : Int)) + 4)).toNat).drop (min (max from_ 0) (min (max good 0) (l.length : Int))).toNat) []).pairs).length) (capOf (aggAt (vals1 11) 21))] ∧ ((msgM 3 epoch base (min (max from_ 0) (min (max good 0) (l.length : Int))) (min (stampedL l : Int) (min (max good 0) (l.length : Int))) (max stable 0) horizon ((l.take (min (min (max good 0) (l.length : Int)) (min (max from_ 0) (min (max good 0) (l.length : Int)) + 4)).toNat).drop (min (max from_ 0) (min (max good 0) (l.length : Int))).toNat) []).conf.members).length ≤ capOf (aggAt (vals1 11) 14) ∧ capOf (aggAt (vals1 11) 14) ≤ maxLen ∧ ((msgM 3 epoch base (min (max from_ 0) (min (max good 0) (l.length : Int))) (min (stampedL l : Int) (min (max good 0) (l.length : Int))) (max stable 0) horizon ((l.take (min (min (max good 0) (l.length : Int)) (min (max from_ 0) (min (max good 0) (l.length : Int)) + 4)).toNat).drop (min (max from_ 0) (min (max good 0) (l.length : Int))).toNat) []).batch.ops).length ≤ capOf (aggAt (vals1 11) 18) ∧ capOf (aggAt (vals1 11) 18) ≤ maxLen ∧ ((msgM 3 epoch base (min (max from_ 0) (min (max good 0) (l.length : Int))) (min (stampedL l : Int) (min (max good 0) (l.length : Int))) (max stable 0) horizon ((l.take (min (min (max good 0) (l.length : Int)) (min (max from_ 0) (min (max good 0) (l.length : Int)) + 4)).toNat).drop (min (max from_ 0) (min (max good 0) (l.length : Int))).toNat) []).entries).length ≤ capOf (aggAt (vals1 11) 19) ∧ capOf (aggAt (vals1 11) 19) ≤ maxLen ∧ ((msgM 3 epoch base (min (max from_ 0) (min (max good 0) (l.length : Int))) (min (stampedL l : Int) (min (max good 0) (l.length : Int))) (max stable 0) horizon ((l.take (min (min (max good 0) (l.length : Int)) (min (max from_ 0) (min (max good 0) (l.length : Int)) + 4)).toNat).drop (min (max from_ 0) (min (max good 0) (l.length : Int))).toNat) []).stamps).length ≤ capOf (aggAt (vals1 11) 20) ∧ capOf (aggAt (vals1 11) 20) ≤ maxLen ∧ ((msgM 3 epoch base (min (max from_ 0) (min (max good 0) (l.length : Int))) (min (stampedL l : Int) (min (max good 0) (l.length : Int))) (max stable 0) horizon ((l.take (min (min (max good 0) (l.length : Int)) (min (max from_ 0) (min (max good 0) (l.length : Int)) + 4)).toNat).drop (min (max from_ 0) (min (max good 0) (l.length : Int))).toNat) []).pairs).length ≤ capOf (aggAt (vals1 11) 21) ∧ capOf (aggAt (vals1 11) 21) ≤ maxLen ∧ (okDMsg (msgM 3 epoch base (min (max from_ 0) (min (max good 0) (l.length : Int))) (min (stampedL l : Int) (min (max good 0) (l.length : Int))) (max stable 0) horizon ((l.take (min (min (max good 0) (l.length : Int)) (min (max from_ 0) (min (max good 0) (l.length : Int)) + 4)).toNat).drop (min (max from_ 0) (min (max good 0) (l.length : Int))).toNat) [])) := hF 11 (by decide)
    obtain ⟨I1, hI1, H⟩ := Gx.ex hG
    clear hG hF
    replace H : Hf I NoD w I1 w11 [BxC b4 37 [.int .i64 ((msgM 3 epoch base (min (max from_ 0) (min (max good 0) (l.length : Int))) (min (stampedL l : Int) (min (max good 0) (l.length : Int))) (max stable 0) horizon ((l.take (min (min (max good 0) (l.length : Int)) (min (max from_ 0) (min (max good 0) (l.length : Int)) + 4)).toNat).drop (min (max from_ 0) (min (max good 0) (l.length : Int))).toNat) []).k), .int .i64 ((msgM 3 epoch base (min (max from_ 0) (min (max good 0) (l.length : Int))) (min (stampedL l : Int) (min (max good 0) (l.length : Int))) (max stable 0) horizon ((l.take (min (min (max good 0) (l.length : Int)) (min (max from_ 0) (min (max good 0) (l.length : Int)) + 4)).toNat).drop (min (max from_ 0) (min (max good 0) (l.length : Int))).toNat) []).epoch), .int .i64 ((msgM 3 epoch base (min (max from_ 0) (min (max good 0) (l.length : Int))) (min (stampedL l : Int) (min (max good 0) (l.length : Int))) (max stable 0) horizon ((l.take (min (min (max good 0) (l.length : Int)) (min (max from_ 0) (min (max good 0) (l.length : Int)) + 4)).toNat).drop (min (max from_ 0) (min (max good 0) (l.length : Int))).toNat) []).req), .int .i64 ((msgM 3 epoch base (min (max from_ 0) (min (max good 0) (l.length : Int))) (min (stampedL l : Int) (min (max good 0) (l.length : Int))) (max stable 0) horizon ((l.take (min (min (max good 0) (l.length : Int)) (min (max from_ 0) (min (max good 0) (l.length : Int)) + 4)).toNat).drop (min (max from_ 0) (min (max good 0) (l.length : Int))).toNat) []).serial), .bool ((msgM 3 epoch base (min (max from_ 0) (min (max good 0) (l.length : Int))) (min (stampedL l : Int) (min (max good 0) (l.length : Int))) (max stable 0) horizon ((l.take (min (min (max good 0) (l.length : Int)) (min (max from_ 0) (min (max good 0) (l.length : Int)) + 4)).toNat).drop (min (max from_ 0) (min (max good 0) (l.length : Int))).toNat) []).flag), .int .u64 ((msgM 3 epoch base (min (max from_ 0) (min (max good 0) (l.length : Int))) (min (stampedL l : Int) (min (max good 0) (l.length : Int))) (max stable 0) horizon ((l.take (min (min (max good 0) (l.length : Int)) (min (max from_ 0) (min (max good 0) (l.length : Int)) + 4)).toNat).drop (min (max from_ 0) (min (max good 0) (l.length : Int))).toNat) []).at_ : Int), .int .u64 ((msgM 3 epoch base (min (max from_ 0) (min (max good 0) (l.length : Int))) (min (stampedL l : Int) (min (max good 0) (l.length : Int))) (max stable 0) horizon ((l.take (min (min (max good 0) (l.length : Int)) (min (max from_ 0) (min (max good 0) (l.length : Int)) + 4)).toNat).drop (min (max from_ 0) (min (max good 0) (l.length : Int))).toNat) []).last : Int), .int .i64 ((msgM 3 epoch base (min (max from_ 0) (min (max good 0) (l.length : Int))) (min (stampedL l : Int) (min (max good 0) (l.length : Int))) (max stable 0) horizon ((l.take (min (min (max good 0) (l.length : Int)) (min (max from_ 0) (min (max good 0) (l.length : Int)) + 4)).toNat).drop (min (max from_ 0) (min (max good 0) (l.length : Int))).toNat) []).n), .int .i64 ((msgM 3 epoch base (min (max from_ 0) (min (max good 0) (l.length : Int))) (min (stampedL l : Int) (min (max good 0) (l.length : Int))) (max stable 0) horizon ((l.take (min (min (max good 0) (l.length : Int)) (min (max from_ 0) (min (max good 0) (l.length : Int)) + 4)).toNat).drop (min (max from_ 0) (min (max good 0) (l.length : Int))).toNat) []).m), .int .i64 ((msgM 3 epoch base (min (max from_ 0) (min (max good 0) (l.length : Int))) (min (stampedL l : Int) (min (max good 0) (l.length : Int))) (max stable 0) horizon ((l.take (min (min (max good 0) (l.length : Int)) (min (max from_ 0) (min (max good 0) (l.length : Int)) + 4)).toNat).drop (min (max from_ 0) (min (max good 0) (l.length : Int))).toNat) []).p), .int .i64 ((msgM 3 epoch base (min (max from_ 0) (min (max good 0) (l.length : Int))) (min (stampedL l : Int) (min (max good 0) (l.length : Int))) (max stable 0) horizon ((l.take (min (min (max good 0) (l.length : Int)) (min (max from_ 0) (min (max good 0) (l.length : Int)) + 4)).toNat).drop (min (max from_ 0) (min (max good 0) (l.length : Int))).toNat) []).e), .string ((msgM 3 epoch base (min (max from_ 0) (min (max good 0) (l.length : Int))) (min (stampedL l : Int) (min (max good 0) (l.length : Int))) (max stable 0) horizon ((l.take (min (min (max good 0) (l.length : Int)) (min (max from_ 0) (min (max good 0) (l.length : Int)) + 4)).toNat).drop (min (max from_ 0) (min (max good 0) (l.length : Int))).toNat) []).key), .string ((msgM 3 epoch base (min (max from_ 0) (min (max good 0) (l.length : Int))) (min (stampedL l : Int) (min (max good 0) (l.length : Int))) (max stable 0) horizon ((l.take (min (min (max good 0) (l.length : Int)) (min (max from_ 0) (min (max good 0) (l.length : Int)) + 4)).toNat).drop (min (max from_ 0) (min (max good 0) (l.length : Int))).toNat) []).to_), .int .i64 ((msgM 3 epoch base (min (max from_ 0) (min (max good 0) (l.length : Int))) (min (stampedL l : Int) (min (max good 0) (l.length : Int))) (max stable 0) horizon ((l.take (min (min (max good 0) (l.length : Int)) (min (max from_ 0) (min (max good 0) (l.length : Int)) + 4)).toNat).drop (min (max from_ 0) (min (max good 0) (l.length : Int))).toNat) []).conf.epoch), .slice (aoOf (aggAt (vals1 11) 14)) (((msgM 3 epoch base (min (max from_ 0) (min (max good 0) (l.length : Int))) (min (stampedL l : Int) (min (max good 0) (l.length : Int))) (max stable 0) horizon ((l.take (min (min (max good 0) (l.length : Int)) (min (max from_ 0) (min (max good 0) (l.length : Int)) + 4)).toNat).drop (min (max from_ 0) (min (max good 0) (l.length : Int))).toNat) []).conf.members).length) (capOf (aggAt (vals1 11) 14)), .int .u64 ((msgM 3 epoch base (min (max from_ 0) (min (max good 0) (l.length : Int))) (min (stampedL l : Int) (min (max good 0) (l.length : Int))) (max stable 0) horizon ((l.take (min (min (max good 0) (l.length : Int)) (min (max from_ 0) (min (max good 0) (l.length : Int)) + 4)).toNat).drop (min (max from_ 0) (min (max good 0) (l.length : Int))).toNat) []).conf.floor : Int), .int .i64 ((msgM 3 epoch base (min (max from_ 0) (min (max good 0) (l.length : Int))) (min (stampedL l : Int) (min (max good 0) (l.length : Int))) (max stable 0) horizon ((l.take (min (min (max good 0) (l.length : Int)) (min (max from_ 0) (min (max good 0) (l.length : Int)) + 4)).toNat).drop (min (max from_ 0) (min (max good 0) (l.length : Int))).toNat) []).batch.client), .int .i64 ((msgM 3 epoch base (min (max from_ 0) (min (max good 0) (l.length : Int))) (min (stampedL l : Int) (min (max good 0) (l.length : Int))) (max stable 0) horizon ((l.take (min (min (max good 0) (l.length : Int)) (min (max from_ 0) (min (max good 0) (l.length : Int)) + 4)).toNat).drop (min (max from_ 0) (min (max good 0) (l.length : Int))).toNat) []).batch.req), .slice (aoOf (aggAt (vals1 11) 18)) (((msgM 3 epoch base (min (max from_ 0) (min (max good 0) (l.length : Int))) (min (stampedL l : Int) (min (max good 0) (l.length : Int))) (max stable 0) horizon ((l.take (min (min (max good 0) (l.length : Int)) (min (max from_ 0) (min (max good 0) (l.length : Int)) + 4)).toNat).drop (min (max from_ 0) (min (max good 0) (l.length : Int))).toNat) []).batch.ops).length) (capOf (aggAt (vals1 11) 18)), .slice (aoOf (aggAt (vals1 11) 19)) (((msgM 3 epoch base (min (max from_ 0) (min (max good 0) (l.length : Int))) (min (stampedL l : Int) (min (max good 0) (l.length : Int))) (max stable 0) horizon ((l.take (min (min (max good 0) (l.length : Int)) (min (max from_ 0) (min (max good 0) (l.length : Int)) + 4)).toNat).drop (min (max from_ 0) (min (max good 0) (l.length : Int))).toNat) []).entries).length) (capOf (aggAt (vals1 11) 19)), .slice (aoOf (aggAt (vals1 11) 20)) (((msgM 3 epoch base (min (max from_ 0) (min (max good 0) (l.length : Int))) (min (stampedL l : Int) (min (max good 0) (l.length : Int))) (max stable 0) horizon ((l.take (min (min (max good 0) (l.length : Int)) (min (max from_ 0) (min (max good 0) (l.length : Int)) + 4)).toNat).drop (min (max from_ 0) (min (max good 0) (l.length : Int))).toNat) []).stamps).length) (capOf (aggAt (vals1 11) 20)), .slice (aoOf (aggAt (vals1 11) 21)) (((msgM 3 epoch base (min (max from_ 0) (min (max good 0) (l.length : Int))) (min (stampedL l : Int) (min (max good 0) (l.length : Int))) (max stable 0) horizon ((l.take (min (min (max good 0) (l.length : Int)) (min (max from_ 0) (min (max good 0) (l.length : Int)) + 4)).toNat).drop (min (max from_ 0) (min (max good 0) (l.length : Int))).toNat) []).pairs).length) (capOf (aggAt (vals1 11) 21))], BxC (blkOf (funCap (vals1 7) 0)) 3 [.int .i64 base], BxC (blkOf (funCap (vals1 7) 1)) 3 [.int .i64 (min (max from_ 0) (min (max good 0) (l.length : Int)))], BxC (blkOf (funCap (vals1 7) 2)) 3 [.int .i64 (min (stampedL l : Int) (min (max good 0) (l.length : Int)))], BxC b1 3 [.int .i64 stable], BxC b2 24 [.int .u64 (horizon : Int)], BxC b3 22 [.slice ao_v_l l.length cap_v_l], BxC b5 3 [.int .i64 (min (max from_ 0) (min (max good 0) (l.length : Int)))], BxC b6 3 [.int .i64 (min (min (max good 0) (l.length : Int)) (min (max from_ 0) (min (max good 0) (l.length : Int)) + 4))], SlC RDMember (.slice (aoOf (aggAt (vals1 11) 14)) (((msgM 3 epoch base (min (max from_ 0) (min (max good 0) (l.length : Int))) (min (stampedL l : Int) (min (max good 0) (l.length : Int))) (max stable 0) horizon ((l.take (min (min (max good 0) (l.length : Int)) (min (max from_ 0) (min (max good 0) (l.length : Int)) + 4)).toNat).drop (min (max from_ 0) (min (max good 0) (l.length : Int))).toNat) []).conf.members).length) (capOf (aggAt (vals1 11) 14))) ((msgM 3 epoch base (min (max from_ 0) (min (max good 0) (l.length : Int))) (min (stampedL l : Int) (min (max good 0) (l.length : Int))) (max stable 0) horizon ((l.take (min (min (max good 0) (l.length : Int)) (min (max from_ 0) (min (max good 0) (l.length : Int)) + 4)).toNat).drop (min (max from_ 0) (min (max good 0) (l.length : Int))).toNat) []).conf.members), SlC RDOp (.slice (aoOf (aggAt (vals1 11) 18)) (((msgM 3 epoch base (min (max from_ 0) (min (max good 0) (l.length : Int))) (min (stampedL l : Int) (min (max good 0) (l.length : Int))) (max stable 0) horizon ((l.take (min (min (max good 0) (l.length : Int)) (min (max from_ 0) (min (max good 0) (l.length : Int)) + 4)).toNat).drop (min (max from_ 0) (min (max good 0) (l.length : Int))).toNat) []).batch.ops).length) (capOf (aggAt (vals1 11) 18))) ((msgM 3 epoch base (min (max from_ 0) (min (max good 0) (l.length : Int))) (min (stampedL l : Int) (min (max good 0) (l.length : Int))) (max stable 0) horizon ((l.take (min (min (max good 0) (l.length : Int)) (min (max from_ 0) (min (max good 0) (l.length : Int)) + 4)).toNat).drop (min (max from_ 0) (min (max good 0) (l.length : Int))).toNat) []).batch.ops), SlC RDEntry (.slice (aoOf (aggAt (vals1 11) 19)) (((msgM 3 epoch base (min (max from_ 0) (min (max good 0) (l.length : Int))) (min (stampedL l : Int) (min (max good 0) (l.length : Int))) (max stable 0) horizon ((l.take (min (min (max good 0) (l.length : Int)) (min (max from_ 0) (min (max good 0) (l.length : Int)) + 4)).toNat).drop (min (max from_ 0) (min (max good 0) (l.length : Int))).toNat) []).entries).length) (capOf (aggAt (vals1 11) 19))) ((msgM 3 epoch base (min (max from_ 0) (min (max good 0) (l.length : Int))) (min (stampedL l : Int) (min (max good 0) (l.length : Int))) (max stable 0) horizon ((l.take (min (min (max good 0) (l.length : Int)) (min (max from_ 0) (min (max good 0) (l.length : Int)) + 4)).toNat).drop (min (max from_ 0) (min (max good 0) (l.length : Int))).toNat) []).entries), SlC RU (.slice (aoOf (aggAt (vals1 11) 20)) (((msgM 3 epoch base (min (max from_ 0) (min (max good 0) (l.length : Int))) (min (stampedL l : Int) (min (max good 0) (l.length : Int))) (max stable 0) horizon ((l.take (min (min (max good 0) (l.length : Int)) (min (max from_ 0) (min (max good 0) (l.length : Int)) + 4)).toNat).drop (min (max from_ 0) (min (max good 0) (l.length : Int))).toNat) []).stamps).length) (capOf (aggAt (vals1 11) 20))) ((msgM 3 epoch base (min (max from_ 0) (min (max good 0) (l.length : Int))) (min (stampedL l : Int) (min (max good 0) (l.length : Int))) (max stable 0) horizon ((l.take (min (min (max good 0) (l.length : Int)) (min (max from_ 0) (min (max good 0) (l.length : Int)) + 4)).toNat).drop (min (max from_ 0) (min (max good 0) (l.length : Int))).toNat) []).stamps), SlC RDPair (.slice (aoOf (aggAt (vals1 11) 21)) (((msgM 3 epoch base (min (max from_ 0) (min (max good 0) (l.length : Int))) (min (stampedL l : Int) (min (max good 0) (l.length : Int))) (max stable 0) horizon ((l.take (min (min (max good 0) (l.length : Int)) (min (max from_ 0) (min (max good 0) (l.length : Int)) + 4)).toNat).drop (min (max from_ 0) (min (max good 0) (l.length : Int))).toNat) []).pairs).length) (capOf (aggAt (vals1 11) 21))) ((msgM 3 epoch base (min (max from_ 0) (min (max good 0) (l.length : Int))) (min (stampedL l : Int) (min (max good 0) (l.length : Int))) (max stable 0) horizon ((l.take (min (min (max good 0) (l.length : Int)) (min (max from_ 0) (min (max good 0) (l.length : Int)) + 4)).toNat).drop (min (max from_ 0) (min (max good 0) (l.length : Int))).toNat) []).pairs), SlC RDEntry (.slice ao_v_l l.length cap_v_l) l] := H
    refine p_then ?_
    refine wp_ret ?_
    refine f_ret hok (run_resultsC rfl hok rfl (run_loadVar_agg TB_Relay3 rfl (H.bx 0 rfl).at)) ?_
    refine ⟨.slice (aoOf (aggAt (vals1 11) 14)) (((msgM 3 epoch base (min (max from_ 0) (min (max good 0) (l.length : Int))) (min (stampedL l : Int) (min (max good 0) (l.length : Int))) (max stable 0) horizon ((l.take (min (min (max good 0) (l.length : Int)) (min (max from_ 0) (min (max good 0) (l.length : Int)) + 4)).toNat).drop (min (max from_ 0) (min (max good 0) (l.length : Int))).toNat) []).conf.members).length) (capOf (aggAt (vals1 11) 14)), .slice (aoOf (aggAt (vals1 11) 18)) (((msgM 3 epoch base (min (max from_ 0) (min (max good 0) (l.length : Int))) (min (stampedL l : Int) (min (max good 0) (l.length : Int))) (max stable 0) horizon ((l.take (min (min (max good 0) (l.length : Int)) (min (max from_ 0) (min (max good 0) (l.length : Int)) + 4)).toNat).drop (min (max from_ 0) (min (max good 0) (l.length : Int))).toNat) []).batch.ops).length) (capOf (aggAt (vals1 11) 18)), .slice (aoOf (aggAt (vals1 11) 19)) (((msgM 3 epoch base (min (max from_ 0) (min (max good 0) (l.length : Int))) (min (stampedL l : Int) (min (max good 0) (l.length : Int))) (max stable 0) horizon ((l.take (min (min (max good 0) (l.length : Int)) (min (max from_ 0) (min (max good 0) (l.length : Int)) + 4)).toNat).drop (min (max from_ 0) (min (max good 0) (l.length : Int))).toNat) []).entries).length) (capOf (aggAt (vals1 11) 19)), .slice (aoOf (aggAt (vals1 11) 20)) (((msgM 3 epoch base (min (max from_ 0) (min (max good 0) (l.length : Int))) (min (stampedL l : Int) (min (max good 0) (l.length : Int))) (max stable 0) horizon ((l.take (min (min (max good 0) (l.length : Int)) (min (max from_ 0) (min (max good 0) (l.length : Int)) + 4)).toNat).drop (min (max from_ 0) (min (max good 0) (l.length : Int))).toNat) []).stamps).length) (capOf (aggAt (vals1 11) 20)), .slice (aoOf (aggAt (vals1 11) 21)) (((msgM 3 epoch base (min (max from_ 0) (min (max good 0) (l.length : Int))) (min (stampedL l : Int) (min (max good 0) (l.length : Int))) (max stable 0) horizon ((l.take (min (min (max good 0) (l.length : Int)) (min (max from_ 0) (min (max good 0) (l.length : Int)) + 4)).toNat).drop (min (max from_ 0) (min (max good 0) (l.length : Int))).toNat) []).pairs).length) (capOf (aggAt (vals1 11) 21)), ?_, ?_, ?_, ?_, ?_, ?_, ?_, H.below fun _ h => h⟩
    · clear hok H
      rfl
    · exact (H.slres 9 rfl).mono (fun k h => h.elim (fun h => .inl ((hI k).1 h).1) fun h => (.inr (h.resolve_left id))) (Keep.refl _ _)
    · exact (H.slres 10 rfl).mono (fun k h => h.elim (fun h => .inl ((hI k).1 h).1) fun h => (.inr (h.resolve_left id))) (Keep.refl _ _)
    · exact (H.slres 11 rfl).mono (fun k h => h.elim (fun h => .inl ((hI k).1 h).1) fun h => (.inr (h.resolve_left id))) (Keep.refl _ _)
    · exact (H.slres 12 rfl).mono (fun k h => h.elim (fun h => .inl ((hI k).1 h).1) fun h => (.inr (h.resolve_left id))) (Keep.refl _ _)
    · exact (H.slres 13 rfl).mono (fun k h => h.elim (fun h => .inl ((hI k).1 h).1) fun h => (.inr (h.resolve_left id))) (Keep.refl _ _)
    · exact hv_vals1_11.2.2.2.2.2.2.2.2.2.2.2

end Go.Proofs.Ytmdoimpeacndaaa
