/- Configurations: what the program and the document compute. -/
import Derived.Test.YthmjkcdpbbcdgaaGreatYWire
import Derived.Test.YthmjkcdpbbcdgaaGreatYAI
namespace Go.Proofs.YthmjkcdpbbcdgaaGreat
open Go.RowKit
structure Eruntime_boundsError where
 x : Int
 y : Int
 signed : Bool
 code : Int

instance : Inhabited Eruntime_boundsError := ⟨⟨0, 0, false, 0⟩⟩

def cEruntime_boundsError (x : Eruntime_boundsError) : List Value := [.int .i64 x.x, .int .i64 x.y, .bool x.signed, .int .u8 x.code]

def NEruntime_boundsError : Rp Eruntime_boundsError := Rp.flat 4 (fun _ => True) (fun x => cEruntime_boundsError x) (fun _ => rfl) (fun x c hc => by simp only [cEruntime_boundsError, List.mem_cons, List.not_mem_nil, or_false] at hc; rcases hc with rfl | rfl | rfl | rfl <;> rfl)

structure Eruntime_errorAddressString where
 msg : ByteArray
 addr : Int

instance : Inhabited Eruntime_errorAddressString := ⟨⟨ByteArray.empty, 0⟩⟩

structure EMember where
 id : Int
 serial : Int

instance : Inhabited EMember := ⟨⟨0, 0⟩⟩

def eqEMember (x y : EMember) : Bool := (x.id == y.id) && (x.serial == y.serial)

theorem eqEMember_iff {x y : EMember} : eqEMember x y = true ↔ x = y := by cases x; cases y; simp [eqEMember, seqB_iff, and_assoc]

def cEMember (x : EMember) : List Value := [.int .i64 x.id, .int .i64 x.serial]

def NEMember : Rp EMember := Rp.flat 2 (fun _ => True) (fun x => cEMember x) (fun _ => rfl) (fun x c hc => by simp only [cEMember, List.mem_cons, List.not_mem_nil, or_false] at hc; rcases hc with rfl | rfl <;> rfl)

structure EConf where
 epoch : Int
 members : List EMember
 floor : Int

instance : Inhabited EConf := ⟨⟨0, [], 0⟩⟩

def tCL : TabL := ⟨[(27648, 0), (27649, 1), (27650, 2), (113664, 0), (113665, 1)], [], [], [(25, (111, 2))], [(3, (1, false)), (23, (1, false)), (25, (1, false)), (27, (3, true)), (61, (3, true)), (78, (2, true)), (111, (2, true))]⟩

def tC : Tab Tryz.prog := ⟨tCL, by kernel_rfl⟩

theorem fn_25_YConf : IsFn Tryz.prog 25 := ⟨_, Tryz.func25, by kernel_rfl, by kernel_rfl⟩

theorem fn_28_YConf : IsFn Tryz.prog 28 := ⟨_, Tryz.func28, by kernel_rfl, by kernel_rfl⟩

theorem fn_68_YConf : IsFn Tryz.prog 68 := ⟨_, Tryz.func68, by kernel_rfl, by kernel_rfl⟩

theorem fn_98_YConf : IsFn Tryz.prog 98 := ⟨_, Tryz.func98, by kernel_rfl, by kernel_rfl⟩

theorem fn_121_YConf : IsFn Tryz.prog 121 := ⟨_, Tryz.func121, by kernel_rfl, by kernel_rfl⟩

theorem fn_130_YConf : IsFn Tryz.prog 130 := ⟨_, Tryz.func130, by kernel_rfl, by kernel_rfl⟩

theorem fn_131_YConf : IsFn Tryz.prog 131 := ⟨_, Tryz.func131, by kernel_rfl, by kernel_rfl⟩

theorem fn_133_YConf : IsFn Tryz.prog 133 := ⟨_, Tryz.func133, by kernel_rfl, by kernel_rfl⟩

theorem E_25_YConf : Elem Tryz.prog 25 111 2 16 := ⟨Tryz.underlying25, by
 have h : (Tryz.prog.info? 111).map (fun i => (i.zero, i.size, i.bytes)) = some (some (.agg #[.int .i64 0, .int .i64 0]), 2, 16) := by kernel_rfl
 obtain ⟨i, hi, h1⟩ := Option.map_eq_some_iff.1 h
 simp only [Prod.mk.injEq] at h1
 exact ⟨i, _, hi, h1.1, h1.2.1, h1.2.2, by rfl⟩, by decide⟩

def F_ref07_Check_l2 (c : EConf) (i : Int) (rc : Int → Option Int) (rc_2 : Int → Option Int) (sg : Int) : Option Int := match sg with | k => if (decide (k < i)) = true then (chk ((0 : Int) ≤ k ∧ k < (c.members.length : Int)) (if (((c.members.getD (k).toNat default).id) == ((c.members.getD (i).toNat default).id)) = true then (some 18) else (chk (inI (k + 1)) (rc_2 (k + 1))))) else (chk (inI (i + 1)) (rc (i + 1)))

def F_ref07_Check_l1 (c : EConf) (rc : Int → Option Int) (sg : Int) : Option Int := match sg with | i => if (decide (i < (c.members.length : Int))) = true then (chk ((0 : Int) ≤ i ∧ i < (c.members.length : Int)) (if ((decide ((c.members.getD (i).toNat default).id < 0)) || (decide ((c.members.getD (i).toNat default).id ≥ 4))) = true then (some 1) else (if ((decide ((c.members.getD (i).toNat default).serial < 1)) || (decide ((c.members.getD (i).toNat default).serial > 1073741824))) = true then (some 5) else (iter (F_ref07_Check_l2 c i rc) FU 0)))) else (some 0)

def F_ref07_Check (c : EConf) : Option Int := if ((decide (c.epoch < 1)) || (decide (c.epoch > 1073741824))) = true then (some 5) else (if ((c.members.length : Int) == 0) = true then (some 7) else (if (decide ((c.members.length : Int) > 4)) = true then (some 6) else (iter (F_ref07_Check_l1 c) FU 0)))

set_option maxHeartbeats 1000000 in
theorem c_ref07_Check {I D : Dm} {c : EConf} {v1_c : Value} {w : World} {rr : Int} (hF : F_ref07_Check c = some rr) (H : St I D w [SlC NEMember v1_c c.members]) :
  Calls Tryz.prog 98 #[.agg #[vI c.epoch, v1_c, vU c.floor]] w (Ret fun vv w' => vv = vI rr ∧ ∃ I', Hf I D w I' w' []) := by
 replace H := H.hf
 unfold F_ref07_Check at hF
 refine f_enter 64 Tryz.func98 rfl rfl (Nat.le_of_ble_eq_true rfl) fun a Z => ?_
 replace Z := Z.sub (ts := [0]) rfl
 refine wp_seq (f_region Z ?_); clear Z; intro Z
 refine hB Z H [vI c.epoch, v1_c, vU c.floor] rfl rfl rfl rfl fun a w1 b1 H Z => ?_
 refine s_runk tC Z 1 rfl rfl fun a Z => ?_
 refine s_end Z [1, 2] rfl fun Z => ?_
 refine p_then (wp_seq ?_)
 refine wp_seq (f_region Z ?_); clear Z; intro Z
 refine s_runk tC Z 1 rfl rfl fun a Z => ?_
 refine sO Z _ rfl (oL tC rfl rfl (H.bc 0 0 rfl rfl)) fun a Z => ?_
 refine s_runk tC Z 2 rfl rfl fun a Z => ?_
 refine gO Z (pp b1 0) rfl (wantB_f _) (.n 1 rfl .z) (fun hp => Ob_c tC rfl) fun a Z => ?_
 refine gO Z _ rfl (wantB_f _) (.c 10 rfl id .z) (fun hp => oL tC rfl rfl (H.bc 0 0 rfl rfl)) fun a Z => ?_
 refine gO Z (vT (decide (c.epoch > 1073741824))) rfl (wantB_f _) (.c 11 rfl id .z) (fun hp => Ob_c tC rfl) fun a Z => ?_
 refine sO Z (vT ((decide (c.epoch < 1)) || (decide (c.epoch > 1073741824)))) rfl (Ob_pick rfl rfl rfl rfl (pick_or _ _)) fun a Z => ?_
 refine s_end Z [1, 2, 13] rfl fun Z => ?_
 refine p_then ?_
 refine f_cond Z rfl (fun hc1 => ?_) (fun hc1 => ?_)
 ·replace hF := ite_t hc1 hF
  refine wp_seq (f_region Z ?_); clear Z; intro Z
  refine s_runk tC Z 1 rfl rfl fun a Z => ?_
  refine s_end Z [1, 2] rfl fun Z => ?_
  refine p_then (wp_ret ?_)
  refine p_then_r ?_
  obtain rfl := some_in hF
  exact f_ret Z (run_results1 rfl Z rfl) ⟨rfl, I, (H.sub [] rfl).eq rfl⟩
 ·replace hF := ite_f hc1 hF
  refine wp_skip ?_
  refine p_then (wp_seq ?_)
  refine wp_seq (f_region Z ?_); clear Z; intro Z
  refine s_runk tC Z 1 rfl rfl fun a Z => ?_
  refine sO Z _ rfl (oL tC rfl rfl (H.bc 0 1 rfl rfl)) fun a Z => ?_
  refine sO Z (vI (ln c.members)) rfl (Ob_slen tC rfl rfl rfl (H.slshape 1 rfl)) fun a Z => ?_
  refine s_runk tC Z 1 rfl rfl fun a Z => ?_
  refine s_end Z [1, 2, 17] rfl fun Z => ?_
  refine p_then ?_
  refine f_cond Z rfl (fun hc2 => ?_) (fun hc2 => ?_)
  ·replace hF := ite_t hc2 hF
   refine wp_seq (f_region Z ?_); clear Z; intro Z
   refine s_runk tC Z 1 rfl rfl fun a Z => ?_
   refine s_end Z [1, 2] rfl fun Z => ?_
   refine p_then (wp_ret ?_)
   refine p_then_r ?_
   obtain rfl := some_in hF
   exact f_ret Z (run_results1 rfl Z rfl) ⟨rfl, I, (H.sub [] rfl).eq rfl⟩
  ·replace hF := ite_f hc2 hF
   refine wp_skip ?_
   refine p_then (wp_seq ?_)
   refine wp_seq (f_region Z ?_); clear Z; intro Z
   refine s_runk tC Z 1 rfl rfl fun a Z => ?_
   refine sO Z _ rfl (oL tC rfl rfl (H.bc 0 1 rfl rfl)) fun a Z => ?_
   refine sO Z (vI (ln c.members)) rfl (Ob_slen tC rfl rfl rfl (H.slshape 1 rfl)) fun a Z => ?_
   refine s_runk tC Z 1 rfl rfl fun a Z => ?_
   refine s_end Z [1, 2, 21] rfl fun Z => ?_
   refine p_then ?_
   refine f_cond Z rfl (fun hc3 => ?_) (fun hc3 => ?_)
   ·replace hF := ite_t hc3 hF
    refine wp_seq (f_region Z ?_); clear Z; intro Z
    refine s_runk tC Z 1 rfl rfl fun a Z => ?_
    refine s_end Z [1, 2] rfl fun Z => ?_
    refine p_then (wp_ret ?_)
    refine p_then_r ?_
    obtain rfl := some_in hF
    exact f_ret Z (run_results1 rfl Z rfl) ⟨rfl, I, (H.sub [] rfl).eq rfl⟩
   ·replace hF := ite_f hc3 hF
    refine wp_skip ?_
    refine p_then (wp_seq ?_)
    refine wp_seq (f_region Z ?_); clear Z; intro Z
    refine s_runk tC Z 1 rfl rfl fun a Z => ?_
    refine s_end Z [1, 2, 3] rfl fun Z => ?_
    refine p_then (wp_block ?_)
    refine f_iter hF (fun sg a' w' => match sg with | i => Sl 64 [(1, pp b1 0), (2, vI 0), (3, vI i)] a' ∧ ∃ I2, Hf I D w I2 w' [BxC b1 27 [vI c.epoch, v1_c, vU c.floor], SlC NEMember v1_c c.members]) ⟨Z.sub (ts := [1, 2, 3]) rfl, ⟨I, (H.sub [(0, false), (0, true)] rfl).eq rfl⟩⟩ ?_
    rintro rc i a w2 ⟨Z, I1, H⟩ hF
    unfold F_ref07_Check_l1 at hF
    try dsimp only at hF
    refine wp_seq ?_
    refine wp_seq (f_region Z ?_); clear Z; intro Z
    refine s_runk tC Z 2 rfl rfl fun a Z => ?_
    refine sO Z _ rfl (oL tC rfl rfl (H.bc 0 1 rfl rfl)) fun a Z => ?_
    refine sO Z (vI (ln c.members)) rfl (Ob_slen tC rfl rfl rfl (H.slshape 1 rfl)) fun a Z => ?_
    refine s_runk tC Z 1 rfl rfl fun a Z => ?_
    refine s_end Z [1, 2, 3, 22, 23, 24, 25, 26] rfl fun Z => ?_
    refine p_then ?_
    refine f_cond Z rfl (fun hc4 => ?_) (fun hc4 => ?_)
    ·replace hF := ite_t hc4 hF
     refine wp_skip ?_
     refine p_then (wp_seq ?_)
     refine wp_block ?_
     refine wp_seq ?_
     obtain ⟨hg1, hF⟩ := chk_in hF
     refine f_region Z fun Z => ?_
     refine s_runk tC Z 1 rfl rfl fun a Z => ?_
     refine sO Z _ rfl (oL tC rfl rfl (H.bc 0 1 rfl rfl)) fun a Z => ?_
     refine s_runk tC Z 1 rfl rfl fun a Z => ?_
     refine sO Z (.pointer (some ⟨blkOf v1_c, oofOf v1_c + (i).toNat * 2, none⟩)) rfl (Ob_sidx tC rfl rfl rfl rfl (slPl (H.sl 1 rfl) hg1) hg1) fun a Z => ?_
     refine sO Z (.agg #[vI ((gi c.members i).id), vI ((gi c.members i).serial)]) rfl (oA tC rfl rfl ((slFl (H.sl 1 rfl) hg1).part 0 rfl)) fun a Z => ?_
     refine hA Z H [vI 0, vI 0] rfl rfl (by kernel_rfl) fun a w3 b2 H Z => ?_
     refine hT tC Z H 0 rfl rfl rfl rfl rfl (onR 2 rfl one_nil) (Nat.le_of_ble_eq_true rfl) rfl fun w4 H => ?_
     dsimp only [List.eraseIdx] at H
     refine s_end Z [1, 2, 3, 22, 23, 24, 25, 26, 29, 30, 31, 32, 33, 4] rfl fun Z => ?_
     refine p_then (wp_seq ?_)
     refine wp_seq (f_region Z ?_); clear Z; intro Z
     refine s_runk tC Z 1 rfl rfl fun a Z => ?_
     refine sO Z _ rfl (oL tC rfl rfl (H.bc 0 0 rfl rfl)) fun a Z => ?_
     refine s_runk tC Z 2 rfl rfl fun a Z => ?_
     refine gO Z (pp b2 0) rfl (wantB_f _) (.n 4 rfl .z) (fun hp => Ob_c tC rfl) fun a Z => ?_
     refine gO Z _ rfl (wantB_f _) (.c 38 rfl id .z) (fun hp => oL tC rfl rfl (H.bc 0 0 rfl rfl)) fun a Z => ?_
     refine gO Z (vT (decide ((gi c.members i).id ≥ 4))) rfl (wantB_f _) (.c 39 rfl id .z) (fun hp => Ob_c tC rfl) fun a Z => ?_
     refine sO Z (vT ((decide ((gi c.members i).id < 0)) || (decide ((gi c.members i).id ≥ 4)))) rfl (Ob_pick rfl rfl rfl rfl (pick_or _ _)) fun a Z => ?_
     refine s_end Z [1, 2, 3, 22, 23, 24, 25, 26, 29, 30, 31, 32, 33, 4, 34, 35, 36, 37, 41] rfl fun Z => ?_
     refine p_then ?_
     refine f_cond Z rfl (fun hc5 => ?_) (fun hc5 => ?_)
     ·replace hF := ite_t hc5 hF
      refine wp_seq (f_region Z ?_); clear Z; intro Z
      refine s_runk tC Z 1 rfl rfl fun a Z => ?_
      refine s_end Z [1, 2, 3, 22, 23, 24, 25, 26, 29, 30, 31, 32, 33, 4, 34, 35, 36, 37, 41] rfl fun Z => ?_
      refine p_then (wp_ret ?_)
      refine p_then_r ?_
      refine p_blk_r ?_
      refine p_then_r ?_
      refine p_then_r ?_
      refine p_blk_r ?_
      refine p_then_r ?_
      obtain rfl := some_in hF
      exact f_ret Z (run_results1 rfl Z rfl) ⟨rfl, I1, (H.sub [] rfl).eq rfl⟩
     ·replace hF := ite_f hc5 hF
      refine wp_skip ?_
      refine p_then (wp_seq ?_)
      refine wp_seq (f_region Z ?_); clear Z; intro Z
      refine s_runk tC Z 1 rfl rfl fun a Z => ?_
      refine sO Z _ rfl (oL tC rfl rfl (H.bc 0 1 rfl rfl)) fun a Z => ?_
      refine s_runk tC Z 2 rfl rfl fun a Z => ?_
      refine gO Z (pp b2 1) rfl (wantB_f _) (.n 4 rfl .z) (fun hp => Ob_c tC rfl) fun a Z => ?_
      refine gO Z _ rfl (wantB_f _) (.c 46 rfl id .z) (fun hp => oL tC rfl rfl (H.bc 0 1 rfl rfl)) fun a Z => ?_
      refine gO Z (vT (decide ((gi c.members i).serial > 1073741824))) rfl (wantB_f _) (.c 47 rfl id .z) (fun hp => Ob_c tC rfl) fun a Z => ?_
      refine sO Z (vT ((decide ((gi c.members i).serial < 1)) || (decide ((gi c.members i).serial > 1073741824)))) rfl (Ob_pick rfl rfl rfl rfl (pick_or _ _)) fun a Z => ?_
      refine s_end Z [1, 2, 3, 22, 23, 24, 25, 26, 29, 30, 31, 32, 33, 4, 34, 35, 36, 37, 41, 42, 43, 44, 45, 49] rfl fun Z => ?_
      refine p_then ?_
      refine f_cond Z rfl (fun hc6 => ?_) (fun hc6 => ?_)
      ·replace hF := ite_t hc6 hF
       refine wp_seq (f_region Z ?_); clear Z; intro Z
       refine s_runk tC Z 1 rfl rfl fun a Z => ?_
       refine s_end Z [1, 2, 3, 22, 23, 24, 25, 26, 29, 30, 31, 32, 33, 4, 34, 35, 36, 37, 41, 42, 43, 44, 45, 49] rfl fun Z => ?_
       refine p_then (wp_ret ?_)
       refine p_then_r ?_
       refine p_blk_r ?_
       refine p_then_r ?_
       refine p_then_r ?_
       refine p_blk_r ?_
       refine p_then_r ?_
       obtain rfl := some_in hF
       exact f_ret Z (run_results1 rfl Z rfl) ⟨rfl, I1, (H.sub [] rfl).eq rfl⟩
      ·replace hF := ite_f hc6 hF
       refine wp_skip ?_
       refine p_then (wp_seq (f_region Z ?_)); clear Z; intro Z
       refine s_runk tC Z 1 rfl rfl fun a Z => ?_
       refine s_end Z [1, 2, 3, 22, 23, 24, 25, 26, 29, 30, 31, 32, 33, 4, 34, 35, 36, 37, 41, 42, 43, 44, 45, 49, 5] rfl fun Z => ?_
       refine p_then (wp_block ?_)
       refine f_iter hF (fun sg a' w' => match sg with | k => Sl 64 [(1, pp b1 0), (2, vI 0), (3, vI i), (4, pp b2 0), (5, vI k), (22, vI i), (23, pp b1 1), (24, v1_c), (25, vI (ln c.members)), (26, vT (decide (i < (ln c.members)))), (29, pp b1 1), (30, v1_c), (31, vI i), (32, .pointer (some ⟨blkOf v1_c, oofOf v1_c + (i).toNat * 2, none⟩)), (33, .agg #[vI ((gi c.members i).id), vI ((gi c.members i).serial)]), (34, pp b2 0), (35, vI ((gi c.members i).id)), (36, vT (decide ((gi c.members i).id < 0))), (37, vT (decide ((gi c.members i).id < 0))), (41, vT ((decide ((gi c.members i).id < 0)) || (decide ((gi c.members i).id ≥ 4)))), (42, pp b2 1), (43, vI ((gi c.members i).serial)), (44, vT (decide ((gi c.members i).serial < 1))), (45, vT (decide ((gi c.members i).serial < 1))), (49, vT ((decide ((gi c.members i).serial < 1)) || (decide ((gi c.members i).serial > 1073741824))))] a' ∧ ∃ I2, Hf I D w I2 w' [BxC b1 27 [vI c.epoch, v1_c, vU c.floor], BxC b2 111 [vI ((gi c.members i).id), vI ((gi c.members i).serial)], SlC NEMember v1_c c.members]) ⟨Z.sub (ts := [1, 2, 3, 4, 5, 22, 23, 24, 25, 26, 29, 30, 31, 32, 33, 34, 35, 36, 37, 41, 42, 43, 44, 45, 49]) rfl, ⟨I1, (H.sub [(1, false), (0, false), (0, true)] rfl).eq rfl⟩⟩ ?_
       rintro rc_2 k a w5 ⟨Z, I2, H⟩ hF
       unfold F_ref07_Check_l2 at hF
       try dsimp only at hF
       refine wp_seq ?_
       refine wp_seq (f_region Z ?_); clear Z; intro Z
       refine s_runk tC Z 3 rfl rfl fun a Z => ?_
       refine s_end Z [1, 2, 3, 4, 5, 22, 23, 24, 25, 26, 29, 30, 31, 32, 33, 34, 35, 36, 37, 41, 42, 43, 44, 45, 49, 50, 51, 52] rfl fun Z => ?_
       refine p_then ?_
       refine f_cond Z rfl (fun hc7 => ?_) (fun hc7 => ?_)
       ·replace hF := ite_t hc7 hF
        refine wp_skip ?_
        refine p_then (wp_seq ?_)
        refine wp_block ?_
        refine wp_seq ?_
        obtain ⟨hg2, hF⟩ := chk_in hF
        refine f_quietd (by kernel_rfl) (by kernel_rfl) Z fun Z => ?_
        refine q_runk tC Z 1 rfl rfl fun a Z => ?_
        refine qO Z _ rfl (fun _ hw => oL tC rfl rfl ((H.blw hw).bc 0 1 rfl rfl)) fun a Z => ?_
        refine q_runk tC Z 1 rfl rfl fun a Z => ?_
        refine qO Z (.pointer (some ⟨blkOf v1_c, oofOf v1_c + (k).toNat * 2, none⟩)) rfl (fun _ hw => Ob_sidx tC rfl rfl rfl rfl (slPl ((H.blw hw).sl 2 rfl) hg2) hg2) fun a Z => ?_
        refine q_runk tC Z 1 rfl rfl fun a Z => ?_
        refine qO Z (vI ((gi c.members k).id)) rfl (fun _ hw => oL tC rfl rfl ((slFl ((H.blw hw).sl 2 rfl) hg2) 0 _ rfl)) fun a Z => ?_
        refine q_runk tC Z 1 rfl rfl fun a Z => ?_
        refine qO Z _ rfl (fun _ hw => oL tC rfl rfl ((H.blw hw).bc 1 0 rfl rfl)) fun a Z => ?_
        refine q_runk tC Z 1 rfl rfl fun a Z => ?_
        refine q_end Z [1, 2, 3, 4, 5, 22, 23, 24, 25, 26, 29, 30, 31, 32, 33, 34, 35, 36, 37, 41, 42, 43, 44, 45, 49, 50, 51, 52, 55, 56, 57, 58, 59, 60, 61, 62, 63] rfl fun w6 hb Z => ?_
        replace H := H.blw hb
        clear hb
        refine p_then ?_
        refine f_cond Z rfl (fun hc8 => ?_) (fun hc8 => ?_)
        ·replace hF := ite_t hc8 hF
         refine wp_seq (f_region Z ?_); clear Z; intro Z
         refine s_runk tC Z 1 rfl rfl fun a Z => ?_
         refine s_end Z [1, 2, 3, 4, 5, 22, 23, 24, 25, 26, 29, 30, 31, 32, 33, 34, 35, 36, 37, 41, 42, 43, 44, 45, 49, 50, 51, 52, 55, 56, 57, 58, 59, 60, 61, 62, 63] rfl fun Z => ?_
         refine p_then (wp_ret ?_)
         refine p_blk_r ?_
         refine p_then_r ?_
         refine p_then_r ?_
         refine p_blk_r ?_
         refine p_blk_r ?_
         refine p_then_r ?_
         refine p_then_r ?_
         refine p_blk_r ?_
         refine p_then_r ?_
         obtain rfl := some_in hF
         exact f_ret Z (run_results1 rfl Z rfl) ⟨rfl, I2, (H.sub [] rfl).eq rfl⟩
        ·replace hF := ite_f hc8 hF
         refine wp_skip ?_
         refine p_blk ?_
         refine p_then ?_
         obtain ⟨hg3, hF⟩ := chk_in hF
         refine f_region Z fun Z => ?_
         refine s_runk tC Z 1 rfl rfl fun a Z => ?_
         refine sO Z (vI (k + 1)) rfl (Ob_add rfl rfl rfl (wrI hg3)) fun a Z => ?_
         refine s_runk tC Z 1 rfl rfl fun a Z => ?_
         refine s_end Z [1, 2, 3, 4, 5, 22, 23, 24, 25, 26, 29, 30, 31, 32, 33, 34, 35, 36, 37, 41, 42, 43, 44, 45, 49, 50, 51, 52, 55, 56, 57, 58, 59, 60, 61, 62, 63, 53, 54] rfl fun Z => ?_
         refine p_then ?_
         exact ⟨(k + 1), ⟨Z.sub (ts := [1, 2, 3, 4, 5, 22, 23, 24, 25, 26, 29, 30, 31, 32, 33, 34, 35, 36, 37, 41, 42, 43, 44, 45, 49]) rfl, ⟨I2, (H.sub [(0, false), (0, false), (0, true)] rfl).eq rfl⟩⟩, hF⟩
       ·replace hF := ite_f hc7 hF
        refine wp_exit ?_
        refine p_then_x ?_
        refine p_then_x ?_
        refine f_exit_here ?_
        refine p_blk ?_
        refine p_then ?_
        obtain ⟨hg4, hF⟩ := chk_in hF
        refine f_region Z fun Z => ?_
        refine s_runk tC Z 1 rfl rfl fun a Z => ?_
        refine sO Z (vI (i + 1)) rfl (Ob_add rfl rfl rfl (wrI hg4)) fun a Z => ?_
        refine s_runk tC Z 1 rfl rfl fun a Z => ?_
        refine s_end Z [1, 2, 3, 4, 5, 22, 23, 24, 25, 26, 29, 30, 31, 32, 33, 34, 35, 36, 37, 41, 42, 43, 44, 45, 49, 50, 51, 52, 27, 28] rfl fun Z => ?_
        refine p_then ?_
        exact ⟨(i + 1), ⟨Z.sub (ts := [1, 2, 3]) rfl, ⟨I2, (H.sub [(0, false), (1, true)] rfl).eq rfl⟩⟩, hF⟩
    ·replace hF := ite_f hc4 hF
     refine wp_exit ?_
     refine p_then_x ?_
     refine p_then_x ?_
     refine f_exit_here ?_
     refine p_then (wp_seq (f_region Z ?_)); clear Z; intro Z
     refine s_runk tC Z 1 rfl rfl fun a Z => ?_
     refine s_end Z [2] rfl fun Z => ?_
     refine p_then (wp_ret ?_)
     obtain rfl := some_in hF
     exact f_ret Z (run_results1 rfl Z rfl) ⟨rfl, I1, (H.sub [] rfl).eq rfl⟩

def F_conf_one_1 (x : EMember) (p1 : EMember) : Option Bool := some (x.id == p1.id)

set_option maxHeartbeats 1000000 in
theorem c_conf_one_1 {I D : Dm} {x : EMember} {b_p1 : Nat} {p1 : EMember} {w : World} {rr : Bool} (hF : F_conf_one_1 x p1 = some rr) (H : St I D w [BxC b_p1 111 [vI p1.id, vI p1.serial]]) :
  Calls Tryz.prog 130 #[.agg #[vI x.id, vI x.serial], pp b_p1 0] w (Ret fun vv w' => vv = vT rr ∧ ∃ I', Hf I D w I' w' [BxC b_p1 111 [vI p1.id, vI p1.serial]]) := by
 replace H := H.hf
 unfold F_conf_one_1 at hF
 refine f_enter 9 Tryz.func130 rfl rfl (Nat.le_of_ble_eq_true rfl) fun a Z => ?_
 replace Z := Z.sub (ts := [0, 1]) rfl
 refine wp_seq (f_region Z ?_); clear Z; intro Z
 refine hB Z H [vI x.id, vI x.serial] rfl rfl rfl rfl fun a w1 b1 H Z => ?_
 refine s_runk tC Z 1 rfl rfl fun a Z => ?_
 refine s_end Z [1, 2, 3] rfl fun Z => ?_
 refine p_then (wp_seq (f_region Z ?_)); clear Z; intro Z
 refine s_runk tC Z 1 rfl rfl fun a Z => ?_
 refine sO Z _ rfl (oL tC rfl rfl (H.bc 0 0 rfl rfl)) fun a Z => ?_
 refine s_runk tC Z 1 rfl rfl fun a Z => ?_
 refine sO Z _ rfl (oL tC rfl rfl (H.bc 1 0 rfl rfl)) fun a Z => ?_
 refine s_runk tC Z 2 rfl rfl fun a Z => ?_
 refine s_end Z [3] rfl fun Z => ?_
 refine p_then (wp_ret ?_)
 obtain rfl := some_in hF
 exact f_ret Z (run_results1 rfl Z rfl) ⟨rfl, I, (H.sub [(1, false)] rfl).eq rfl⟩

def F_slices_IndexFunc_api_Member_api_Member__conf_one_1_l1 (s0 : List EMember) (p1 : EMember) (rc : Int → Option Int) (sg : Int) : Option Int := match sg with | x => if (decide (x < (s0.length : Int))) = true then (chk ((0 : Int) ≤ x ∧ x < (s0.length : Int)) ((F_conf_one_1 (s0.getD (x).toNat default) p1).bind fun x0 => (if (x0) = true then (some x) else (chk (inI (x + 1)) (rc (x + 1)))))) else (some (-1))

def F_slices_IndexFunc_api_Member_api_Member__conf_one_1 (s0 : List EMember) (p1 : EMember) : Option Int := iter (F_slices_IndexFunc_api_Member_api_Member__conf_one_1_l1 s0 p1) FU 0

set_option maxHeartbeats 1000000 in
theorem c_slices_IndexFunc_api_Member_api_Member__conf_one_1 {I D : Dm} {s0 : List EMember} {v1_s0 : Value} {b_p1 : Nat} {p1 : EMember} {w : World} {rr : Int} (hF : F_slices_IndexFunc_api_Member_api_Member__conf_one_1 s0 p1 = some rr) (H : St I D w [SlC NEMember v1_s0 s0, BxC b_p1 111 [vI p1.id, vI p1.serial]]) :
  Calls Tryz.prog 133 #[v1_s0, .func (.func 130) #[] #[pp b_p1 0]] w (Ret fun vv w' => vv = vI rr ∧ ∃ I', Hf I D w I' w' [BxC b_p1 111 [vI p1.id, vI p1.serial]]) := by
 replace H := H.hf
 unfold F_slices_IndexFunc_api_Member_api_Member__conf_one_1 at hF
 refine f_enter 19 Tryz.func133 rfl rfl (Nat.le_of_ble_eq_true rfl) fun a Z => ?_
 replace Z := Z.sub (ts := [0, 1]) rfl
 refine wp_seq (f_region Z ?_); clear Z; intro Z
 refine s_runk tC Z 1 rfl rfl fun a Z => ?_
 refine s_end Z [0, 1, 4] rfl fun Z => ?_
 refine p_then (wp_seq ?_)
 refine wp_seq (f_region Z ?_); clear Z; intro Z
 refine s_runk tC Z 1 rfl rfl fun a Z => ?_
 refine sO Z (vI (ln s0)) rfl (Ob_slen tC rfl rfl rfl (H.slshape 0 rfl)) fun a Z => ?_
 refine s_runk tC Z 1 rfl rfl fun a Z => ?_
 refine s_end Z [0, 1, 4, 7, 8] rfl fun Z => ?_
 refine p_then (wp_block ?_)
 refine f_iter hF (fun sg a' w' => match sg with | x => Sl 19 [(0, v1_s0), (1, .func (.func 130) #[] #[pp b_p1 0]), (4, vI 0), (7, vI (ln s0)), (8, vI x)] a' ∧ ∃ I2, Hf I D w I2 w' [BxC b_p1 111 [vI p1.id, vI p1.serial], SlC NEMember v1_s0 s0]) ⟨Z.sub (ts := [0, 1, 4, 7, 8]) rfl, ⟨I, (H.sub [(1, false), (0, true)] rfl).eq rfl⟩⟩ ?_
 rintro rc x a w1 ⟨Z, I1, H⟩ hF
 unfold F_slices_IndexFunc_api_Member_api_Member__conf_one_1_l1 at hF
 try dsimp only at hF
 refine wp_seq (f_region Z ?_); clear Z; intro Z
 refine s_runk tC Z 1 rfl rfl fun a Z => ?_
 refine s_end Z [0, 1, 4, 7, 8, 9] rfl fun Z => ?_
 refine p_then (wp_seq ?_)
 refine f_cond Z rfl (fun hc1 => ?_) (fun hc1 => ?_)
 ·replace hF := ite_t hc1 hF
  refine wp_skip ?_
  refine p_then (wp_seq ?_)
  refine wp_block ?_
  refine wp_seq (f_region Z ?_); clear Z; intro Z
  refine s_runk tC Z 2 rfl rfl fun a Z => ?_
  refine s_end Z [0, 1, 4, 7, 8, 9, 10, 5] rfl fun Z => ?_
  refine p_then (wp_seq ?_)
  obtain ⟨hg1, hF⟩ := chk_in hF
  obtain ⟨x0, hx1, hF⟩ := bnd_in hF
  refine f_region Z fun Z => ?_
  refine s_runk tC Z 3 rfl rfl fun a Z => ?_
  refine sO Z (.pointer (some ⟨blkOf v1_s0, oofOf v1_s0 + (x).toNat * 2, none⟩)) rfl (Ob_sidx tC rfl rfl rfl rfl (slPl (H.sl 1 rfl) hg1) hg1) fun a Z => ?_
  refine sO Z (.agg #[vI ((gi s0 x).id), vI ((gi s0 x).serial)]) rfl (oA tC rfl rfl ((slFl (H.sl 1 rfl) hg1).part 0 rfl)) fun a Z => ?_
  refine hC Z H [(0, false)] rfl #[pp b_p1 0] fn_130_YConf rfl rfl (fun D h => have q := c_conf_one_1 hx1 h; q) fun vv a w2 D2 hr hF2 Z => ?_
  obtain ⟨rfl, I2, K⟩ := hr
  have H := (hF2 K).nf rfl
  refine s_end Z [0, 1, 4, 7, 8, 9, 10, 5, 11, 12, 13, 14, 15, 16] rfl fun Z => ?_
  refine p_then ?_
  refine f_cond Z rfl (fun hc2 => ?_) (fun hc2 => ?_)
  ·replace hF := ite_t hc2 hF
   refine wp_seq (f_region Z ?_); clear Z; intro Z
   refine s_runk tC Z 2 rfl rfl fun a Z => ?_
   refine s_end Z [0, 1, 4, 7, 8, 9, 10, 5, 11, 12, 13, 14, 15, 16, 17] rfl fun Z => ?_
   refine p_then (wp_ret ?_)
   refine p_blk_r ?_
   refine p_then_r ?_
   refine p_then_r ?_
   refine p_blk_r ?_
   refine p_then_r ?_
   obtain rfl := some_in hF
   exact f_ret Z (run_results1 rfl Z rfl) ⟨rfl, I2, (H.sub [(0, false)] rfl).eq rfl⟩
  ·replace hF := ite_f hc2 hF
   refine wp_skip ?_
   refine p_blk ?_
   refine p_then ?_
   obtain ⟨hg2, hF⟩ := chk_in hF
   refine f_region Z fun Z => ?_
   refine sO Z (vI (x + 1)) rfl (Ob_add rfl rfl rfl (wrI hg2)) fun a Z => ?_
   refine s_runk tC Z 1 rfl rfl fun a Z => ?_
   refine s_end Z [0, 1, 4, 7, 8, 9, 10, 5, 11, 12, 13, 14, 15, 16, 18] rfl fun Z => ?_
   refine p_then ?_
   exact ⟨(x + 1), ⟨Z.sub (ts := [0, 1, 4, 7, 8]) rfl, ⟨I2, (H.sub [(0, false), (0, true)] rfl).eq rfl⟩⟩, hF⟩
 ·replace hF := ite_f hc1 hF
  refine wp_exit ?_
  refine p_then_x ?_
  refine p_then_x ?_
  refine f_exit_here ?_
  refine p_then (wp_seq (f_region Z ?_)); clear Z; intro Z
  refine s_runk tC Z 1 rfl rfl fun a Z => ?_
  refine s_end Z [4] rfl fun Z => ?_
  refine p_then (wp_ret ?_)
  obtain rfl := some_in hF
  exact f_ret Z (run_results1 rfl Z rfl) ⟨rfl, I1, (H.sub [(0, false)] rfl).eq rfl⟩

def F_slices_ContainsFunc_api_Member_api_Member__conf_one_1 (s0 : List EMember) (p1 : EMember) : Option Bool := (F_slices_IndexFunc_api_Member_api_Member__conf_one_1 s0 p1).bind fun x0 => (some (decide (x0 ≥ 0)))

set_option maxHeartbeats 1000000 in
theorem c_slices_ContainsFunc_api_Member_api_Member__conf_one_1 {I D : Dm} {s0 : List EMember} {v1_s0 : Value} {b_p1 : Nat} {p1 : EMember} {w : World} {rr : Bool} (hF : F_slices_ContainsFunc_api_Member_api_Member__conf_one_1 s0 p1 = some rr) (H : St I D w [SlC NEMember v1_s0 s0, BxC b_p1 111 [vI p1.id, vI p1.serial]]) :
  Calls Tryz.prog 131 #[v1_s0, .func (.func 130) #[] #[pp b_p1 0]] w (Ret fun vv w' => vv = vT rr ∧ ∃ I', Hf I D w I' w' [BxC b_p1 111 [vI p1.id, vI p1.serial]]) := by
 replace H := H.hf
 unfold F_slices_ContainsFunc_api_Member_api_Member__conf_one_1 at hF
 refine f_enter 9 Tryz.func131 rfl rfl (Nat.le_of_ble_eq_true rfl) fun a Z => ?_
 replace Z := Z.sub (ts := [0, 1]) rfl
 refine wp_seq (f_region Z ?_); clear Z; intro Z
 refine s_runk tC Z 1 rfl rfl fun a Z => ?_
 refine s_end Z [0, 1, 4] rfl fun Z => ?_
 refine p_then (wp_seq ?_)
 obtain ⟨x0, hx1, hF⟩ := bnd_in hF
 refine f_region Z fun Z => ?_
 refine s_runk tC Z 2 rfl rfl fun a Z => ?_
 refine hC Z H [(0, true), (1, false)] rfl #[] fn_133_YConf rfl rfl (fun D h => have q := c_slices_IndexFunc_api_Member_api_Member__conf_one_1 hx1 h; q) fun vv a w1 D2 hr hF2 Z => ?_
 obtain ⟨rfl, I1, K⟩ := hr
 have H := (hF2 K).nf rfl
 refine s_runk tC Z 2 rfl rfl fun a Z => ?_
 refine s_end Z [4] rfl fun Z => ?_
 refine p_then (wp_ret ?_)
 obtain rfl := some_in hF
 exact f_ret Z (run_results1 rfl Z rfl) ⟨rfl, I1, (H.sub [(0, false)] rfl).eq rfl⟩

def F_conf_one (m : EMember) (ahead : List EMember) : Option Int := if ((decide (m.id < 0)) || (decide (m.id ≥ 4))) = true then (some 1) else (if ((decide (m.serial < 1)) || (decide (m.serial > 1073741824))) = true then (some 5) else ((F_slices_ContainsFunc_api_Member_api_Member__conf_one_1 ahead m).bind fun x0 => (if (x0) = true then (some 18) else (some 0))))

set_option maxHeartbeats 1000000 in
theorem c_conf_one {I D : Dm} {m : EMember} {ahead : List EMember} {v1_ahead : Value} {w : World} {rr : Int} (hF : F_conf_one m ahead = some rr) (H : St I D w [SlC NEMember v1_ahead ahead]) :
  Calls Tryz.prog 121 #[.agg #[vI m.id, vI m.serial], v1_ahead] w (Ret fun vv w' => vv = vI rr ∧ ∃ I', Hf I D w I' w' []) := by
 replace H := H.hf
 unfold F_conf_one at hF
 refine f_enter 29 Tryz.func121 rfl rfl (Nat.le_of_ble_eq_true rfl) fun a Z => ?_
 replace Z := Z.sub (ts := [0, 1]) rfl
 refine wp_seq (f_region Z ?_); clear Z; intro Z
 refine hB Z H [vI m.id, vI m.serial] rfl rfl rfl rfl fun a w1 b1 H Z => ?_
 refine s_runk tC Z 1 rfl rfl fun a Z => ?_
 refine s_end Z [1, 2, 4] rfl fun Z => ?_
 refine p_then (wp_seq (f_region Z ?_)); clear Z; intro Z
 refine s_runk tC Z 2 rfl rfl fun a Z => ?_
 refine s_end Z [1, 2, 4, 5] rfl fun Z => ?_
 refine p_then (wp_seq ?_)
 refine wp_block ?_
 refine wp_seq (f_region Z ?_); clear Z; intro Z
 refine s_runk tC Z 1 rfl rfl fun a Z => ?_
 refine sO Z _ rfl (oL tC rfl rfl (H.bc 0 0 rfl rfl)) fun a Z => ?_
 refine s_runk tC Z 2 rfl rfl fun a Z => ?_
 refine gO Z (pp b1 0) rfl (wantB_f _) (.n 2 rfl .z) (fun hp => Ob_c tC rfl) fun a Z => ?_
 refine gO Z _ rfl (wantB_f _) (.c 12 rfl id .z) (fun hp => oL tC rfl rfl (H.bc 0 0 rfl rfl)) fun a Z => ?_
 refine gO Z (vT (decide (m.id ≥ 4))) rfl (wantB_f _) (.c 13 rfl id .z) (fun hp => Ob_c tC rfl) fun a Z => ?_
 refine sO Z (vT ((decide (m.id < 0)) || (decide (m.id ≥ 4)))) rfl (Ob_pick rfl rfl rfl rfl (pick_or _ _)) fun a Z => ?_
 refine s_runk tC Z 1 rfl rfl fun a Z => ?_
 refine s_end Z [1, 2, 4, 5, 7] rfl fun Z => ?_
 refine p_then ?_
 refine f_cond Z rfl (fun hc1 => ?_) (fun hc1 => ?_)
 ·replace hF := ite_t hc1 hF
  refine wp_seq (f_region Z ?_); clear Z; intro Z
  refine s_runk tC Z 1 rfl rfl fun a Z => ?_
  refine s_end Z [4] rfl fun Z => ?_
  refine p_then (wp_ret ?_)
  refine p_blk_r ?_
  refine p_then_r ?_
  obtain rfl := some_in hF
  exact f_ret Z (run_results1 rfl Z rfl) ⟨rfl, I, (H.sub [] rfl).eq rfl⟩
 ·replace hF := ite_f hc1 hF
  refine wp_seq (f_region Z ?_); clear Z; intro Z
  refine s_runk tC Z 1 rfl rfl fun a Z => ?_
  refine sO Z _ rfl (oL tC rfl rfl (H.bc 0 1 rfl rfl)) fun a Z => ?_
  refine s_runk tC Z 2 rfl rfl fun a Z => ?_
  refine gO Z (pp b1 1) rfl (wantB_f _) (.n 2 rfl .z) (fun hp => Ob_c tC rfl) fun a Z => ?_
  refine gO Z _ rfl (wantB_f _) (.c 21 rfl id .z) (fun hp => oL tC rfl rfl (H.bc 0 1 rfl rfl)) fun a Z => ?_
  refine gO Z (vT (decide (m.serial > 1073741824))) rfl (wantB_f _) (.c 22 rfl id .z) (fun hp => Ob_c tC rfl) fun a Z => ?_
  refine sO Z (vT ((decide (m.serial < 1)) || (decide (m.serial > 1073741824)))) rfl (Ob_pick rfl rfl rfl rfl (pick_or _ _)) fun a Z => ?_
  refine s_runk tC Z 1 rfl rfl fun a Z => ?_
  refine s_end Z [1, 4, 5, 16] rfl fun Z => ?_
  refine p_then ?_
  refine f_cond Z rfl (fun hc2 => ?_) (fun hc2 => ?_)
  ·replace hF := ite_t hc2 hF
   refine wp_seq (f_region Z ?_); clear Z; intro Z
   refine s_runk tC Z 1 rfl rfl fun a Z => ?_
   refine s_end Z [4] rfl fun Z => ?_
   refine p_then (wp_ret ?_)
   refine p_blk_r ?_
   refine p_then_r ?_
   obtain rfl := some_in hF
   exact f_ret Z (run_results1 rfl Z rfl) ⟨rfl, I, (H.sub [] rfl).eq rfl⟩
  ·replace hF := ite_f hc2 hF
   refine wp_seq ?_
   obtain ⟨x0, hx1, hF⟩ := bnd_in hF
   refine f_region Z fun Z => ?_
   refine s_runk tC Z 2 rfl rfl fun a Z => ?_
   refine hC Z H [(1, true), (0, false)] rfl #[] fn_131_YConf rfl rfl (fun D h => have q := c_slices_ContainsFunc_api_Member_api_Member__conf_one_1 hx1 h; q) fun vv a w2 D2 hr hF2 Z => ?_
   obtain ⟨rfl, I1, K⟩ := hr
   have H := (hF2 K).nf rfl
   refine s_runk tC Z 1 rfl rfl fun a Z => ?_
   refine s_end Z [4, 25] rfl fun Z => ?_
   refine p_then ?_
   refine f_cond Z rfl (fun hc3 => ?_) (fun hc3 => ?_)
   ·replace hF := ite_t hc3 hF
    refine wp_seq (f_region Z ?_); clear Z; intro Z
    refine s_runk tC Z 1 rfl rfl fun a Z => ?_
    refine s_end Z [4] rfl fun Z => ?_
    refine p_then (wp_ret ?_)
    refine p_blk_r ?_
    refine p_then_r ?_
    obtain rfl := some_in hF
    exact f_ret Z (run_results1 rfl Z rfl) ⟨rfl, I1, (H.sub [] rfl).eq rfl⟩
   ·replace hF := ite_f hc3 hF
    refine wp_skip ?_
    refine p_blk ?_
    refine p_then (wp_seq (f_region Z ?_)); clear Z; intro Z
    refine s_runk tC Z 1 rfl rfl fun a Z => ?_
    refine s_end Z [4] rfl fun Z => ?_
    refine p_then (wp_ret ?_)
    obtain rfl := some_in hF
    exact f_ret Z (run_results1 rfl Z rfl) ⟨rfl, I1, (H.sub [] rfl).eq rfl⟩

def F_conf_Check_l1 (c : EConf) (rc : Int → Option Int) (sg : Int) : Option Int := match sg with | x => if (decide (x < (c.members.length : Int))) = true then (chk ((0 : Int) ≤ x ∧ x < (c.members.length : Int)) (chk ((0 : Int) ≤ x ∧ x ≤ (c.members.length : Int)) ((F_conf_one (c.members.getD (x).toNat default) (c.members.take ((x).toNat))).bind fun o => (if (o != 0) = true then (some o) else (chk (inI (x + 1)) (rc (x + 1))))))) else (some 0)

def F_conf_Check (c : EConf) : Option Int := if ((decide (c.epoch < 1)) || (decide (c.epoch > 1073741824))) = true then (some 5) else (if ((c.members.length : Int) == 0) = true then (some 7) else (if (decide ((c.members.length : Int) > 4)) = true then (some 6) else (iter (F_conf_Check_l1 c) FU 0)))

set_option maxHeartbeats 1000000 in
theorem c_conf_Check {I D : Dm} {c : EConf} {v1_c : Value} {w : World} {rr : Int} (hF : F_conf_Check c = some rr) (H : St I D w [SlC NEMember v1_c c.members]) :
  Calls Tryz.prog 91 #[.agg #[vI c.epoch, v1_c, vU c.floor]] w (Ret fun vv w' => vv = vI rr ∧ ∃ I', Hf I D w I' w' []) := by
 replace H := H.hf
 unfold F_conf_Check at hF
 refine f_enter 43 Tryz.func91 rfl rfl (Nat.le_of_ble_eq_true rfl) fun a Z => ?_
 replace Z := Z.sub (ts := [0]) rfl
 refine wp_seq (f_region Z ?_); clear Z; intro Z
 refine hB Z H [vI c.epoch, v1_c, vU c.floor] rfl rfl rfl rfl fun a w1 b1 H Z => ?_
 refine s_runk tC Z 1 rfl rfl fun a Z => ?_
 refine s_end Z [1, 2] rfl fun Z => ?_
 refine p_then (wp_seq ?_)
 refine wp_block ?_
 refine wp_seq (f_region Z ?_); clear Z; intro Z
 refine s_runk tC Z 1 rfl rfl fun a Z => ?_
 refine sO Z _ rfl (oL tC rfl rfl (H.bc 0 0 rfl rfl)) fun a Z => ?_
 refine s_runk tC Z 2 rfl rfl fun a Z => ?_
 refine gO Z (pp b1 0) rfl (wantB_f _) (.n 1 rfl .z) (fun hp => Ob_c tC rfl) fun a Z => ?_
 refine gO Z _ rfl (wantB_f _) (.c 11 rfl id .z) (fun hp => oL tC rfl rfl (H.bc 0 0 rfl rfl)) fun a Z => ?_
 refine gO Z (vT (decide (c.epoch > 1073741824))) rfl (wantB_f _) (.c 12 rfl id .z) (fun hp => Ob_c tC rfl) fun a Z => ?_
 refine sO Z (vT ((decide (c.epoch < 1)) || (decide (c.epoch > 1073741824)))) rfl (Ob_pick rfl rfl rfl rfl (pick_or _ _)) fun a Z => ?_
 refine s_runk tC Z 1 rfl rfl fun a Z => ?_
 refine s_end Z [1, 2, 6] rfl fun Z => ?_
 refine p_then ?_
 refine f_cond Z rfl (fun hc1 => ?_) (fun hc1 => ?_)
 ·replace hF := ite_t hc1 hF
  refine wp_seq (f_region Z ?_); clear Z; intro Z
  refine s_runk tC Z 1 rfl rfl fun a Z => ?_
  refine s_end Z [1, 2] rfl fun Z => ?_
  refine p_then (wp_ret ?_)
  refine p_blk_r ?_
  refine p_then_r ?_
  obtain rfl := some_in hF
  exact f_ret Z (run_results1 rfl Z rfl) ⟨rfl, I, (H.sub [] rfl).eq rfl⟩
 ·replace hF := ite_f hc1 hF
  refine wp_seq (f_region Z ?_); clear Z; intro Z
  refine s_runk tC Z 1 rfl rfl fun a Z => ?_
  refine sO Z _ rfl (oL tC rfl rfl (H.bc 0 1 rfl rfl)) fun a Z => ?_
  refine sO Z (vI (ln c.members)) rfl (Ob_slen tC rfl rfl rfl (H.slshape 1 rfl)) fun a Z => ?_
  refine s_runk tC Z 2 rfl rfl fun a Z => ?_
  refine s_end Z [1, 2, 15] rfl fun Z => ?_
  refine p_then ?_
  refine f_cond Z rfl (fun hc2 => ?_) (fun hc2 => ?_)
  ·replace hF := ite_t hc2 hF
   refine wp_seq (f_region Z ?_); clear Z; intro Z
   refine s_runk tC Z 1 rfl rfl fun a Z => ?_
   refine s_end Z [1, 2] rfl fun Z => ?_
   refine p_then (wp_ret ?_)
   refine p_blk_r ?_
   refine p_then_r ?_
   obtain rfl := some_in hF
   exact f_ret Z (run_results1 rfl Z rfl) ⟨rfl, I, (H.sub [] rfl).eq rfl⟩
  ·replace hF := ite_f hc2 hF
   refine wp_seq (f_region Z ?_); clear Z; intro Z
   refine s_runk tC Z 1 rfl rfl fun a Z => ?_
   refine sO Z _ rfl (oL tC rfl rfl (H.bc 0 1 rfl rfl)) fun a Z => ?_
   refine sO Z (vI (ln c.members)) rfl (Ob_slen tC rfl rfl rfl (H.slshape 1 rfl)) fun a Z => ?_
   refine s_runk tC Z 2 rfl rfl fun a Z => ?_
   refine s_end Z [1, 2, 20] rfl fun Z => ?_
   refine p_then ?_
   refine f_cond Z rfl (fun hc3 => ?_) (fun hc3 => ?_)
   ·replace hF := ite_t hc3 hF
    refine wp_seq (f_region Z ?_); clear Z; intro Z
    refine s_runk tC Z 1 rfl rfl fun a Z => ?_
    refine s_end Z [1, 2] rfl fun Z => ?_
    refine p_then (wp_ret ?_)
    refine p_blk_r ?_
    refine p_then_r ?_
    obtain rfl := some_in hF
    exact f_ret Z (run_results1 rfl Z rfl) ⟨rfl, I, (H.sub [] rfl).eq rfl⟩
   ·replace hF := ite_f hc3 hF
    refine wp_skip ?_
    refine p_blk ?_
    refine p_then (wp_seq ?_)
    refine wp_seq (f_region Z ?_); clear Z; intro Z
    refine s_runk tC Z 1 rfl rfl fun a Z => ?_
    refine sO Z _ rfl (oL tC rfl rfl (H.bc 0 1 rfl rfl)) fun a Z => ?_
    refine sO Z (vI (ln c.members)) rfl (Ob_slen tC rfl rfl rfl (H.slshape 1 rfl)) fun a Z => ?_
    refine s_runk tC Z 1 rfl rfl fun a Z => ?_
    refine s_end Z [1, 2, 26, 27, 28] rfl fun Z => ?_
    refine p_then (wp_block ?_)
    refine f_iter hF (fun sg a' w' => match sg with | x => Sl 43 [(1, pp b1 0), (2, vI 0), (26, v1_c), (27, vI (ln c.members)), (28, vI x)] a' ∧ ∃ I2, Hf I D w I2 w' [BxC b1 27 [vI c.epoch, v1_c, vU c.floor], SlC NEMember v1_c c.members]) ⟨Z.sub (ts := [1, 2, 26, 27, 28]) rfl, ⟨I, (H.sub [(0, false), (0, true)] rfl).eq rfl⟩⟩ ?_
    rintro rc x a w2 ⟨Z, I1, H⟩ hF
    unfold F_conf_Check_l1 at hF
    try dsimp only at hF
    refine wp_seq (f_region Z ?_); clear Z; intro Z
    refine s_runk tC Z 1 rfl rfl fun a Z => ?_
    refine s_end Z [1, 2, 26, 27, 28, 29] rfl fun Z => ?_
    refine p_then (wp_seq ?_)
    refine f_cond Z rfl (fun hc4 => ?_) (fun hc4 => ?_)
    ·replace hF := ite_t hc4 hF
     refine wp_skip ?_
     refine p_then (wp_seq ?_)
     refine wp_block ?_
     refine wp_seq ?_
     obtain ⟨hg1, hF⟩ := chk_in hF
     refine f_region Z fun Z => ?_
     refine s_runk tC Z 1 rfl rfl fun a Z => ?_
     refine sO Z (.pointer (some ⟨blkOf v1_c, oofOf v1_c + (x).toNat * 2, none⟩)) rfl (Ob_sidx tC rfl rfl rfl rfl (slPl (H.sl 1 rfl) hg1) hg1) fun a Z => ?_
     refine sO Z (.agg #[vI ((gi c.members x).id), vI ((gi c.members x).serial)]) rfl (oA tC rfl rfl ((slFl (H.sl 1 rfl) hg1).part 0 rfl)) fun a Z => ?_
     refine hA Z H [vI 0, vI 0] rfl rfl (by kernel_rfl) fun a w3 b2 H Z => ?_
     refine s_runk tC Z 1 rfl rfl fun a Z => ?_
     refine hT tC Z H 0 rfl rfl rfl rfl rfl (onR 2 rfl one_nil) (Nat.le_of_ble_eq_true rfl) rfl fun w4 H => ?_
     dsimp only [List.eraseIdx] at H
     refine s_end Z [1, 2, 26, 27, 28, 29, 30, 31, 32, 4, 3] rfl fun Z => ?_
     refine p_then (wp_seq ?_)
     obtain ⟨hg2, hF⟩ := chk_in hF
     replace H : Hf I D w I1 w4 [SlC NEMember (subV v1_c 0 ((x).toNat) 2) (c.members.take ((x).toNat)), BxC b2 111 [vI ((gi c.members x).id), vI ((gi c.members x).serial)], BxC b1 27 [vI c.epoch, v1_c, vU c.floor], SlC NEMember v1_c c.members] := H.slPart_to 2 rfl hg2 2 rfl
     obtain ⟨o, hx1, hF⟩ := bnd_in hF
     refine f_quietd (by kernel_rfl) (by kernel_rfl) Z fun Z => ?_
     refine qO Z (.agg #[vI ((gi c.members x).id), vI ((gi c.members x).serial)]) rfl (fun _ hw => oA tC rfl rfl (((H.blw hw).bx 1 rfl).part 0 rfl)) fun a Z => ?_
     refine q_runk tC Z 1 rfl rfl fun a Z => ?_
     refine qO Z _ rfl (fun _ hw => oL tC rfl rfl ((H.blw hw).bc 2 1 rfl rfl)) fun a Z => ?_
     refine q_runk tC Z 1 rfl rfl fun a Z => ?_
     refine qO Z (subV v1_c 0 ((x).toNat) 2) rfl (fun _ hw => Ob_sub_to tC rfl rfl rfl rfl ((H.blw hw).slshape 3 rfl) hg2) fun a Z => ?_
     refine q_call Z (caps := #[]) fn_121_YConf rfl rfl rfl rfl rfl (by decide) rfl rfl (fun _ hw => (have hq := c_conf_one hx1 (((H.blw hw)).pick0 (js := [(0, true)]) rfl rfl); plainC hq)) fun a Z => ?_
     refine q_runk tC Z 1 rfl rfl fun a Z => ?_
     refine q_end Z [1, 2, 26, 27, 28, 29, 30, 31, 32, 4, 3, 33, 34, 35, 36, 37, 38, 5] rfl fun w5 hb Z => ?_
     replace H := H.blw hb
     clear hb
     refine p_then (wp_seq (f_region Z ?_)); clear Z; intro Z
     refine s_runk tC Z 2 rfl rfl fun a Z => ?_
     refine s_end Z [1, 2, 26, 27, 28, 29, 30, 31, 32, 4, 3, 33, 34, 35, 36, 37, 38, 5, 39, 40] rfl fun Z => ?_
     refine p_then ?_
     refine f_cond Z rfl (fun hc5 => ?_) (fun hc5 => ?_)
     ·replace hF := ite_t hc5 hF
      refine wp_seq (f_region Z ?_); clear Z; intro Z
      refine s_runk tC Z 2 rfl rfl fun a Z => ?_
      refine s_end Z [1, 2, 26, 27, 28, 29, 30, 31, 32, 4, 3, 33, 34, 35, 36, 37, 38, 5, 39, 40, 41] rfl fun Z => ?_
      refine p_then (wp_ret ?_)
      refine p_blk_r ?_
      refine p_then_r ?_
      refine p_then_r ?_
      refine p_blk_r ?_
      refine p_then_r ?_
      obtain rfl := some_in hF
      exact f_ret Z (run_results1 rfl Z rfl) ⟨rfl, I1, (H.sub [] rfl).eq rfl⟩
     ·replace hF := ite_f hc5 hF
      refine wp_skip ?_
      refine p_blk ?_
      refine p_then ?_
      obtain ⟨hg3, hF⟩ := chk_in hF
      refine f_region Z fun Z => ?_
      refine sO Z (vI (x + 1)) rfl (Ob_add rfl rfl rfl (wrI hg3)) fun a Z => ?_
      refine s_runk tC Z 1 rfl rfl fun a Z => ?_
      refine s_end Z [1, 2, 26, 27, 28, 29, 30, 31, 32, 4, 3, 33, 34, 35, 36, 37, 38, 5, 39, 40, 42] rfl fun Z => ?_
      refine p_then ?_
      exact ⟨(x + 1), ⟨Z.sub (ts := [1, 2, 26, 27, 28]) rfl, ⟨I1, (H.sub [(2, false), (2, true)] rfl).eq rfl⟩⟩, hF⟩
    ·replace hF := ite_f hc4 hF
     refine wp_exit ?_
     refine p_then_x ?_
     refine p_then_x ?_
     refine f_exit_here ?_
     refine p_then (wp_seq (f_region Z ?_)); clear Z; intro Z
     refine s_runk tC Z 1 rfl rfl fun a Z => ?_
     refine s_end Z [2] rfl fun Z => ?_
     refine p_then (wp_ret ?_)
     obtain rfl := some_in hF
     exact f_ret Z (run_results1 rfl Z rfl) ⟨rfl, I1, (H.sub [] rfl).eq rfl⟩

def F_ref07_Of_l1 (n0 : Int × Eref02_Reader) (n0_2 : Int × Eref02_Reader) (rc : (Int × ByteArray × Int × Int × (List EMember)) → Option (EConf × Int)) (sg : Int × ByteArray × Int × Int × (List EMember)) : Option (EConf × Int) := match sg with | (i, r_s, r_at_, r_e, c_members) => if (decide (i < n0_2.1)) = true then ((F_ref02_Reader_Num ({ s := r_s, at_ := r_at_, e := r_e } : Eref02_Reader) 3).bind fun n0_3 => ((F_ref02_Reader_Num n0_3.2 1073741824).bind fun n0_4 => (chk (((c_members.length + [({ id := n0_3.1, serial := n0_4.1 } : EMember)].length : Nat) : Int) * 16 ≤ 140737488355328) (chk (inI (i + 1)) (rc (i + 1, n0_4.2.s, n0_4.2.at_, n0_4.2.e, c_members ++ [({ id := n0_3.1, serial := n0_4.1 } : EMember)])))))) else ((F_ref02_Reader_Big ({ s := r_s, at_ := r_at_, e := r_e } : Eref02_Reader)).bind fun b => ((F_ref02_Reader_End b.2).bind fun e => (if (e != 0) = true then (some ((default : EConf), e)) else ((F_ref07_Check ({ epoch := n0.1, members := c_members, floor := b.1 } : EConf)).bind fun c => (if (c != 0) = true then (some ((default : EConf), c)) else (some (({ epoch := n0.1, members := c_members, floor := b.1 } : EConf), 0)))))))

def F_ref07_Of (s0 : ByteArray) : Option (EConf × Int) := (F_ref02_Reader_Num ({ (default : Eref02_Reader) with s := s0 } : Eref02_Reader) 1073741824).bind fun n0 => ((F_ref02_Reader_Num n0.2 4).bind fun n0_2 => (iter (F_ref07_Of_l1 n0 n0_2) FU (0, n0_2.2.s, n0_2.2.at_, n0_2.2.e, ([] : List EMember))))

set_option maxHeartbeats 1000000 in
theorem c_ref07_Of {I D : Dm} {s0 : ByteArray} {w : World} {rr : EConf × Int} (hF : F_ref07_Of s0 = some rr) (H : St I D w []) :
  Calls Tryz.prog 112 #[vS s0] w (Ret fun vv w' => ∃ q1 : Value, vv = .tuple #[.agg #[vI rr.1.epoch, q1, vU rr.1.floor], vI rr.2] ∧ ∃ I', Hf I D w I' w' [SlC NEMember q1 rr.1.members]) := by
 replace H := H.hf
 unfold F_ref07_Of at hF
 refine f_enter 54 Tryz.func112 rfl rfl (Nat.le_of_ble_eq_true rfl) fun a Z => ?_
 replace Z := Z.sub (ts := [0]) rfl
 refine wp_seq (f_region Z ?_); clear Z; intro Z
 refine hA Z H [vI 0, nS, vU 0] rfl rfl (by kernel_rfl) fun a w1 b1 H Z => ?_
 refine s_runk tC Z 1 rfl rfl fun a Z => ?_
 refine s_end Z [0, 2, 3] rfl fun Z => ?_
 refine p_then (wp_seq (f_region Z ?_)); clear Z; intro Z
 refine s_runk tC Z 1 rfl rfl fun a Z => ?_
 refine sO Z (.agg #[vS s0, vI 0, vI 0]) rfl (Ob_build (vs := [(0, vS s0)]) rfl rfl (by go_simp <;> rfl)) fun a Z => ?_
 refine hB Z H [vS s0, vI 0, vI 0] rfl rfl rfl rfl fun a w2 b2 H Z => ?_
 refine s_runk tC Z 1 rfl rfl fun a Z => ?_
 refine s_end Z [2, 3, 4] rfl fun Z => ?_
 refine p_then (wp_seq (f_region Z ?_)); clear Z; intro Z
 refine sO Z (.agg #[vI 0, nS, vU 0]) rfl (Ob_build (vs := []) rfl rfl (by go_simp <;> rfl)) fun a Z => ?_
 refine hA Z H [vI 0, nS, vU 0] rfl rfl (by kernel_rfl) fun a w3 b3 H Z => ?_
 refine hT tC Z H 0 rfl rfl rfl rfl rfl (one_cons rfl (one_cons (slS.one slS.nil) (one_cons rfl one_nil))) (Nat.le_of_ble_eq_true rfl) rfl fun w4 H => ?_
 dsimp only [List.eraseIdx] at H
 refine s_end Z [2, 3, 4, 5] rfl fun Z => ?_
 refine p_then (wp_seq ?_)
 obtain ⟨n0, hx1, hF⟩ := bnd_in hF
 refine f_region Z fun Z => ?_
 refine s_runk tC Z 1 rfl rfl fun a Z => ?_
 refine hC Z H [(1, false)] rfl #[] fn_25_YConf rfl rfl (fun D h => have q := c_ref02_Reader_Num hx1 h; q) fun vv a w5 D2 hr hF2 Z => ?_
 obtain ⟨rfl, I1, K⟩ := hr
 have H := (hF2 K).nf rfl
 refine s_runk tC Z 1 rfl rfl fun a Z => ?_
 refine hT tC Z H 1 rfl rfl rfl rfl rfl (one_cons rfl one_nil) (Nat.le_of_ble_eq_true rfl) rfl fun w6 H => ?_
 dsimp only [List.eraseIdx] at H
 refine s_end Z [2, 3, 4, 5] rfl fun Z => ?_
 refine p_then (wp_seq ?_)
 obtain ⟨n0_2, hx2, hF⟩ := bnd_in hF
 refine f_region Z fun Z => ?_
 refine s_runk tC Z 1 rfl rfl fun a Z => ?_
 refine hC Z H [(1, false)] rfl #[] fn_25_YConf rfl rfl (fun D h => have q := c_ref02_Reader_Num hx2 h; q) fun vv a w7 D2 hr hF2 Z => ?_
 obtain ⟨rfl, I2, K⟩ := hr
 have H := (hF2 K).nf rfl
 refine s_runk tC Z 1 rfl rfl fun a Z => ?_
 refine s_end Z [2, 3, 4, 5, 6] rfl fun Z => ?_
 refine p_then (wp_seq ?_)
 refine wp_seq (f_region Z ?_); clear Z; intro Z
 refine s_runk tC Z 1 rfl rfl fun a Z => ?_
 refine s_end Z [2, 3, 4, 5, 6, 7] rfl fun Z => ?_
 refine p_then (wp_block ?_)
 replace H := H.nilow NEMember 111
 refine f_iter hF (fun sg a' w' => match sg with | (i, r_s, r_at_, r_e, c_members) => ∃ v1 : Value, Sl 54 [(2, pp b1 0), (3, vI 0), (4, pp b2 0), (5, pp b3 0), (6, vI n0_2.1), (7, vI i)] a' ∧ ∃ I2, Hf I D w I2 w' [BxC b1 27 [vI 0, nS, vU 0], BxC b2 61 [vS r_s, vI r_at_, vI r_e], BxC b3 27 [vI n0.1, v1, vU 0], OwC NEMember 111 v1 c_members]) ⟨nS, Z.sub (ts := [2, 3, 4, 5, 6, 7]) rfl, ⟨I2, (H.sub [(3, false), (1, false), (1, false), (0, false)] rfl).eq rfl⟩⟩ ?_
 rintro rc ⟨i, r_s, r_at_, r_e, c_members⟩ a w8 ⟨v1, Z, I3, H⟩ hF
 unfold F_ref07_Of_l1 at hF
 try dsimp only at hF
 refine wp_seq ?_
 refine wp_seq (f_region Z ?_); clear Z; intro Z
 refine s_runk tC Z 3 rfl rfl fun a Z => ?_
 refine s_end Z [2, 3, 4, 5, 6, 7, 20, 21, 22] rfl fun Z => ?_
 refine p_then ?_
 refine f_cond Z rfl (fun hc1 => ?_) (fun hc1 => ?_)
 ·replace hF := ite_t hc1 hF
  refine wp_skip ?_
  refine p_then (wp_seq ?_)
  refine wp_block ?_
  refine wp_seq (f_region Z ?_); clear Z; intro Z
  refine sO Z (.agg #[vI 0, vI 0]) rfl (Ob_build (vs := []) rfl rfl (by go_simp <;> rfl)) fun a Z => ?_
  refine hA Z H [vI 0, vI 0] rfl rfl (by kernel_rfl) fun a w9 b4 H Z => ?_
  refine hT tC Z H 0 rfl rfl rfl rfl rfl (onR 2 rfl one_nil) (Nat.le_of_ble_eq_true rfl) rfl fun w10 H => ?_
  dsimp only [List.eraseIdx] at H
  refine s_end Z [2, 3, 4, 5, 6, 7, 20, 21, 22, 25, 8] rfl fun Z => ?_
  refine p_then (wp_seq ?_)
  obtain ⟨n0_3, hx3, hF⟩ := bnd_in hF
  refine f_region Z fun Z => ?_
  refine s_runk tC Z 1 rfl rfl fun a Z => ?_
  refine hC Z H [(2, false)] rfl #[] fn_25_YConf rfl rfl (fun D h => have q := c_ref02_Reader_Num hx3 h; q) fun vv a w11 D2 hr hF2 Z => ?_
  obtain ⟨rfl, I4, K⟩ := hr
  have H := (hF2 K).nf rfl
  refine s_runk tC Z 1 rfl rfl fun a Z => ?_
  refine hT tC Z H 1 rfl rfl rfl rfl rfl (one_cons rfl one_nil) (Nat.le_of_ble_eq_true rfl) rfl fun w12 H => ?_
  dsimp only [List.eraseIdx] at H
  refine s_end Z [2, 3, 4, 5, 6, 7, 20, 21, 22, 25, 8, 26, 27, 28] rfl fun Z => ?_
  refine p_then (wp_seq ?_)
  obtain ⟨n0_4, hx4, hF⟩ := bnd_in hF
  refine f_region Z fun Z => ?_
  refine s_runk tC Z 1 rfl rfl fun a Z => ?_
  refine hC Z H [(1, false)] rfl #[] fn_25_YConf rfl rfl (fun D h => have q := c_ref02_Reader_Num hx4 h; q) fun vv a w13 D2 hr hF2 Z => ?_
  obtain ⟨rfl, I5, K⟩ := hr
  have H := (hF2 K).nf rfl
  refine s_runk tC Z 1 rfl rfl fun a Z => ?_
  refine hT tC Z H 1 rfl rfl rfl rfl rfl (one_cons rfl one_nil) (Nat.le_of_ble_eq_true rfl) rfl fun w14 H => ?_
  dsimp only [List.eraseIdx] at H
  refine s_end Z [2, 3, 4, 5, 6, 7, 20, 21, 22, 25, 8, 26, 27, 28, 29, 30, 31] rfl fun Z => ?_
  refine p_then ?_
  obtain ⟨hg1, hF⟩ := chk_in hF
  refine f_region Z fun Z => ?_
  refine s_runk tC Z 1 rfl rfl fun a Z => ?_
  refine sO Z _ rfl (oL tC rfl rfl (H.bc 3 1 rfl rfl)) fun a Z => ?_
  refine sO Z (.agg #[vI n0_3.1, vI n0_4.1]) rfl (oA tC rfl rfl ((H.bx 0 rfl).part 0 rfl)) fun a Z => ?_
  refine h_bslice Z H (vs := [(0, .agg #[vI n0_3.1, vI n0_4.1])]) (cl := [vI n0_3.1, vI n0_4.1]) (e := 111) rfl rfl rfl (by decide) rfl rfl (fun w => run_bslice (z := .agg #[vI 0, vI 0]) (m := 2) Tryz.underlying25 (by kernel_rfl) rfl rfl (by decide) (by simp [Instr.fill, Value.cells]) w) fun a w15 b5 H Z => ?_
  refine h_appO Z H 5 E_25_YConf [({ id := n0_3.1, serial := n0_4.1 } : EMember)] rfl rfl rfl rfl rfl (by decide) rfl rfl rfl (slRep2.box1 (H.bx 0 rfl) ⟨rfl, trivial⟩) hg1 (by decide) fun v2 a w16 H Z => ?_
  dsimp only [List.eraseIdx] at H
  replace H := (H.sub [(0, false), (1, false), (1, false), (1, false), (1, false)] rfl).nf rfl
  refine s_runk tC Z 1 rfl rfl fun a Z => ?_
  refine hT tC Z H 4 rfl rfl (slS.cells (H.owshape 0 rfl)) rfl rfl (one_cons (slS.one (H.owshape 0 rfl)) one_nil) (Nat.le_of_ble_eq_true rfl) rfl fun w17 H => ?_
  dsimp only [List.eraseIdx] at H
  refine s_end Z [2, 3, 4, 5, 6, 7, 20, 21, 22, 25, 8, 26, 27, 28, 29, 30, 31, 32, 33, 34, 35, 36, 37] rfl fun Z => ?_
  refine p_blk ?_
  refine p_then ?_
  obtain ⟨hg2, hF⟩ := chk_in hF
  refine f_region Z fun Z => ?_
  refine s_runk tC Z 1 rfl rfl fun a Z => ?_
  refine sO Z (vI (i + 1)) rfl (Ob_add rfl rfl rfl (wrI hg2)) fun a Z => ?_
  refine s_runk tC Z 1 rfl rfl fun a Z => ?_
  refine s_end Z [2, 3, 4, 5, 6, 7, 20, 21, 22, 25, 8, 26, 27, 28, 29, 30, 31, 32, 33, 34, 35, 36, 37, 23, 24] rfl fun Z => ?_
  refine p_then ?_
  exact ⟨(i + 1, n0_4.2.s, n0_4.2.at_, n0_4.2.e, c_members ++ [({ id := n0_3.1, serial := n0_4.1 } : EMember)]), ⟨v2, Z.sub (ts := [2, 3, 4, 5, 6, 7]) rfl, ⟨I5, (H.sub [(4, false), (3, false), (0, false), (0, false)] rfl).eq rfl⟩⟩, hF⟩
 ·replace hF := ite_f hc1 hF
  refine wp_exit ?_
  refine p_then_x ?_
  refine p_then_x ?_
  refine f_exit_here ?_
  refine p_then (wp_seq ?_)
  obtain ⟨b, hx5, hF⟩ := bnd_in hF
  refine f_region Z fun Z => ?_
  refine s_runk tC Z 1 rfl rfl fun a Z => ?_
  refine hC Z H [(1, false)] rfl #[] fn_68_YConf rfl rfl (fun D h => have q := c_ref02_Reader_Big hx5 h; q) fun vv a w18 D2 hr hF2 Z => ?_
  obtain ⟨rfl, I6, K⟩ := hr
  have H := (hF2 K).nf rfl
  refine s_runk tC Z 1 rfl rfl fun a Z => ?_
  refine hT tC Z H 2 rfl rfl rfl rfl rfl (one_cons rfl one_nil) (Nat.le_of_ble_eq_true rfl) rfl fun w19 H => ?_
  dsimp only [List.eraseIdx] at H
  refine s_end Z [2, 3, 4, 5] rfl fun Z => ?_
  refine p_then (wp_seq ?_)
  refine wp_seq ?_
  obtain ⟨e, hx6, hF⟩ := bnd_in hF
  refine f_region Z fun Z => ?_
  refine s_runk tC Z 1 rfl rfl fun a Z => ?_
  refine hC Z H [(1, false)] rfl #[] fn_28_YConf rfl rfl (fun D h => have q := c_ref02_Reader_End hx6 h; q) fun vv a w20 D2 hr hF2 Z => ?_
  obtain ⟨rfl, I7, K⟩ := hr
  have H := (hF2 K).nf rfl
  refine s_runk tC Z 1 rfl rfl fun a Z => ?_
  refine s_end Z [2, 3, 5, 9] rfl fun Z => ?_
  refine p_then (wp_seq (f_region Z ?_)); clear Z; intro Z
  refine s_runk tC Z 2 rfl rfl fun a Z => ?_
  refine s_end Z [2, 3, 5, 9, 44] rfl fun Z => ?_
  refine p_then ?_
  refine f_cond Z rfl (fun hc2 => ?_) (fun hc2 => ?_)
  ·replace hF := ite_t hc2 hF
   refine wp_seq (f_region Z ?_); clear Z; intro Z
   refine sO Z (.agg #[vI 0, nS, vU 0]) rfl (Ob_build (vs := []) rfl rfl (by go_simp <;> rfl)) fun a Z => ?_
   refine s_runk tC Z 1 rfl rfl fun a Z => ?_
   refine hT tC Z H 2 rfl rfl rfl rfl rfl (one_cons rfl (one_cons (slS.one slS.nil) (one_cons rfl one_nil))) (Nat.le_of_ble_eq_true rfl) rfl fun w21 H => ?_
   dsimp only [List.eraseIdx] at H
   refine s_runk tC Z 1 rfl rfl fun a Z => ?_
   refine s_end Z [2, 3, 5] rfl fun Z => ?_
   refine p_then (wp_ret ?_)
   refine p_then_r ?_
   replace H := H.slNil NEMember
   obtain rfl := some_in hF
   exact f_ret Z (run_resultsCT rfl Z rfl (run_loadVar_agg tC rfl (H.bx 1 rfl).at) rfl) ⟨nS, rfl, I7, (H.sub [(0, true)] rfl).eq rfl⟩
  ·replace hF := ite_f hc2 hF
   refine wp_skip ?_
   refine p_then (wp_seq ?_)
   refine wp_seq ?_
   obtain ⟨c, hx7, hF⟩ := bnd_in hF
   refine f_region Z fun Z => ?_
   refine sO Z (.agg #[vI n0.1, v1, vU b.1]) rfl (oA tC rfl rfl ((H.bx 1 rfl).part 0 rfl)) fun a Z => ?_
   refine s_call Z (caps := #[]) fn_98_YConf rfl rfl rfl rfl rfl (by decide) rfl rfl (have hq := c_ref07_Check hx7 (stS (H.owA 3 rfl) (stB _)); plainC hq) ?_; rintro _ a w22 ⟨rfl, hb⟩ Z
   replace H := H.blw hb
   clear hb
   refine s_runk tC Z 1 rfl rfl fun a Z => ?_
   refine s_end Z [2, 3, 5, 10] rfl fun Z => ?_
   refine p_then (wp_seq (f_region Z ?_)); clear Z; intro Z
   refine s_runk tC Z 2 rfl rfl fun a Z => ?_
   refine s_end Z [2, 3, 5, 10, 50] rfl fun Z => ?_
   refine p_then ?_
   refine f_cond Z rfl (fun hc3 => ?_) (fun hc3 => ?_)
   ·replace hF := ite_t hc3 hF
    refine wp_seq (f_region Z ?_); clear Z; intro Z
    refine sO Z (.agg #[vI 0, nS, vU 0]) rfl (Ob_build (vs := []) rfl rfl (by go_simp <;> rfl)) fun a Z => ?_
    refine s_runk tC Z 1 rfl rfl fun a Z => ?_
    refine hT tC Z H 2 rfl rfl rfl rfl rfl (one_cons rfl (one_cons (slS.one slS.nil) (one_cons rfl one_nil))) (Nat.le_of_ble_eq_true rfl) rfl fun w23 H => ?_
    dsimp only [List.eraseIdx] at H
    refine s_runk tC Z 1 rfl rfl fun a Z => ?_
    refine s_end Z [2, 3, 5] rfl fun Z => ?_
    refine p_then (wp_ret ?_)
    refine p_then_r ?_
    replace H := H.slNil NEMember
    obtain rfl := some_in hF
    exact f_ret Z (run_resultsCT rfl Z rfl (run_loadVar_agg tC rfl (H.bx 1 rfl).at) rfl) ⟨nS, rfl, I7, (H.sub [(0, true)] rfl).eq rfl⟩
   ·replace hF := ite_f hc3 hF
    refine wp_skip ?_
    refine p_then (wp_seq (f_region Z ?_)); clear Z; intro Z
    refine sO Z (.agg #[vI n0.1, v1, vU b.1]) rfl (oA tC rfl rfl ((H.bx 1 rfl).part 0 rfl)) fun a Z => ?_
    refine hT tC Z H 2 rfl rfl rfl rfl rfl (one_cons rfl (one_cons (slS.one (H.owshape 3 rfl)) (one_cons rfl one_nil))) (Nat.le_of_ble_eq_true rfl) rfl fun w24 H => ?_
    dsimp only [List.eraseIdx] at H
    refine s_runk tC Z 1 rfl rfl fun a Z => ?_
    refine s_end Z [2, 3] rfl fun Z => ?_
    refine p_then (wp_ret ?_)
    obtain ⟨I8, _, H⟩ := H.frzow 3 rfl
    replace H := H.nf rfl; try dsimp only at H
    obtain rfl := some_in hF
    exact f_ret Z (run_resultsCT rfl Z rfl (run_loadVar_agg tC rfl (H.bx 1 rfl).at) rfl) ⟨v1, rfl, I8, (H.sub [(0, true)] rfl).eq rfl⟩

end Go.Proofs.YthmjkcdpbbcdgaaGreat
