/- Messages: their own parts, and whether two are the same. -/
import Derived.Test.YthmjkcdpbbcdgaaYMs
namespace Go.Proofs.Ythmjkcdpbbcdgaa
open Go.RowKit
def OEMsg (b : Nat) (x : EMsg) : Ch := ExC fun (p : Value × Value × Value × Value × Value) => [BxC b 34 (cEMsg x p.1 p.2.1 p.2.2.1 p.2.2.2.1 p.2.2.2.2), SlC NEMember p.1 x.conf.members, SlC NEOp p.2.1 x.batch.ops, SlC NEEntry p.2.2.1 x.entries, OwC Nu64 22 p.2.2.2.1 x.stamps, SlC NEPair p.2.2.2.2 x.pairs]

def REMsg (b : Nat) (x : EMsg) : Ch := ExC fun (p : Value × Value × Value × Value × Value) => [BxC b 34 (cEMsg x p.1 p.2.1 p.2.2.1 p.2.2.2.1 p.2.2.2.2), SlC NEMember p.1 x.conf.members, SlC NEOp p.2.1 x.batch.ops, SlC NEEntry p.2.2.1 x.entries, SlC Nu64 p.2.2.2.1 x.stamps, SlC NEPair p.2.2.2.2 x.pairs]

def tMs2L : TabL := ⟨[(34816, 0), (34817, 1), (34818, 2), (34819, 3), (34820, 4), (34821, 5), (34822, 6), (34823, 7), (34824, 8), (34825, 9), (34826, 10), (34827, 11), (34828, 12), (34829, 13), (34830, 16), (34831, 19), (34832, 20), (34833, 21)], [9], [4], [(30, (68, 4)), (31, (22, 1)), (32, (82, 2))], [(3, (1, false)), (4, (1, false)), (9, (1, false)), (22, (1, false)), (23, (1, false)), (26, (3, true)), (29, (3, true)), (30, (1, false)), (31, (1, false)), (32, (1, false)), (34, (22, true)), (68, (4, true)), (82, (2, true))]⟩

def tMs2 : Tab Try.prog := ⟨tMs2L, by kernel_rfl⟩

theorem fn_24_YMs2 : IsFn Try.prog 24 := ⟨_, Try.func24, by kernel_rfl, by kernel_rfl⟩

theorem fn_25_YMs2 : IsFn Try.prog 25 := ⟨_, Try.func25, by kernel_rfl, by kernel_rfl⟩

theorem fn_26_YMs2 : IsFn Try.prog 26 := ⟨_, Try.func26, by kernel_rfl, by kernel_rfl⟩

theorem fn_27_YMs2 : IsFn Try.prog 27 := ⟨_, Try.func27, by kernel_rfl, by kernel_rfl⟩

theorem fn_28_YMs2 : IsFn Try.prog 28 := ⟨_, Try.func28, by kernel_rfl, by kernel_rfl⟩

theorem fn_29_YMs2 : IsFn Try.prog 29 := ⟨_, Try.func29, by kernel_rfl, by kernel_rfl⟩

theorem fn_30_YMs2 : IsFn Try.prog 30 := ⟨_, Try.func30, by kernel_rfl, by kernel_rfl⟩

theorem fn_56_YMs2 : IsFn Try.prog 56 := ⟨_, Try.func56, by kernel_rfl, by kernel_rfl⟩

theorem neq_EPair (x y : EPair) (w : World) : (binOp .neq 82 (.agg (cEPair x).toArray) (.agg (cEPair y).toArray)).run Try.prog w = .ok (.bool (!eqEPair x y)) w := by
 have h1 := run_equalIn_struct (P := Try.prog) w 9999 82 (cEPair x).toArray (cEPair y).toArray (by rw [fieldsOf_of Try.underlying82]; exact Try.underlying82) (by kernel_rfl)
 rw [run_neq_struct, h1, fieldsOf_of Try.underlying82]
 simp [Op.eqFields, part, isAgg, cEPair, beqS, eqEPair, seqB_eq, run_underlying Try.underlying9, run_equalIn_string w 9998 9 _ _ Try.underlying9]
 try ((repeat' split) <;> simp_all)

theorem eqg_EPair (op : BinOp) (x y : Operand) (a b : Array Value) (w : World) : (eqGuard op 82 x y (.agg a) (.agg b)).run Try.prog w = .ok () w := run_eqGuard_agg (by kernel_rfl) op x y a b w

def F_ref09_parts_k2 (k : Int) (x_2 : Bool) : Option ByteArray := if (x_2) = true then (some ⟨#[114, 110]⟩) else (if (k == 15) = true then (some ⟨#[]⟩) else (some ⟨#[63]⟩))

def F_ref09_parts_k1 (k : Int) (x : Bool) : Option ByteArray := if (x) = true then (some ⟨#[114, 97]⟩) else (if (k == 7) = true then (some ⟨#[114, 120, 101, 110]⟩) else (if (k == 8) = true then (some ⟨#[114, 107, 97]⟩) else (if (k == 9) = true then (some ⟨#[114, 107, 116, 97, 110]⟩) else (if (k == 10) = true then (some ⟨#[114, 107, 97, 102, 82]⟩) else (if (k == 12) = true then (F_ref09_parts_k2 k (k == 12)) else (if (k == 13) = true then (F_ref09_parts_k2 k (k == 13)) else (F_ref09_parts_k2 k (k == 14))))))))

def F_ref09_parts (k : Int) : Option ByteArray := if (k == 1) = true then (some ⟨#[67, 97]⟩) else (if (k == 2) = true then (some ⟨#[101, 115, 102, 97, 108]⟩) else (if (k == 3) = true then (some ⟨#[101, 110, 109, 112, 114, 97, 69]⟩) else (if (k == 4) = true then (some ⟨#[101, 110, 109, 112, 83]⟩) else (if (k == 5) = true then (some ⟨#[101, 66]⟩) else (if (k == 6) = true then (F_ref09_parts_k1 k (k == 6)) else (F_ref09_parts_k1 k (k == 11)))))))

set_option maxHeartbeats 1000000 in
theorem c_ref09_parts {I D : Dm} {k : Int} {w : World} {rr : ByteArray} (hF : F_ref09_parts k = some rr) (H : St I D w []) :
  Calls Try.prog 29 #[vI k] w (Ret fun vv w' => vv = vS rr ∧ ∃ I', Hf I D w I' w' []) := by
 replace H := H.hf
 unfold F_ref09_parts at hF
 refine f_enter 31 Try.func29 rfl rfl (Nat.le_of_ble_eq_true rfl) fun a Z => ?_
 replace Z := Z.sub (ts := [0]) rfl
 refine wp_seq (f_region Z ?_); clear Z; intro Z
 refine s_runk tMs2 Z 1 rfl rfl fun a Z => ?_
 refine s_end Z [0] rfl fun Z => ?_
 refine p_then (wp_seq ?_)
 refine wp_seq (f_region Z ?_); clear Z; intro Z
 refine s_runk tMs2 Z 1 rfl rfl fun a Z => ?_
 refine s_end Z [3] rfl fun Z => ?_
 refine p_then (wp_block ?_)
 refine wp_seq (f_region Z ?_); clear Z; intro Z
 refine s_runk tMs2 Z 2 rfl rfl fun a Z => ?_
 refine s_end Z [3, 4] rfl fun Z => ?_
 refine p_then ?_
 refine f_cond Z rfl (fun hc1 => ?_) (fun hc1 => ?_)
 ·replace hF := ite_t hc1 hF
  refine wp_seq (f_region Z ?_); clear Z; intro Z
  refine s_runk tMs2 Z 1 rfl rfl fun a Z => ?_
  refine s_end Z [2] rfl fun Z => ?_
  refine p_then (wp_ret ?_)
  refine p_blk_r ?_
  refine p_then_r ?_
  obtain rfl := some_in hF
  exact f_ret Z (run_results1 rfl Z rfl) ⟨rfl, I, (H.sub [] rfl).eq rfl⟩
 ·replace hF := ite_f hc1 hF
  refine wp_seq (f_region Z ?_); clear Z; intro Z
  refine s_runk tMs2 Z 2 rfl rfl fun a Z => ?_
  refine s_end Z [3, 6] rfl fun Z => ?_
  refine p_then ?_
  refine f_cond Z rfl (fun hc2 => ?_) (fun hc2 => ?_)
  ·replace hF := ite_t hc2 hF
   refine wp_seq (f_region Z ?_); clear Z; intro Z
   refine s_runk tMs2 Z 1 rfl rfl fun a Z => ?_
   refine s_end Z [2] rfl fun Z => ?_
   refine p_then (wp_ret ?_)
   refine p_blk_r ?_
   refine p_then_r ?_
   obtain rfl := some_in hF
   exact f_ret Z (run_results1 rfl Z rfl) ⟨rfl, I, (H.sub [] rfl).eq rfl⟩
  ·replace hF := ite_f hc2 hF
   refine wp_seq (f_region Z ?_); clear Z; intro Z
   refine s_runk tMs2 Z 2 rfl rfl fun a Z => ?_
   refine s_end Z [3, 8] rfl fun Z => ?_
   refine p_then ?_
   refine f_cond Z rfl (fun hc3 => ?_) (fun hc3 => ?_)
   ·replace hF := ite_t hc3 hF
    refine wp_seq (f_region Z ?_); clear Z; intro Z
    refine s_runk tMs2 Z 1 rfl rfl fun a Z => ?_
    refine s_end Z [2] rfl fun Z => ?_
    refine p_then (wp_ret ?_)
    refine p_blk_r ?_
    refine p_then_r ?_
    obtain rfl := some_in hF
    exact f_ret Z (run_results1 rfl Z rfl) ⟨rfl, I, (H.sub [] rfl).eq rfl⟩
   ·replace hF := ite_f hc3 hF
    refine wp_seq (f_region Z ?_); clear Z; intro Z
    refine s_runk tMs2 Z 2 rfl rfl fun a Z => ?_
    refine s_end Z [3, 10] rfl fun Z => ?_
    refine p_then ?_
    refine f_cond Z rfl (fun hc4 => ?_) (fun hc4 => ?_)
    ·replace hF := ite_t hc4 hF
     refine wp_seq (f_region Z ?_); clear Z; intro Z
     refine s_runk tMs2 Z 1 rfl rfl fun a Z => ?_
     refine s_end Z [2] rfl fun Z => ?_
     refine p_then (wp_ret ?_)
     refine p_blk_r ?_
     refine p_then_r ?_
     obtain rfl := some_in hF
     exact f_ret Z (run_results1 rfl Z rfl) ⟨rfl, I, (H.sub [] rfl).eq rfl⟩
    ·replace hF := ite_f hc4 hF
     refine wp_seq (f_region Z ?_); clear Z; intro Z
     refine s_runk tMs2 Z 2 rfl rfl fun a Z => ?_
     refine s_end Z [3, 12] rfl fun Z => ?_
     refine p_then ?_
     refine f_cond Z rfl (fun hc5 => ?_) (fun hc5 => ?_)
     ·replace hF := ite_t hc5 hF
      refine wp_seq (f_region Z ?_); clear Z; intro Z
      refine s_runk tMs2 Z 1 rfl rfl fun a Z => ?_
      refine s_end Z [2] rfl fun Z => ?_
      refine p_then (wp_ret ?_)
      refine p_blk_r ?_
      refine p_then_r ?_
      obtain rfl := some_in hF
      exact f_ret Z (run_results1 rfl Z rfl) ⟨rfl, I, (H.sub [] rfl).eq rfl⟩
     ·replace hF := ite_f hc5 hF
      refine f_cut (fun a' w' => ∃ (x : Bool), Sl 31 [(3, vI k), (14, vT x)] a' ∧ (∃ I2, Hf I D w I2 w' []) ∧ F_ref09_parts_k1 k x = some rr) ?_ ?_
      ·rintro a w1 ⟨x, Z, ⟨I1, H⟩, hF⟩
       unfold F_ref09_parts_k1 at hF
       try dsimp only at hF
       refine f_cond Z rfl (fun hc6 => ?_) (fun hc6 => ?_)
       ·replace hF := ite_t hc6 hF
        refine wp_seq (f_region Z ?_); clear Z; intro Z
        refine s_runk tMs2 Z 1 rfl rfl fun a Z => ?_
        refine s_end Z [2] rfl fun Z => ?_
        refine p_then (wp_ret ?_)
        refine p_blk_r ?_
        refine p_then_r ?_
        obtain rfl := some_in hF
        exact f_ret Z (run_results1 rfl Z rfl) ⟨rfl, I1, (H.sub [] rfl).eq rfl⟩
       ·replace hF := ite_f hc6 hF
        refine wp_seq (f_region Z ?_); clear Z; intro Z
        refine s_runk tMs2 Z 2 rfl rfl fun a Z => ?_
        refine s_end Z [3, 17] rfl fun Z => ?_
        refine p_then ?_
        refine f_cond Z rfl (fun hc7 => ?_) (fun hc7 => ?_)
        ·replace hF := ite_t hc7 hF
         refine wp_seq (f_region Z ?_); clear Z; intro Z
         refine s_runk tMs2 Z 1 rfl rfl fun a Z => ?_
         refine s_end Z [2] rfl fun Z => ?_
         refine p_then (wp_ret ?_)
         refine p_blk_r ?_
         refine p_then_r ?_
         obtain rfl := some_in hF
         exact f_ret Z (run_results1 rfl Z rfl) ⟨rfl, I1, (H.sub [] rfl).eq rfl⟩
        ·replace hF := ite_f hc7 hF
         refine wp_seq (f_region Z ?_); clear Z; intro Z
         refine s_runk tMs2 Z 2 rfl rfl fun a Z => ?_
         refine s_end Z [3, 19] rfl fun Z => ?_
         refine p_then ?_
         refine f_cond Z rfl (fun hc8 => ?_) (fun hc8 => ?_)
         ·replace hF := ite_t hc8 hF
          refine wp_seq (f_region Z ?_); clear Z; intro Z
          refine s_runk tMs2 Z 1 rfl rfl fun a Z => ?_
          refine s_end Z [2] rfl fun Z => ?_
          refine p_then (wp_ret ?_)
          refine p_blk_r ?_
          refine p_then_r ?_
          obtain rfl := some_in hF
          exact f_ret Z (run_results1 rfl Z rfl) ⟨rfl, I1, (H.sub [] rfl).eq rfl⟩
         ·replace hF := ite_f hc8 hF
          refine wp_seq (f_region Z ?_); clear Z; intro Z
          refine s_runk tMs2 Z 2 rfl rfl fun a Z => ?_
          refine s_end Z [3, 21] rfl fun Z => ?_
          refine p_then ?_
          refine f_cond Z rfl (fun hc9 => ?_) (fun hc9 => ?_)
          ·replace hF := ite_t hc9 hF
           refine wp_seq (f_region Z ?_); clear Z; intro Z
           refine s_runk tMs2 Z 1 rfl rfl fun a Z => ?_
           refine s_end Z [2] rfl fun Z => ?_
           refine p_then (wp_ret ?_)
           refine p_blk_r ?_
           refine p_then_r ?_
           obtain rfl := some_in hF
           exact f_ret Z (run_results1 rfl Z rfl) ⟨rfl, I1, (H.sub [] rfl).eq rfl⟩
          ·replace hF := ite_f hc9 hF
           refine wp_seq (f_region Z ?_); clear Z; intro Z
           refine s_runk tMs2 Z 2 rfl rfl fun a Z => ?_
           refine s_end Z [3, 23] rfl fun Z => ?_
           refine p_then ?_
           refine f_cond Z rfl (fun hc10 => ?_) (fun hc10 => ?_)
           ·replace hF := ite_t hc10 hF
            refine wp_seq (f_region Z ?_); clear Z; intro Z
            refine s_runk tMs2 Z 1 rfl rfl fun a Z => ?_
            refine s_end Z [2] rfl fun Z => ?_
            refine p_then (wp_ret ?_)
            refine p_blk_r ?_
            refine p_then_r ?_
            obtain rfl := some_in hF
            exact f_ret Z (run_results1 rfl Z rfl) ⟨rfl, I1, (H.sub [] rfl).eq rfl⟩
           ·replace hF := ite_f hc10 hF
            refine f_cut (fun a' w' => ∃ (x_2 : Bool), Sl 31 [(3, vI k), (25, vT x_2)] a' ∧ (∃ I2, Hf I D w I2 w' []) ∧ F_ref09_parts_k2 k x_2 = some rr) ?_ ?_
            ·rintro a w2 ⟨x_2, Z, ⟨I2, H⟩, hF⟩
             unfold F_ref09_parts_k2 at hF
             try dsimp only at hF
             refine f_cond Z rfl (fun hc11 => ?_) (fun hc11 => ?_)
             ·replace hF := ite_t hc11 hF
              refine wp_seq (f_region Z ?_); clear Z; intro Z
              refine s_runk tMs2 Z 1 rfl rfl fun a Z => ?_
              refine s_end Z [2] rfl fun Z => ?_
              refine p_then (wp_ret ?_)
              refine p_blk_r ?_
              refine p_then_r ?_
              obtain rfl := some_in hF
              exact f_ret Z (run_results1 rfl Z rfl) ⟨rfl, I2, (H.sub [] rfl).eq rfl⟩
             ·replace hF := ite_f hc11 hF
              refine wp_seq (f_region Z ?_); clear Z; intro Z
              refine s_runk tMs2 Z 2 rfl rfl fun a Z => ?_
              refine s_end Z [29] rfl fun Z => ?_
              refine p_then ?_
              refine f_cond Z rfl (fun hc12 => ?_) (fun hc12 => ?_)
              ·replace hF := ite_t hc12 hF
               refine wp_seq (f_region Z ?_); clear Z; intro Z
               refine s_runk tMs2 Z 1 rfl rfl fun a Z => ?_
               refine s_end Z [2] rfl fun Z => ?_
               refine p_then (wp_ret ?_)
               refine p_blk_r ?_
               refine p_then_r ?_
               obtain rfl := some_in hF
               exact f_ret Z (run_results1 rfl Z rfl) ⟨rfl, I2, (H.sub [] rfl).eq rfl⟩
              ·replace hF := ite_f hc12 hF
               refine wp_skip ?_
               refine p_blk ?_
               refine p_then (wp_seq (f_region Z ?_)); clear Z; intro Z
               refine s_runk tMs2 Z 1 rfl rfl fun a Z => ?_
               refine s_end Z [2] rfl fun Z => ?_
               refine p_then (wp_ret ?_)
               obtain rfl := some_in hF
               exact f_ret Z (run_results1 rfl Z rfl) ⟨rfl, I2, (H.sub [] rfl).eq rfl⟩
            ·skip
             refine wp_seq (f_region Z ?_); clear Z; intro Z
             refine s_runk tMs2 Z 2 rfl rfl fun a Z => ?_
             refine s_end Z [3, 25] rfl fun Z => ?_
             refine p_then ?_
             refine f_cond Z rfl (fun hc13 => ?_) (fun hc13 => ?_)
             ·replace hF := ite_t hc13 hF
              refine wp_skip ?_
              refine p_then ?_
              exact ⟨k == 12, Z.sub (ts := [3, 25]) rfl, ⟨I1, (H.sub [] rfl).eq rfl⟩, hF⟩
             ·replace hF := ite_f hc13 hF
              refine wp_seq (f_region Z ?_); clear Z; intro Z
              refine s_runk tMs2 Z 2 rfl rfl fun a Z => ?_
              refine s_end Z [3, 25] rfl fun Z => ?_
              refine p_then ?_
              refine f_cond Z rfl (fun hc14 => ?_) (fun hc14 => ?_)
              ·replace hF := ite_t hc14 hF
               refine wp_skip ?_
               refine p_then ?_
               exact ⟨k == 13, Z.sub (ts := [3, 25]) rfl, ⟨I1, (H.sub [] rfl).eq rfl⟩, hF⟩
              ·replace hF := ite_f hc14 hF
               refine f_region Z fun Z => ?_
               refine s_runk tMs2 Z 2 rfl rfl fun a Z => ?_
               refine s_end Z [3, 25] rfl fun Z => ?_
               refine p_then ?_
               exact ⟨k == 14, Z.sub (ts := [3, 25]) rfl, ⟨I1, (H.sub [] rfl).eq rfl⟩, hF⟩
      ·skip
       refine wp_seq (f_region Z ?_); clear Z; intro Z
       refine s_runk tMs2 Z 2 rfl rfl fun a Z => ?_
       refine s_end Z [3, 14] rfl fun Z => ?_
       refine p_then ?_
       refine f_cond Z rfl (fun hc15 => ?_) (fun hc15 => ?_)
       ·replace hF := ite_t hc15 hF
        refine wp_skip ?_
        refine p_then ?_
        exact ⟨k == 6, Z.sub (ts := [3, 14]) rfl, ⟨I, (H.sub [] rfl).eq rfl⟩, hF⟩
       ·replace hF := ite_f hc15 hF
        refine f_region Z fun Z => ?_
        refine s_runk tMs2 Z 2 rfl rfl fun a Z => ?_
        refine s_end Z [3, 14] rfl fun Z => ?_
        refine p_then ?_
        exact ⟨k == 11, Z.sub (ts := [3, 14]) rfl, ⟨I, (H.sub [] rfl).eq rfl⟩, hF⟩

def F_ref09_part_k1 (y : EMsg) : Option EMsg := some y

def F_ref09_part (x : EMsg) (m : EMsg) (c : Int) : Option EMsg := if (c == 101) = true then (F_ref09_part_k1 ({ x with epoch := m.epoch } : EMsg)) else (if (c == 115) = true then (F_ref09_part_k1 ({ x with serial := m.serial } : EMsg)) else (if (c == 114) = true then (F_ref09_part_k1 ({ x with req := m.req } : EMsg)) else (if (c == 110) = true then (F_ref09_part_k1 ({ x with n := m.n } : EMsg)) else (if (c == 109) = true then (F_ref09_part_k1 ({ x with m := m.m } : EMsg)) else (if (c == 112) = true then (F_ref09_part_k1 ({ x with p := m.p } : EMsg)) else (if (c == 120) = true then (F_ref09_part_k1 ({ x with e := m.e } : EMsg)) else (if (c == 97) = true then (F_ref09_part_k1 ({ x with at_ := m.at_ } : EMsg)) else (if (c == 108) = true then (F_ref09_part_k1 ({ x with last := m.last } : EMsg)) else (if (c == 102) = true then (F_ref09_part_k1 ({ x with flag := m.flag } : EMsg)) else (if (c == 107) = true then (F_ref09_part_k1 ({ x with key := m.key } : EMsg)) else (if (c == 116) = true then (F_ref09_part_k1 ({ x with to_ := m.to_ } : EMsg)) else (if (c == 67) = true then (F_ref09_part_k1 ({ x with conf := m.conf } : EMsg)) else (if (c == 66) = true then (F_ref09_part_k1 ({ x with batch := m.batch } : EMsg)) else (if (c == 69) = true then (F_ref09_part_k1 ({ x with entries := m.entries } : EMsg)) else (if (c == 83) = true then (F_ref09_part_k1 ({ x with stamps := m.stamps } : EMsg)) else (if (c == 82) = true then (F_ref09_part_k1 ({ x with pairs := m.pairs } : EMsg)) else (F_ref09_part_k1 x)))))))))))))))))

set_option maxHeartbeats 1000000 in
theorem c_ref09_part {I D : Dm} {x : EMsg} {v1_x : Value} {v2_x : Value} {v3_x : Value} {v4_x : Value} {v5_x : Value} {m : EMsg} {v6_m : Value} {v7_m : Value} {v8_m : Value} {v9_m : Value} {v10_m : Value} {c : Int} {w : World} {rr : EMsg} (hF : F_ref09_part x m c = some rr) (H : St I D w [SlC NEMember v1_x x.conf.members, SlC NEOp v2_x x.batch.ops, SlC NEEntry v3_x x.entries, SlC Nu64 v4_x x.stamps, SlC NEPair v5_x x.pairs, SlC NEMember v6_m m.conf.members, SlC NEOp v7_m m.batch.ops, SlC NEEntry v8_m m.entries, SlC Nu64 v9_m m.stamps, SlC NEPair v10_m m.pairs]) :
  Calls Try.prog 30 #[.agg (cEMsg x v1_x v2_x v3_x v4_x v5_x).toArray, .agg (cEMsg m v6_m v7_m v8_m v9_m v10_m).toArray, .int .u8 c] w (Ret fun vv w' => ∃ q1 q2 q3 q4 q5 : Value, vv = .agg (cEMsg rr q1 q2 q3 q4 q5).toArray ∧ ∃ I', Hf I D w I' w' [SlC NEMember q1 rr.conf.members, SlC NEOp q2 rr.batch.ops, SlC NEEntry q3 rr.entries, SlC Nu64 q4 rr.stamps, SlC NEPair q5 rr.pairs]) := by
 replace H := H.hf
 unfold F_ref09_part at hF
 refine f_enter 96 Try.func30 rfl rfl (Nat.le_of_ble_eq_true rfl) fun a Z => ?_
 replace Z := Z.sub (ts := [0, 1, 2]) rfl
 refine wp_seq (f_region Z ?_); clear Z; intro Z
 refine h_boxv Z H (cl := (cEMsg x v1_x v2_x v3_x v4_x v5_x)) rfl rfl rfl (by decide) rfl rfl rfl fun a w1 b1 H Z => ?_
 refine h_boxv Z H (cl := (cEMsg m v6_m v7_m v8_m v9_m v10_m)) rfl rfl rfl (by decide) rfl rfl rfl fun a w2 b2 H Z => ?_
 refine hA Z H [vI 0, vI 0, vI 0, vI 0, vT false, vU 0, vU 0, vI 0, vI 0, vI 0, vI 0, vS ByteArray.empty, vS ByteArray.empty, vI 0, nS, vU 0, vI 0, vI 0, nS, nS, nS, nS] rfl rfl (by kernel_rfl) fun a w3 b3 H Z => ?_
 refine s_end Z [2, 3, 4, 6] rfl fun Z => ?_
 refine p_then (wp_seq (f_region Z ?_)); clear Z; intro Z
 refine sO Z (.agg (cEMsg x v1_x v2_x v3_x v4_x v5_x).toArray) rfl (oA tMs2 rfl rfl ((H.bx 2 rfl).part 0 rfl)) fun a Z => ?_
 refine hA Z H [vI 0, vI 0, vI 0, vI 0, vT false, vU 0, vU 0, vI 0, vI 0, vI 0, vI 0, vS ByteArray.empty, vS ByteArray.empty, vI 0, nS, vU 0, vI 0, vI 0, nS, nS, nS, nS] rfl rfl (by kernel_rfl) fun a w4 b4 H Z => ?_
 refine hT tMs2 Z H 0 rfl rfl rfl rfl rfl (onR 14 rfl (one_cons (slS.one (H.slshape 4 rfl)) (onR 3 rfl (one_cons (slS.one (H.slshape 5 rfl)) (one_cons (slS.one (H.slshape 6 rfl)) (one_cons (slS.one (H.slshape 7 rfl)) (one_cons (slS.one (H.slshape 8 rfl)) one_nil))))))) (Nat.le_of_ble_eq_true rfl) (putCells_all rfl) fun w5 H => ?_
 dsimp only [List.eraseIdx] at H
 refine s_end Z [2, 4, 6, 7] rfl fun Z => ?_
 refine p_then ?_
 refine f_cut (fun a' w' => ∃ (y : EMsg), Sl 96 [(6, pp b3 0), (7, pp b4 0)] a' ∧ (∃ I2, Hf I D w I2 w' [BxC b3 34 [vI 0, vI 0, vI 0, vI 0, vT false, vU 0, vU 0, vI 0, vI 0, vI 0, vI 0, vS ByteArray.empty, vS ByteArray.empty, vI 0, nS, vU 0, vI 0, vI 0, nS, nS, nS, nS], REMsg b4 y]) ∧ F_ref09_part_k1 y = some rr) ?_ ?_
 ·rintro a w6 ⟨y, Z, ⟨I1, H⟩, hF⟩
  unfold F_ref09_part_k1 at hF
  try dsimp only at hF
  refine wp_seq (f_region Z ?_); clear Z; intro Z
  obtain ⟨⟨v11, v12, v13, v14, v15⟩, H⟩ := H.openX 1 rfl
  replace H := H.nf rfl; try dsimp only at H
  refine sO Z (.agg (cEMsg y v11 v12 v13 v14 v15).toArray) rfl (oA tMs2 rfl rfl ((H.bx 0 rfl).part 0 rfl)) fun a Z => ?_
  refine hT tMs2 Z H 6 rfl rfl rfl rfl rfl (onR 14 rfl (one_cons (slS.one (H.slshape 1 rfl)) (onR 3 rfl (one_cons (slS.one (H.slshape 2 rfl)) (one_cons (slS.one (H.slshape 3 rfl)) (one_cons (slS.one (H.slshape 4 rfl)) (one_cons (slS.one (H.slshape 5 rfl)) one_nil))))))) (Nat.le_of_ble_eq_true rfl) (putCells_all rfl) fun w7 H => ?_
  dsimp only [List.eraseIdx] at H
  refine s_end Z [6] rfl fun Z => ?_
  refine p_then (wp_ret ?_)
  obtain rfl := some_in hF
  exact f_ret Z (run_resultsC rfl Z rfl (run_loadVar_agg tMs2 rfl (H.bx 0 rfl).at)) ⟨v11, v12, v13, v14, v15, rfl, I1, (H.sub [(2, true), (3, true), (4, true), (5, true), (6, true)] rfl).eq rfl⟩
 ·skip
  refine wp_seq (f_region Z ?_); clear Z; intro Z
  refine s_runk tMs2 Z 1 rfl rfl fun a Z => ?_
  refine s_end Z [4, 6, 7, 9] rfl fun Z => ?_
  refine p_then (wp_block ?_)
  refine wp_seq (f_region Z ?_); clear Z; intro Z
  refine s_runk tMs2 Z 2 rfl rfl fun a Z => ?_
  refine s_end Z [4, 6, 7, 9, 10] rfl fun Z => ?_
  refine p_then ?_
  refine f_cond Z rfl (fun hc1 => ?_) (fun hc1 => ?_)
  ·replace hF := ite_t hc1 hF
   refine f_region Z fun Z => ?_
   refine s_runk tMs2 Z 1 rfl rfl fun a Z => ?_
   refine sO Z _ rfl (oL tMs2 rfl rfl (H.bc 2 1 rfl rfl)) fun a Z => ?_
   refine s_runk tMs2 Z 1 rfl rfl fun a Z => ?_
   refine hT tMs2 Z H 0 rfl rfl rfl rfl rfl (one_cons rfl one_nil) (Nat.le_of_ble_eq_true rfl) rfl fun w8 H => ?_
   dsimp only [List.eraseIdx] at H
   refine s_end Z [6, 7] rfl fun Z => ?_
   refine p_blk ?_
   refine p_then ?_
   replace H := H.sX (REMsg b4 ({ x with epoch := m.epoch } : EMsg)) (v1_x, v2_x, v3_x, v4_x, v5_x) [(0, false), (3, true), (4, true), (5, true), (6, true), (7, true)] rfl rfl rfl
   exact ⟨({ x with epoch := m.epoch } : EMsg), Z.sub (ts := [6, 7]) rfl, ⟨I, (H.sub [(1, false), (0, false)] rfl).eq rfl⟩, hF⟩
  ·replace hF := ite_f hc1 hF
   refine wp_seq (f_region Z ?_); clear Z; intro Z
   refine s_runk tMs2 Z 2 rfl rfl fun a Z => ?_
   refine s_end Z [4, 6, 7, 9, 15] rfl fun Z => ?_
   refine p_then ?_
   refine f_cond Z rfl (fun hc2 => ?_) (fun hc2 => ?_)
   ·replace hF := ite_t hc2 hF
    refine f_region Z fun Z => ?_
    refine s_runk tMs2 Z 1 rfl rfl fun a Z => ?_
    refine sO Z _ rfl (oL tMs2 rfl rfl (H.bc 2 3 rfl rfl)) fun a Z => ?_
    refine s_runk tMs2 Z 1 rfl rfl fun a Z => ?_
    refine hT tMs2 Z H 0 rfl rfl rfl rfl rfl (one_cons rfl one_nil) (Nat.le_of_ble_eq_true rfl) rfl fun w9 H => ?_
    dsimp only [List.eraseIdx] at H
    refine s_end Z [6, 7] rfl fun Z => ?_
    refine p_blk ?_
    refine p_then ?_
    replace H := H.sX (REMsg b4 ({ x with serial := m.serial } : EMsg)) (v1_x, v2_x, v3_x, v4_x, v5_x) [(0, false), (3, true), (4, true), (5, true), (6, true), (7, true)] rfl rfl rfl
    exact ⟨({ x with serial := m.serial } : EMsg), Z.sub (ts := [6, 7]) rfl, ⟨I, (H.sub [(1, false), (0, false)] rfl).eq rfl⟩, hF⟩
   ·replace hF := ite_f hc2 hF
    refine wp_seq (f_region Z ?_); clear Z; intro Z
    refine s_runk tMs2 Z 2 rfl rfl fun a Z => ?_
    refine s_end Z [4, 6, 7, 9, 20] rfl fun Z => ?_
    refine p_then ?_
    refine f_cond Z rfl (fun hc3 => ?_) (fun hc3 => ?_)
    ·replace hF := ite_t hc3 hF
     refine f_region Z fun Z => ?_
     refine s_runk tMs2 Z 1 rfl rfl fun a Z => ?_
     refine sO Z _ rfl (oL tMs2 rfl rfl (H.bc 2 2 rfl rfl)) fun a Z => ?_
     refine s_runk tMs2 Z 1 rfl rfl fun a Z => ?_
     refine hT tMs2 Z H 0 rfl rfl rfl rfl rfl (one_cons rfl one_nil) (Nat.le_of_ble_eq_true rfl) rfl fun w10 H => ?_
     dsimp only [List.eraseIdx] at H
     refine s_end Z [6, 7] rfl fun Z => ?_
     refine p_blk ?_
     refine p_then ?_
     replace H := H.sX (REMsg b4 ({ x with req := m.req } : EMsg)) (v1_x, v2_x, v3_x, v4_x, v5_x) [(0, false), (3, true), (4, true), (5, true), (6, true), (7, true)] rfl rfl rfl
     exact ⟨({ x with req := m.req } : EMsg), Z.sub (ts := [6, 7]) rfl, ⟨I, (H.sub [(1, false), (0, false)] rfl).eq rfl⟩, hF⟩
    ·replace hF := ite_f hc3 hF
     refine wp_seq (f_region Z ?_); clear Z; intro Z
     refine s_runk tMs2 Z 2 rfl rfl fun a Z => ?_
     refine s_end Z [4, 6, 7, 9, 25] rfl fun Z => ?_
     refine p_then ?_
     refine f_cond Z rfl (fun hc4 => ?_) (fun hc4 => ?_)
     ·replace hF := ite_t hc4 hF
      refine f_region Z fun Z => ?_
      refine s_runk tMs2 Z 1 rfl rfl fun a Z => ?_
      refine sO Z _ rfl (oL tMs2 rfl rfl (H.bc 2 7 rfl rfl)) fun a Z => ?_
      refine s_runk tMs2 Z 1 rfl rfl fun a Z => ?_
      refine hT tMs2 Z H 0 rfl rfl rfl rfl rfl (one_cons rfl one_nil) (Nat.le_of_ble_eq_true rfl) rfl fun w11 H => ?_
      dsimp only [List.eraseIdx] at H
      refine s_end Z [6, 7] rfl fun Z => ?_
      refine p_blk ?_
      refine p_then ?_
      replace H := H.sX (REMsg b4 ({ x with n := m.n } : EMsg)) (v1_x, v2_x, v3_x, v4_x, v5_x) [(0, false), (3, true), (4, true), (5, true), (6, true), (7, true)] rfl rfl rfl
      exact ⟨({ x with n := m.n } : EMsg), Z.sub (ts := [6, 7]) rfl, ⟨I, (H.sub [(1, false), (0, false)] rfl).eq rfl⟩, hF⟩
     ·replace hF := ite_f hc4 hF
      refine wp_seq (f_region Z ?_); clear Z; intro Z
      refine s_runk tMs2 Z 2 rfl rfl fun a Z => ?_
      refine s_end Z [4, 6, 7, 9, 30] rfl fun Z => ?_
      refine p_then ?_
      refine f_cond Z rfl (fun hc5 => ?_) (fun hc5 => ?_)
      ·replace hF := ite_t hc5 hF
       refine f_region Z fun Z => ?_
       refine s_runk tMs2 Z 1 rfl rfl fun a Z => ?_
       refine sO Z _ rfl (oL tMs2 rfl rfl (H.bc 2 8 rfl rfl)) fun a Z => ?_
       refine s_runk tMs2 Z 1 rfl rfl fun a Z => ?_
       refine hT tMs2 Z H 0 rfl rfl rfl rfl rfl (one_cons rfl one_nil) (Nat.le_of_ble_eq_true rfl) rfl fun w12 H => ?_
       dsimp only [List.eraseIdx] at H
       refine s_end Z [6, 7] rfl fun Z => ?_
       refine p_blk ?_
       refine p_then ?_
       replace H := H.sX (REMsg b4 ({ x with m := m.m } : EMsg)) (v1_x, v2_x, v3_x, v4_x, v5_x) [(0, false), (3, true), (4, true), (5, true), (6, true), (7, true)] rfl rfl rfl
       exact ⟨({ x with m := m.m } : EMsg), Z.sub (ts := [6, 7]) rfl, ⟨I, (H.sub [(1, false), (0, false)] rfl).eq rfl⟩, hF⟩
      ·replace hF := ite_f hc5 hF
       refine wp_seq (f_region Z ?_); clear Z; intro Z
       refine s_runk tMs2 Z 2 rfl rfl fun a Z => ?_
       refine s_end Z [4, 6, 7, 9, 35] rfl fun Z => ?_
       refine p_then ?_
       refine f_cond Z rfl (fun hc6 => ?_) (fun hc6 => ?_)
       ·replace hF := ite_t hc6 hF
        refine f_region Z fun Z => ?_
        refine s_runk tMs2 Z 1 rfl rfl fun a Z => ?_
        refine sO Z _ rfl (oL tMs2 rfl rfl (H.bc 2 9 rfl rfl)) fun a Z => ?_
        refine s_runk tMs2 Z 1 rfl rfl fun a Z => ?_
        refine hT tMs2 Z H 0 rfl rfl rfl rfl rfl (one_cons rfl one_nil) (Nat.le_of_ble_eq_true rfl) rfl fun w13 H => ?_
        dsimp only [List.eraseIdx] at H
        refine s_end Z [6, 7] rfl fun Z => ?_
        refine p_blk ?_
        refine p_then ?_
        replace H := H.sX (REMsg b4 ({ x with p := m.p } : EMsg)) (v1_x, v2_x, v3_x, v4_x, v5_x) [(0, false), (3, true), (4, true), (5, true), (6, true), (7, true)] rfl rfl rfl
        exact ⟨({ x with p := m.p } : EMsg), Z.sub (ts := [6, 7]) rfl, ⟨I, (H.sub [(1, false), (0, false)] rfl).eq rfl⟩, hF⟩
       ·replace hF := ite_f hc6 hF
        refine wp_seq (f_region Z ?_); clear Z; intro Z
        refine s_runk tMs2 Z 2 rfl rfl fun a Z => ?_
        refine s_end Z [4, 6, 7, 9, 40] rfl fun Z => ?_
        refine p_then ?_
        refine f_cond Z rfl (fun hc7 => ?_) (fun hc7 => ?_)
        ·replace hF := ite_t hc7 hF
         refine f_region Z fun Z => ?_
         refine s_runk tMs2 Z 1 rfl rfl fun a Z => ?_
         refine sO Z _ rfl (oL tMs2 rfl rfl (H.bc 2 10 rfl rfl)) fun a Z => ?_
         refine s_runk tMs2 Z 1 rfl rfl fun a Z => ?_
         refine hT tMs2 Z H 0 rfl rfl rfl rfl rfl (one_cons rfl one_nil) (Nat.le_of_ble_eq_true rfl) rfl fun w14 H => ?_
         dsimp only [List.eraseIdx] at H
         refine s_end Z [6, 7] rfl fun Z => ?_
         refine p_blk ?_
         refine p_then ?_
         replace H := H.sX (REMsg b4 ({ x with e := m.e } : EMsg)) (v1_x, v2_x, v3_x, v4_x, v5_x) [(0, false), (3, true), (4, true), (5, true), (6, true), (7, true)] rfl rfl rfl
         exact ⟨({ x with e := m.e } : EMsg), Z.sub (ts := [6, 7]) rfl, ⟨I, (H.sub [(1, false), (0, false)] rfl).eq rfl⟩, hF⟩
        ·replace hF := ite_f hc7 hF
         refine wp_seq (f_region Z ?_); clear Z; intro Z
         refine s_runk tMs2 Z 2 rfl rfl fun a Z => ?_
         refine s_end Z [4, 6, 7, 9, 45] rfl fun Z => ?_
         refine p_then ?_
         refine f_cond Z rfl (fun hc8 => ?_) (fun hc8 => ?_)
         ·replace hF := ite_t hc8 hF
          refine f_region Z fun Z => ?_
          refine s_runk tMs2 Z 1 rfl rfl fun a Z => ?_
          refine sO Z _ rfl (oL tMs2 rfl rfl (H.bc 2 5 rfl rfl)) fun a Z => ?_
          refine s_runk tMs2 Z 1 rfl rfl fun a Z => ?_
          refine hT tMs2 Z H 0 rfl rfl rfl rfl rfl (one_cons rfl one_nil) (Nat.le_of_ble_eq_true rfl) rfl fun w15 H => ?_
          dsimp only [List.eraseIdx] at H
          refine s_end Z [6, 7] rfl fun Z => ?_
          refine p_blk ?_
          refine p_then ?_
          replace H := H.sX (REMsg b4 ({ x with at_ := m.at_ } : EMsg)) (v1_x, v2_x, v3_x, v4_x, v5_x) [(0, false), (3, true), (4, true), (5, true), (6, true), (7, true)] rfl rfl rfl
          exact ⟨({ x with at_ := m.at_ } : EMsg), Z.sub (ts := [6, 7]) rfl, ⟨I, (H.sub [(1, false), (0, false)] rfl).eq rfl⟩, hF⟩
         ·replace hF := ite_f hc8 hF
          refine wp_seq (f_region Z ?_); clear Z; intro Z
          refine s_runk tMs2 Z 2 rfl rfl fun a Z => ?_
          refine s_end Z [4, 6, 7, 9, 50] rfl fun Z => ?_
          refine p_then ?_
          refine f_cond Z rfl (fun hc9 => ?_) (fun hc9 => ?_)
          ·replace hF := ite_t hc9 hF
           refine f_region Z fun Z => ?_
           refine s_runk tMs2 Z 1 rfl rfl fun a Z => ?_
           refine sO Z _ rfl (oL tMs2 rfl rfl (H.bc 2 6 rfl rfl)) fun a Z => ?_
           refine s_runk tMs2 Z 1 rfl rfl fun a Z => ?_
           refine hT tMs2 Z H 0 rfl rfl rfl rfl rfl (one_cons rfl one_nil) (Nat.le_of_ble_eq_true rfl) rfl fun w16 H => ?_
           dsimp only [List.eraseIdx] at H
           refine s_end Z [6, 7] rfl fun Z => ?_
           refine p_blk ?_
           refine p_then ?_
           replace H := H.sX (REMsg b4 ({ x with last := m.last } : EMsg)) (v1_x, v2_x, v3_x, v4_x, v5_x) [(0, false), (3, true), (4, true), (5, true), (6, true), (7, true)] rfl rfl rfl
           exact ⟨({ x with last := m.last } : EMsg), Z.sub (ts := [6, 7]) rfl, ⟨I, (H.sub [(1, false), (0, false)] rfl).eq rfl⟩, hF⟩
          ·replace hF := ite_f hc9 hF
           refine wp_seq (f_region Z ?_); clear Z; intro Z
           refine s_runk tMs2 Z 2 rfl rfl fun a Z => ?_
           refine s_end Z [4, 6, 7, 9, 55] rfl fun Z => ?_
           refine p_then ?_
           refine f_cond Z rfl (fun hc10 => ?_) (fun hc10 => ?_)
           ·replace hF := ite_t hc10 hF
            refine f_region Z fun Z => ?_
            refine s_runk tMs2 Z 1 rfl rfl fun a Z => ?_
            refine sO Z _ rfl (oL tMs2 rfl rfl (H.bc 2 4 rfl rfl)) fun a Z => ?_
            refine s_runk tMs2 Z 1 rfl rfl fun a Z => ?_
            refine hT tMs2 Z H 0 rfl rfl rfl rfl rfl (one_cons rfl one_nil) (Nat.le_of_ble_eq_true rfl) rfl fun w17 H => ?_
            dsimp only [List.eraseIdx] at H
            refine s_end Z [6, 7] rfl fun Z => ?_
            refine p_blk ?_
            refine p_then ?_
            replace H := H.sX (REMsg b4 ({ x with flag := m.flag } : EMsg)) (v1_x, v2_x, v3_x, v4_x, v5_x) [(0, false), (3, true), (4, true), (5, true), (6, true), (7, true)] rfl rfl rfl
            exact ⟨({ x with flag := m.flag } : EMsg), Z.sub (ts := [6, 7]) rfl, ⟨I, (H.sub [(1, false), (0, false)] rfl).eq rfl⟩, hF⟩
           ·replace hF := ite_f hc10 hF
            refine wp_seq (f_region Z ?_); clear Z; intro Z
            refine s_runk tMs2 Z 2 rfl rfl fun a Z => ?_
            refine s_end Z [4, 6, 7, 9, 60] rfl fun Z => ?_
            refine p_then ?_
            refine f_cond Z rfl (fun hc11 => ?_) (fun hc11 => ?_)
            ·replace hF := ite_t hc11 hF
             refine f_region Z fun Z => ?_
             refine s_runk tMs2 Z 1 rfl rfl fun a Z => ?_
             refine sO Z _ rfl (oL tMs2 rfl rfl (H.bc 2 11 rfl rfl)) fun a Z => ?_
             refine s_runk tMs2 Z 1 rfl rfl fun a Z => ?_
             refine hT tMs2 Z H 0 rfl rfl rfl rfl rfl (one_cons rfl one_nil) (Nat.le_of_ble_eq_true rfl) rfl fun w18 H => ?_
             dsimp only [List.eraseIdx] at H
             refine s_end Z [6, 7] rfl fun Z => ?_
             refine p_blk ?_
             refine p_then ?_
             replace H := H.sX (REMsg b4 ({ x with key := m.key } : EMsg)) (v1_x, v2_x, v3_x, v4_x, v5_x) [(0, false), (3, true), (4, true), (5, true), (6, true), (7, true)] rfl rfl rfl
             exact ⟨({ x with key := m.key } : EMsg), Z.sub (ts := [6, 7]) rfl, ⟨I, (H.sub [(1, false), (0, false)] rfl).eq rfl⟩, hF⟩
            ·replace hF := ite_f hc11 hF
             refine wp_seq (f_region Z ?_); clear Z; intro Z
             refine s_runk tMs2 Z 2 rfl rfl fun a Z => ?_
             refine s_end Z [4, 6, 7, 9, 65] rfl fun Z => ?_
             refine p_then ?_
             refine f_cond Z rfl (fun hc12 => ?_) (fun hc12 => ?_)
             ·replace hF := ite_t hc12 hF
              refine f_region Z fun Z => ?_
              refine s_runk tMs2 Z 1 rfl rfl fun a Z => ?_
              refine sO Z _ rfl (oL tMs2 rfl rfl (H.bc 2 12 rfl rfl)) fun a Z => ?_
              refine s_runk tMs2 Z 1 rfl rfl fun a Z => ?_
              refine hT tMs2 Z H 0 rfl rfl rfl rfl rfl (one_cons rfl one_nil) (Nat.le_of_ble_eq_true rfl) rfl fun w19 H => ?_
              dsimp only [List.eraseIdx] at H
              refine s_end Z [6, 7] rfl fun Z => ?_
              refine p_blk ?_
              refine p_then ?_
              replace H := H.sX (REMsg b4 ({ x with to_ := m.to_ } : EMsg)) (v1_x, v2_x, v3_x, v4_x, v5_x) [(0, false), (3, true), (4, true), (5, true), (6, true), (7, true)] rfl rfl rfl
              exact ⟨({ x with to_ := m.to_ } : EMsg), Z.sub (ts := [6, 7]) rfl, ⟨I, (H.sub [(1, false), (0, false)] rfl).eq rfl⟩, hF⟩
             ·replace hF := ite_f hc12 hF
              refine wp_seq (f_region Z ?_); clear Z; intro Z
              refine s_runk tMs2 Z 2 rfl rfl fun a Z => ?_
              refine s_end Z [4, 6, 7, 9, 70] rfl fun Z => ?_
              refine p_then ?_
              refine f_cond Z rfl (fun hc13 => ?_) (fun hc13 => ?_)
              ·replace hF := ite_t hc13 hF
               refine f_region Z fun Z => ?_
               refine s_runk tMs2 Z 1 rfl rfl fun a Z => ?_
               refine sO Z (.agg #[vI m.conf.epoch, v6_m, vU m.conf.floor]) rfl (oA tMs2 rfl rfl ((H.bx 2 rfl).part 13 rfl)) fun a Z => ?_
               refine s_runk tMs2 Z 1 rfl rfl fun a Z => ?_
               refine hT tMs2 Z H 0 rfl rfl rfl rfl rfl (one_cons rfl (one_cons (slS.one (H.slshape 9 rfl)) (one_cons rfl one_nil))) (Nat.le_of_ble_eq_true rfl) rfl fun w20 H => ?_
               dsimp only [List.eraseIdx] at H
               refine s_end Z [6, 7] rfl fun Z => ?_
               refine p_blk ?_
               refine p_then ?_
               replace H := H.sX (REMsg b4 ({ x with conf := m.conf } : EMsg)) (v6_m, v2_x, v3_x, v4_x, v5_x) [(0, false), (8, true), (4, true), (5, true), (6, true), (7, true)] rfl rfl rfl
               exact ⟨({ x with conf := m.conf } : EMsg), Z.sub (ts := [6, 7]) rfl, ⟨I, (H.sub [(1, false), (0, false)] rfl).eq rfl⟩, hF⟩
              ·replace hF := ite_f hc13 hF
               refine wp_seq (f_region Z ?_); clear Z; intro Z
               refine s_runk tMs2 Z 2 rfl rfl fun a Z => ?_
               refine s_end Z [4, 6, 7, 9, 75] rfl fun Z => ?_
               refine p_then ?_
               refine f_cond Z rfl (fun hc14 => ?_) (fun hc14 => ?_)
               ·replace hF := ite_t hc14 hF
                refine f_region Z fun Z => ?_
                refine s_runk tMs2 Z 1 rfl rfl fun a Z => ?_
                refine sO Z (.agg #[vI m.batch.client, vI m.batch.req, v7_m]) rfl (oA tMs2 rfl rfl ((H.bx 2 rfl).part 16 rfl)) fun a Z => ?_
                refine s_runk tMs2 Z 1 rfl rfl fun a Z => ?_
                refine hT tMs2 Z H 0 rfl rfl rfl rfl rfl (onR 2 rfl (one_cons (slS.one (H.slshape 10 rfl)) one_nil)) (Nat.le_of_ble_eq_true rfl) rfl fun w21 H => ?_
                dsimp only [List.eraseIdx] at H
                refine s_end Z [6, 7] rfl fun Z => ?_
                refine p_blk ?_
                refine p_then ?_
                replace H := H.sX (REMsg b4 ({ x with batch := m.batch } : EMsg)) (v1_x, v7_m, v3_x, v4_x, v5_x) [(0, false), (3, true), (9, true), (5, true), (6, true), (7, true)] rfl rfl rfl
                exact ⟨({ x with batch := m.batch } : EMsg), Z.sub (ts := [6, 7]) rfl, ⟨I, (H.sub [(1, false), (0, false)] rfl).eq rfl⟩, hF⟩
               ·replace hF := ite_f hc14 hF
                refine wp_seq (f_region Z ?_); clear Z; intro Z
                refine s_runk tMs2 Z 2 rfl rfl fun a Z => ?_
                refine s_end Z [4, 6, 7, 9, 80] rfl fun Z => ?_
                refine p_then ?_
                refine f_cond Z rfl (fun hc15 => ?_) (fun hc15 => ?_)
                ·replace hF := ite_t hc15 hF
                 refine f_region Z fun Z => ?_
                 refine s_runk tMs2 Z 1 rfl rfl fun a Z => ?_
                 refine sO Z _ rfl (oL tMs2 rfl rfl (H.bc 2 19 rfl rfl)) fun a Z => ?_
                 refine s_runk tMs2 Z 1 rfl rfl fun a Z => ?_
                 refine hT tMs2 Z H 0 rfl rfl (slS.cells (H.slshape 11 rfl)) rfl rfl (one_cons (slS.one (H.slshape 11 rfl)) one_nil) (Nat.le_of_ble_eq_true rfl) rfl fun w22 H => ?_
                 dsimp only [List.eraseIdx] at H
                 refine s_end Z [6, 7] rfl fun Z => ?_
                 refine p_blk ?_
                 refine p_then ?_
                 replace H := H.sX (REMsg b4 ({ x with entries := m.entries } : EMsg)) (v1_x, v2_x, v8_m, v4_x, v5_x) [(0, false), (3, true), (4, true), (10, true), (6, true), (7, true)] rfl rfl rfl
                 exact ⟨({ x with entries := m.entries } : EMsg), Z.sub (ts := [6, 7]) rfl, ⟨I, (H.sub [(1, false), (0, false)] rfl).eq rfl⟩, hF⟩
                ·replace hF := ite_f hc15 hF
                 refine wp_seq (f_region Z ?_); clear Z; intro Z
                 refine s_runk tMs2 Z 2 rfl rfl fun a Z => ?_
                 refine s_end Z [4, 6, 7, 9, 85] rfl fun Z => ?_
                 refine p_then ?_
                 refine f_cond Z rfl (fun hc16 => ?_) (fun hc16 => ?_)
                 ·replace hF := ite_t hc16 hF
                  refine f_region Z fun Z => ?_
                  refine s_runk tMs2 Z 1 rfl rfl fun a Z => ?_
                  refine sO Z _ rfl (oL tMs2 rfl rfl (H.bc 2 20 rfl rfl)) fun a Z => ?_
                  refine s_runk tMs2 Z 1 rfl rfl fun a Z => ?_
                  refine hT tMs2 Z H 0 rfl rfl (slS.cells (H.slshape 12 rfl)) rfl rfl (one_cons (slS.one (H.slshape 12 rfl)) one_nil) (Nat.le_of_ble_eq_true rfl) rfl fun w23 H => ?_
                  dsimp only [List.eraseIdx] at H
                  refine s_end Z [6, 7] rfl fun Z => ?_
                  refine p_blk ?_
                  refine p_then ?_
                  replace H := H.sX (REMsg b4 ({ x with stamps := m.stamps } : EMsg)) (v1_x, v2_x, v3_x, v9_m, v5_x) [(0, false), (3, true), (4, true), (5, true), (11, true), (7, true)] rfl rfl rfl
                  exact ⟨({ x with stamps := m.stamps } : EMsg), Z.sub (ts := [6, 7]) rfl, ⟨I, (H.sub [(1, false), (0, false)] rfl).eq rfl⟩, hF⟩
                 ·replace hF := ite_f hc16 hF
                  refine wp_seq (f_region Z ?_); clear Z; intro Z
                  refine s_runk tMs2 Z 2 rfl rfl fun a Z => ?_
                  refine s_end Z [4, 6, 7, 90] rfl fun Z => ?_
                  refine p_then ?_
                  refine f_cond Z rfl (fun hc17 => ?_) (fun hc17 => ?_)
                  ·replace hF := ite_t hc17 hF
                   refine f_region Z fun Z => ?_
                   refine s_runk tMs2 Z 1 rfl rfl fun a Z => ?_
                   refine sO Z _ rfl (oL tMs2 rfl rfl (H.bc 2 21 rfl rfl)) fun a Z => ?_
                   refine s_runk tMs2 Z 1 rfl rfl fun a Z => ?_
                   refine hT tMs2 Z H 0 rfl rfl (slS.cells (H.slshape 13 rfl)) rfl rfl (one_cons (slS.one (H.slshape 13 rfl)) one_nil) (Nat.le_of_ble_eq_true rfl) rfl fun w24 H => ?_
                   dsimp only [List.eraseIdx] at H
                   refine s_end Z [6, 7] rfl fun Z => ?_
                   refine p_blk ?_
                   refine p_then ?_
                   replace H := H.sX (REMsg b4 ({ x with pairs := m.pairs } : EMsg)) (v1_x, v2_x, v3_x, v4_x, v10_m) [(0, false), (3, true), (4, true), (5, true), (6, true), (12, true)] rfl rfl rfl
                   exact ⟨({ x with pairs := m.pairs } : EMsg), Z.sub (ts := [6, 7]) rfl, ⟨I, (H.sub [(1, false), (0, false)] rfl).eq rfl⟩, hF⟩
                  ·replace hF := ite_f hc17 hF
                   refine wp_skip ?_
                   refine p_blk ?_
                   refine p_then ?_
                   replace H := H.sX (REMsg b4 x) (v1_x, v2_x, v3_x, v4_x, v5_x) [(0, false), (3, true), (4, true), (5, true), (6, true), (7, true)] rfl rfl rfl
                   exact ⟨x, Z.sub (ts := [6, 7]) rfl, ⟨I, (H.sub [(1, false), (0, false)] rfl).eq rfl⟩, hF⟩

def F_ref09_Clean_l1 (m : EMsg) (p : ByteArray) (rc : (Int × Int × Int × Int × Int × Bool × Int × Int × Int × Int × Int × Int × ByteArray × ByteArray × Int × (List EMember) × Int × Int × Int × (List EOp) × (List EEntry) × (List Int) × (List EPair)) → Option EMsg) (sg : Int × Int × Int × Int × Int × Bool × Int × Int × Int × Int × Int × Int × ByteArray × ByteArray × Int × (List EMember) × Int × Int × Int × (List EOp) × (List EEntry) × (List Int) × (List EPair)) : Option EMsg := match sg with | (i, x_k, x_epoch, x_req, x_serial, x_flag, x_at_, x_last, x_n, x_m, x_p, x_e, x_key, x_to_, x_conf_epoch, x_conf_members, x_conf_floor, x_batch_client, x_batch_req, x_batch_ops, x_entries, x_stamps, x_pairs) => if (decide (i < (p.size : Int))) = true then (chk ((0 : Int) ≤ i ∧ i < (p.size : Int)) ((F_ref09_part ({ k := x_k, epoch := x_epoch, req := x_req, serial := x_serial, flag := x_flag, at_ := x_at_, last := x_last, n := x_n, m := x_m, p := x_p, e := x_e, key := x_key, to_ := x_to_, conf := ({ epoch := x_conf_epoch, members := x_conf_members, floor := x_conf_floor } : EConf), batch := ({ client := x_batch_client, req := x_batch_req, ops := x_batch_ops } : EBatch), entries := x_entries, stamps := x_stamps, pairs := x_pairs } : EMsg) m (byteAt p (i).toNat : Int)).bind fun p_2 => (chk (inI (i + 1)) (rc (i + 1, p_2.k, p_2.epoch, p_2.req, p_2.serial, p_2.flag, p_2.at_, p_2.last, p_2.n, p_2.m, p_2.p, p_2.e, p_2.key, p_2.to_, p_2.conf.epoch, p_2.conf.members, p_2.conf.floor, p_2.batch.client, p_2.batch.req, p_2.batch.ops, p_2.entries, p_2.stamps, p_2.pairs))))) else (some ({ k := x_k, epoch := x_epoch, req := x_req, serial := x_serial, flag := x_flag, at_ := x_at_, last := x_last, n := x_n, m := x_m, p := x_p, e := x_e, key := x_key, to_ := x_to_, conf := ({ epoch := x_conf_epoch, members := x_conf_members, floor := x_conf_floor } : EConf), batch := ({ client := x_batch_client, req := x_batch_req, ops := x_batch_ops } : EBatch), entries := x_entries, stamps := x_stamps, pairs := x_pairs } : EMsg))

def F_ref09_Clean (m : EMsg) : Option EMsg := (F_ref09_parts m.k).bind fun p => (if (seqB p ⟨#[63]⟩) = true then (some (default : EMsg)) else (iter (F_ref09_Clean_l1 m p) FU (0, m.k, 0, 0, 0, false, 0, 0, 0, 0, 0, 0, ByteArray.empty, ByteArray.empty, 0, ([] : List EMember), 0, 0, 0, ([] : List EOp), ([] : List EEntry), ([] : List Int), ([] : List EPair))))

set_option maxHeartbeats 1000000 in
theorem c_ref09_Clean {I D : Dm} {m : EMsg} {v1_m : Value} {v2_m : Value} {v3_m : Value} {v4_m : Value} {v5_m : Value} {w : World} {rr : EMsg} (hF : F_ref09_Clean m = some rr) (H : St I D w [SlC NEMember v1_m m.conf.members, SlC NEOp v2_m m.batch.ops, SlC NEEntry v3_m m.entries, SlC Nu64 v4_m m.stamps, SlC NEPair v5_m m.pairs]) :
  Calls Try.prog 9 #[.agg (cEMsg m v1_m v2_m v3_m v4_m v5_m).toArray] w (Ret fun vv w' => ∃ q1 q2 q3 q4 q5 : Value, vv = .agg (cEMsg rr q1 q2 q3 q4 q5).toArray ∧ ∃ I', Hf I D w I' w' [SlC NEMember q1 rr.conf.members, SlC NEOp q2 rr.batch.ops, SlC NEEntry q3 rr.entries, SlC Nu64 q4 rr.stamps, SlC NEPair q5 rr.pairs]) := by
 replace H := H.hf
 unfold F_ref09_Clean at hF
 refine f_enter 28 Try.func9 rfl rfl (Nat.le_of_ble_eq_true rfl) fun a Z => ?_
 replace Z := Z.sub (ts := [0]) rfl
 refine wp_seq (f_region Z ?_); clear Z; intro Z
 refine h_boxv Z H (cl := (cEMsg m v1_m v2_m v3_m v4_m v5_m)) rfl rfl rfl (by decide) rfl rfl rfl fun a w1 b1 H Z => ?_
 refine hA Z H [vI 0, vI 0, vI 0, vI 0, vT false, vU 0, vU 0, vI 0, vI 0, vI 0, vI 0, vS ByteArray.empty, vS ByteArray.empty, vI 0, nS, vU 0, vI 0, vI 0, nS, nS, nS, nS] rfl rfl (by kernel_rfl) fun a w2 b2 H Z => ?_
 refine s_end Z [1, 2] rfl fun Z => ?_
 refine p_then (wp_seq ?_)
 obtain ⟨p, hx1, hF⟩ := bnd_in hF
 refine f_region Z fun Z => ?_
 refine s_runk tMs2 Z 1 rfl rfl fun a Z => ?_
 refine sO Z _ rfl (oL tMs2 rfl rfl (H.bc 1 0 rfl rfl)) fun a Z => ?_
 refine hC Z H [] rfl #[] fn_29_YMs2 rfl rfl (fun D h => have q := c_ref09_parts hx1 h; q) fun vv a w3 D2 hr hF2 Z => ?_
 obtain ⟨rfl, I1, K⟩ := hr
 have H := (hF2 K).nf rfl
 refine s_runk tMs2 Z 1 rfl rfl fun a Z => ?_
 refine s_end Z [1, 2, 3] rfl fun Z => ?_
 refine p_then (wp_seq ?_)
 refine wp_seq (f_region Z ?_); clear Z; intro Z
 refine s_runk tMs2 Z 2 rfl rfl fun a Z => ?_
 refine s_end Z [1, 2, 3, 10] rfl fun Z => ?_
 refine p_then ?_
 refine f_cond Z rfl (fun hc1 => ?_) (fun hc1 => ?_)
 ·replace hF := ite_t hc1 hF
  refine wp_seq (f_region Z ?_); clear Z; intro Z
  refine sO Z (.agg #[vI 0, vI 0, vI 0, vI 0, vT false, vU 0, vU 0, vI 0, vI 0, vI 0, vI 0, vS ByteArray.empty, vS ByteArray.empty, vI 0, nS, vU 0, vI 0, vI 0, nS, nS, nS, nS]) rfl (Ob_build (vs := []) rfl rfl (by go_simp <;> rfl)) fun a Z => ?_
  refine hT tMs2 Z H 0 rfl rfl rfl rfl rfl (onR 14 rfl (one_cons (slS.one slS.nil) (onR 3 rfl (one_cons (slS.one slS.nil) (one_cons (slS.one slS.nil) (one_cons (slS.one slS.nil) (one_cons (slS.one slS.nil) one_nil))))))) (Nat.le_of_ble_eq_true rfl) (putCells_all rfl) fun w4 H => ?_
  dsimp only [List.eraseIdx] at H
  refine s_end Z [2] rfl fun Z => ?_
  refine p_then (wp_ret ?_)
  refine p_then_r ?_
  replace H := H.slNil NEMember
  replace H := H.slNil NEOp
  replace H := H.slNil NEEntry
  replace H := H.slNil Nu64
  replace H := H.slNil NEPair
  obtain rfl := some_in hF
  exact f_ret Z (run_resultsC rfl Z rfl (run_loadVar_agg tMs2 rfl (H.bx 5 rfl).at)) ⟨nS, nS, nS, nS, nS, rfl, I1, (H.sub [(4, true), (3, true), (2, true), (1, true), (0, true)] rfl).eq rfl⟩
 ·replace hF := ite_f hc1 hF
  refine wp_skip ?_
  refine p_then (wp_seq (f_region Z ?_)); clear Z; intro Z
  refine s_runk tMs2 Z 1 rfl rfl fun a Z => ?_
  refine sO Z _ rfl (oL tMs2 rfl rfl (H.bc 1 0 rfl rfl)) fun a Z => ?_
  refine sO Z (.agg #[vI m.k, vI 0, vI 0, vI 0, vT false, vU 0, vU 0, vI 0, vI 0, vI 0, vI 0, vS ByteArray.empty, vS ByteArray.empty, vI 0, nS, vU 0, vI 0, vI 0, nS, nS, nS, nS]) rfl (Ob_build (vs := [(0, vI m.k)]) rfl rfl (by go_simp <;> rfl)) fun a Z => ?_
  refine hA Z H [vI 0, vI 0, vI 0, vI 0, vT false, vU 0, vU 0, vI 0, vI 0, vI 0, vI 0, vS ByteArray.empty, vS ByteArray.empty, vI 0, nS, vU 0, vI 0, vI 0, nS, nS, nS, nS] rfl rfl (by kernel_rfl) fun a w5 b3 H Z => ?_
  refine hT tMs2 Z H 0 rfl rfl rfl rfl rfl (onR 14 rfl (one_cons (slS.one slS.nil) (onR 3 rfl (one_cons (slS.one slS.nil) (one_cons (slS.one slS.nil) (one_cons (slS.one slS.nil) (one_cons (slS.one slS.nil) one_nil))))))) (Nat.le_of_ble_eq_true rfl) (putCells_all rfl) fun w6 H => ?_
  dsimp only [List.eraseIdx] at H
  refine s_end Z [1, 2, 3, 4] rfl fun Z => ?_
  refine p_then (wp_seq ?_)
  refine wp_seq (f_region Z ?_); clear Z; intro Z
  refine s_runk tMs2 Z 1 rfl rfl fun a Z => ?_
  refine s_end Z [1, 2, 3, 4, 5] rfl fun Z => ?_
  refine p_then (wp_block ?_)
  replace H := H.slNil NEMember
  replace H := H.slNil NEOp
  replace H := H.slNil NEEntry
  replace H := H.slNil Nu64
  replace H := H.slNil NEPair
  refine f_iter hF (fun sg a' w' => match sg with | (i, x_k, x_epoch, x_req, x_serial, x_flag, x_at_, x_last, x_n, x_m, x_p, x_e, x_key, x_to_, x_conf_epoch, x_conf_members, x_conf_floor, x_batch_client, x_batch_req, x_batch_ops, x_entries, x_stamps, x_pairs) => ∃ v6 v7 v8 v9 v10 : Value, Sl 28 [(1, pp b1 0), (2, pp b2 0), (3, vS p), (4, pp b3 0), (5, vI i)] a' ∧ ∃ I2, Hf I D w I2 w' [BxC b1 34 (cEMsg m v1_m v2_m v3_m v4_m v5_m), BxC b2 34 [vI 0, vI 0, vI 0, vI 0, vT false, vU 0, vU 0, vI 0, vI 0, vI 0, vI 0, vS ByteArray.empty, vS ByteArray.empty, vI 0, nS, vU 0, vI 0, vI 0, nS, nS, nS, nS], BxC b3 34 [vI x_k, vI x_epoch, vI x_req, vI x_serial, vT x_flag, vU x_at_, vU x_last, vI x_n, vI x_m, vI x_p, vI x_e, vS x_key, vS x_to_, vI x_conf_epoch, v6, vU x_conf_floor, vI x_batch_client, vI x_batch_req, v7, v8, v9, v10], SlC NEMember v1_m m.conf.members, SlC NEOp v2_m m.batch.ops, SlC NEEntry v3_m m.entries, SlC Nu64 v4_m m.stamps, SlC NEPair v5_m m.pairs, SlC NEMember v6 x_conf_members, SlC NEOp v7 x_batch_ops, SlC NEEntry v8 x_entries, SlC Nu64 v9 x_stamps, SlC NEPair v10 x_pairs]) ⟨nS, nS, nS, nS, nS, Z.sub (ts := [1, 2, 3, 4, 5]) rfl, ⟨I1, (H.sub [(7, false), (6, false), (5, false), (5, true), (6, true), (7, true), (8, true), (9, true), (4, true), (3, true), (2, true), (1, true), (0, true)] rfl).eq rfl⟩⟩ ?_
  rintro rc ⟨i, x_k, x_epoch, x_req, x_serial, x_flag, x_at_, x_last, x_n, x_m, x_p, x_e, x_key, x_to_, x_conf_epoch, x_conf_members, x_conf_floor, x_batch_client, x_batch_req, x_batch_ops, x_entries, x_stamps, x_pairs⟩ a w7 ⟨v6, v7, v8, v9, v10, Z, I2, H⟩ hF
  unfold F_ref09_Clean_l1 at hF
  try dsimp only at hF
  refine wp_seq ?_
  refine wp_seq (f_region Z ?_); clear Z; intro Z
  refine s_runk tMs2 Z 4 rfl rfl fun a Z => ?_
  refine s_end Z [1, 2, 3, 4, 5, 18] rfl fun Z => ?_
  refine p_then ?_
  refine f_cond Z rfl (fun hc2 => ?_) (fun hc2 => ?_)
  ·replace hF := ite_t hc2 hF
   refine wp_skip ?_
   refine p_then (wp_seq ?_)
   refine wp_block ?_
   obtain ⟨hg1, hF⟩ := chk_in hF
   obtain ⟨p_2, hx2, hF⟩ := bnd_in hF
   refine f_quietS 5 (by kernel_rfl) (by kernel_rfl) (by kernel_rfl) (by kernel_rfl) (by kernel_rfl) Z fun Z => ?_
   refine qO Z (.agg #[vI x_k, vI x_epoch, vI x_req, vI x_serial, vT x_flag, vU x_at_, vU x_last, vI x_n, vI x_m, vI x_p, vI x_e, vS x_key, vS x_to_, vI x_conf_epoch, v6, vU x_conf_floor, vI x_batch_client, vI x_batch_req, v7, v8, v9, v10]) rfl (fun _ hw => oA tMs2 rfl rfl (((H.blw hw).bx 2 rfl).part 0 rfl)) fun a Z => ?_
   refine qO Z (.agg (cEMsg m v1_m v2_m v3_m v4_m v5_m).toArray) rfl (fun _ hw => oA tMs2 rfl rfl (((H.blw hw).bx 0 rfl).part 0 rfl)) fun a Z => ?_
   refine q_runk tMs2 Z 2 rfl rfl fun a Z => ?_
   refine qO Z (.int .u8 (byteAt p (i).toNat : Int)) rfl (fun _ hw => Ob_sidxs tMs2 rfl rfl rfl rfl hg1) fun a Z => ?_
   refine q_endS Z [1, 2, 3, 4, 5, 18, 21, 22, 23, 24, 25] rfl fun w8 hb Z => ?_
   replace H := H.blw hb
   clear hb
   refine hC Z H [(8, true), (9, true), (10, true), (11, true), (12, true), (3, true), (4, true), (5, true), (6, true), (7, true)] rfl #[] fn_30_YMs2 rfl rfl (fun D h => have q := c_ref09_part hx2 h; q) fun vv a w9 D2 hr hF2 Z => ?_
   obtain ⟨q1, q2, q3, q4, q5, rfl, I3, K⟩ := hr
   have H := (hF2 K).nf rfl
   refine hT tMs2 Z H 7 rfl rfl rfl rfl rfl (onR 14 rfl (one_cons (slS.one (H.slshape 0 rfl)) (onR 3 rfl (one_cons (slS.one (H.slshape 1 rfl)) (one_cons (slS.one (H.slshape 2 rfl)) (one_cons (slS.one (H.slshape 3 rfl)) (one_cons (slS.one (H.slshape 4 rfl)) one_nil))))))) (Nat.le_of_ble_eq_true rfl) (putCells_all rfl) fun w10 H => ?_
   dsimp only [List.eraseIdx] at H
   refine s_end Z [1, 2, 3, 4, 5] rfl fun Z => ?_
   refine p_blk ?_
   refine p_then ?_
   obtain ⟨hg2, hF⟩ := chk_in hF
   refine f_region Z fun Z => ?_
   refine s_runk tMs2 Z 1 rfl rfl fun a Z => ?_
   refine sO Z (vI (i + 1)) rfl (Ob_add rfl rfl rfl (wrI hg2)) fun a Z => ?_
   refine s_runk tMs2 Z 1 rfl rfl fun a Z => ?_
   refine s_end Z [1, 2, 3, 4, 5] rfl fun Z => ?_
   refine p_then ?_
   exact ⟨(i + 1, p_2.k, p_2.epoch, p_2.req, p_2.serial, p_2.flag, p_2.at_, p_2.last, p_2.n, p_2.m, p_2.p, p_2.e, p_2.key, p_2.to_, p_2.conf.epoch, p_2.conf.members, p_2.conf.floor, p_2.batch.client, p_2.batch.req, p_2.batch.ops, p_2.entries, p_2.stamps, p_2.pairs), ⟨q1, q2, q3, q4, q5, Z.sub (ts := [1, 2, 3, 4, 5]) rfl, ⟨I3, (H.sub [(6, false), (6, false), (0, false), (5, true), (6, true), (7, true), (8, true), (9, true), (0, true), (1, true), (2, true), (3, true), (4, true)] rfl).eq rfl⟩⟩, hF⟩
  ·replace hF := ite_f hc2 hF
   refine wp_exit ?_
   refine p_then_x ?_
   refine p_then_x ?_
   refine f_exit_here ?_
   refine p_then (wp_seq (f_region Z ?_)); clear Z; intro Z
   refine sO Z (.agg #[vI x_k, vI x_epoch, vI x_req, vI x_serial, vT x_flag, vU x_at_, vU x_last, vI x_n, vI x_m, vI x_p, vI x_e, vS x_key, vS x_to_, vI x_conf_epoch, v6, vU x_conf_floor, vI x_batch_client, vI x_batch_req, v7, v8, v9, v10]) rfl (oA tMs2 rfl rfl ((H.bx 2 rfl).part 0 rfl)) fun a Z => ?_
   refine hT tMs2 Z H 1 rfl rfl rfl rfl rfl (onR 14 rfl (one_cons (slS.one (H.slshape 8 rfl)) (onR 3 rfl (one_cons (slS.one (H.slshape 9 rfl)) (one_cons (slS.one (H.slshape 10 rfl)) (one_cons (slS.one (H.slshape 11 rfl)) (one_cons (slS.one (H.slshape 12 rfl)) one_nil))))))) (Nat.le_of_ble_eq_true rfl) (putCells_all rfl) fun w11 H => ?_
   dsimp only [List.eraseIdx] at H
   refine s_end Z [2] rfl fun Z => ?_
   refine p_then (wp_ret ?_)
   obtain rfl := some_in hF
   exact f_ret Z (run_resultsC rfl Z rfl (run_loadVar_agg tMs2 rfl (H.bx 0 rfl).at)) ⟨v6, v7, v8, v9, v10, rfl, I2, (H.sub [(8, true), (9, true), (10, true), (11, true), (12, true)] rfl).eq rfl⟩

def F_ref08_SameAll_l1 (a0 : List EEntry) (b : List EEntry) (rc : Int → Option Bool) (sg : Int) : Option Bool := match sg with | i => if ((decide (i < (a0.length : Int))) && (decide (i < (b.length : Int)))) = true then (chk ((0 : Int) ≤ i ∧ i < (a0.length : Int)) (chk ((0 : Int) ≤ i ∧ i < (b.length : Int)) ((F_ref08_Same ({ (a0.getD (i).toNat default) with batch := ({ client := ((a0.getD (i).toNat default).batch).client, req := ((a0.getD (i).toNat default).batch).req, ops := ((a0.getD (i).toNat default).batch).ops } : EBatch) } : EEntry) ({ (b.getD (i).toNat default) with batch := ({ client := ((b.getD (i).toNat default).batch).client, req := ((b.getD (i).toNat default).batch).req, ops := ((b.getD (i).toNat default).batch).ops } : EBatch) } : EEntry)).bind fun s0 => (if (!s0) = true then (some false) else (chk (inI (i + 1)) (rc (i + 1))))))) else (some true)

def F_ref08_SameAll (a0 : List EEntry) (b : List EEntry) : Option Bool := if ((a0.length : Int) != (b.length : Int)) = true then (some false) else (iter (F_ref08_SameAll_l1 a0 b) FU 0)

set_option maxHeartbeats 1000000 in
theorem c_ref08_SameAll {I D : Dm} {a0 : List EEntry} {v1_a0 : Value} {b : List EEntry} {v2_b : Value} {w : World} {rr : Bool} (hF : F_ref08_SameAll a0 b = some rr) (H : St I D w [SlC NEEntry v1_a0 a0, SlC NEEntry v2_b b]) :
  Calls Try.prog 26 #[v1_a0, v2_b] w (Ret fun vv w' => vv = vT rr ∧ ∃ I', Hf I D w I' w' []) := by
 replace H := H.hf
 unfold F_ref08_SameAll at hF
 refine f_enter 33 Try.func26 rfl rfl (Nat.le_of_ble_eq_true rfl) fun a Z => ?_
 replace Z := Z.sub (ts := [0, 1]) rfl
 refine wp_seq (f_region Z ?_); clear Z; intro Z
 refine s_runk tMs2 Z 1 rfl rfl fun a Z => ?_
 refine s_end Z [0, 1] rfl fun Z => ?_
 refine p_then (wp_seq ?_)
 refine wp_seq (f_region Z ?_); clear Z; intro Z
 refine s_runk tMs2 Z 1 rfl rfl fun a Z => ?_
 refine sO Z (vI (ln a0)) rfl (Ob_slen tMs2 rfl rfl rfl (H.slshape 0 rfl)) fun a Z => ?_
 refine s_runk tMs2 Z 1 rfl rfl fun a Z => ?_
 refine sO Z (vI (ln b)) rfl (Ob_slen tMs2 rfl rfl rfl (H.slshape 1 rfl)) fun a Z => ?_
 refine s_runk tMs2 Z 1 rfl rfl fun a Z => ?_
 refine s_end Z [0, 1, 10] rfl fun Z => ?_
 refine p_then ?_
 refine f_cond Z rfl (fun hc1 => ?_) (fun hc1 => ?_)
 ·replace hF := ite_t hc1 hF
  refine wp_seq (f_region Z ?_); clear Z; intro Z
  refine s_runk tMs2 Z 1 rfl rfl fun a Z => ?_
  refine s_end Z [4] rfl fun Z => ?_
  refine p_then (wp_ret ?_)
  refine p_then_r ?_
  obtain rfl := some_in hF
  exact f_ret Z (run_results1 rfl Z rfl) ⟨rfl, I, (H.sub [] rfl).eq rfl⟩
 ·replace hF := ite_f hc1 hF
  refine wp_skip ?_
  refine p_then (wp_seq ?_)
  refine wp_seq (f_region Z ?_); clear Z; intro Z
  refine s_runk tMs2 Z 1 rfl rfl fun a Z => ?_
  refine s_end Z [0, 1, 5] rfl fun Z => ?_
  refine p_then (wp_block ?_)
  refine f_iter hF (fun sg a' w' => match sg with | i => Sl 33 [(0, v1_a0), (1, v2_b), (5, vI i)] a' ∧ ∃ I2, Hf I D w I2 w' [SlC NEEntry v1_a0 a0, SlC NEEntry v2_b b]) ⟨Z.sub (ts := [0, 1, 5]) rfl, ⟨I, (H.sub [(0, true), (1, true)] rfl).eq rfl⟩⟩ ?_
  rintro rc i a w1 ⟨Z, I1, H⟩ hF
  unfold F_ref08_SameAll_l1 at hF
  try dsimp only at hF
  refine wp_seq ?_
  refine wp_seq (f_region Z ?_); clear Z; intro Z
  refine s_runk tMs2 Z 2 rfl rfl fun a Z => ?_
  refine sO Z (vI (ln a0)) rfl (Ob_slen tMs2 rfl rfl rfl (H.slshape 0 rfl)) fun a Z => ?_
  refine s_runk tMs2 Z 2 rfl rfl fun a Z => ?_
  refine gO Z (vI i) rfl (wantB_t _) (.n 5 rfl .z) (fun hp => Ob_c tMs2 rfl) fun a Z => ?_
  refine gO Z v2_b rfl (wantB_t _) (.n 1 rfl .z) (fun hp => Ob_c tMs2 rfl) fun a Z => ?_
  refine gO Z (vI (ln b)) rfl (wantB_t _) (.c 17 rfl id .z) (fun hp => Ob_slen tMs2 rfl rfl rfl (H.slshape 1 rfl)) fun a Z => ?_
  refine gO Z (vT (decide (i < (ln b)))) rfl (wantB_t _) (.c 16 rfl id (.c 18 rfl id .z)) (fun hp => Ob_c tMs2 rfl) fun a Z => ?_
  refine sO Z (vT ((decide (i < (ln a0))) && (decide (i < (ln b))))) rfl (Ob_pick rfl rfl rfl rfl (pick_and _ _)) fun a Z => ?_
  refine s_end Z [0, 1, 5, 20] rfl fun Z => ?_
  refine p_then ?_
  refine f_cond Z rfl (fun hc2 => ?_) (fun hc2 => ?_)
  ·replace hF := ite_t hc2 hF
   refine wp_skip ?_
   refine p_then (wp_seq ?_)
   refine wp_block ?_
   refine wp_seq ?_
   obtain ⟨hg1, hF⟩ := chk_in hF
   obtain ⟨_, ⟨u1, rfl, L1⟩, H⟩ := H.elG 0 rfl (i) (NEEntry.dft _ _)
   replace H := H.addsl L1
   replace H : Hf I D w I1 w1 [SlC NEOp u1 (((gi a0 i).batch).ops), AtG ((0 : Int) ≤ i ∧ i < (ln a0)) (blkOf v1_a0) (oofOf v1_a0 + (i).toNat * 4) (cEEntry (gi a0 i) u1), SlC NEEntry v1_a0 a0, SlC NEEntry v2_b b] := H
   obtain ⟨hg2, hF⟩ := chk_in hF
   obtain ⟨_, ⟨u2, rfl, L2⟩, H⟩ := H.elG 3 rfl (i) (NEEntry.dft _ _)
   replace H := H.addsl L2
   replace H : Hf I D w I1 w1 [SlC NEOp u2 (((gi b i).batch).ops), AtG ((0 : Int) ≤ i ∧ i < (ln b)) (blkOf v2_b) (oofOf v2_b + (i).toNat * 4) (cEEntry (gi b i) u2), SlC NEOp u1 (((gi a0 i).batch).ops), AtG ((0 : Int) ≤ i ∧ i < (ln a0)) (blkOf v1_a0) (oofOf v1_a0 + (i).toNat * 4) (cEEntry (gi a0 i) u1), SlC NEEntry v1_a0 a0, SlC NEEntry v2_b b] := H
   obtain ⟨s0, hx1, hF⟩ := bnd_in hF
   refine f_quietd (by kernel_rfl) (by kernel_rfl) Z fun Z => ?_
   refine q_runk tMs2 Z 2 rfl rfl fun a Z => ?_
   refine qO Z (.pointer (some ⟨blkOf v1_a0, oofOf v1_a0 + (i).toNat * 4, none⟩)) rfl (fun _ hw => Ob_sidx tMs2 rfl rfl rfl rfl (slPl ((H.blw hw).sl 4 rfl) hg1) hg1) fun a Z => ?_
   refine qO Z (.agg (cEEntry (gi a0 i) u1).toArray) rfl (fun _ hw => oA tMs2 rfl rfl (((H.blw hw).atg 3 rfl hg1).part 0 rfl)) fun a Z => ?_
   refine q_runk tMs2 Z 2 rfl rfl fun a Z => ?_
   refine qO Z (.pointer (some ⟨blkOf v2_b, oofOf v2_b + (i).toNat * 4, none⟩)) rfl (fun _ hw => Ob_sidx tMs2 rfl rfl rfl rfl (slPl ((H.blw hw).sl 5 rfl) hg2) hg2) fun a Z => ?_
   refine qO Z (.agg (cEEntry (gi b i) u2).toArray) rfl (fun _ hw => oA tMs2 rfl rfl (((H.blw hw).atg 1 rfl hg2).part 0 rfl)) fun a Z => ?_
   refine q_call Z (caps := #[]) fn_56_YMs2 rfl rfl rfl rfl rfl (by decide) rfl rfl (fun _ hw => (have hq := c_ref08_Same hx1 (((H.blw hw)).pick0 (js := [(2, true), (0, true)]) rfl rfl); plainC hq)) fun a Z => ?_
   refine q_runk tMs2 Z 1 rfl rfl fun a Z => ?_
   refine q_end Z [0, 1, 5, 32] rfl fun w2 hb Z => ?_
   replace H := H.blw hb
   clear hb
   refine p_then ?_
   refine f_cond Z rfl (fun hc3 => ?_) (fun hc3 => ?_)
   ·replace hF := ite_t hc3 hF
    refine wp_seq (f_region Z ?_); clear Z; intro Z
    refine s_runk tMs2 Z 1 rfl rfl fun a Z => ?_
    refine s_end Z [4] rfl fun Z => ?_
    refine p_then (wp_ret ?_)
    refine p_blk_r ?_
    refine p_then_r ?_
    refine p_then_r ?_
    refine p_blk_r ?_
    refine p_then_r ?_
    obtain rfl := some_in hF
    exact f_ret Z (run_results1 rfl Z rfl) ⟨rfl, I1, (H.sub [] rfl).eq rfl⟩
   ·replace hF := ite_f hc3 hF
    refine wp_skip ?_
    refine p_blk ?_
    refine p_then ?_
    obtain ⟨hg3, hF⟩ := chk_in hF
    refine f_region Z fun Z => ?_
    refine s_runk tMs2 Z 1 rfl rfl fun a Z => ?_
    refine sO Z (vI (i + 1)) rfl (Ob_add rfl rfl rfl (wrI hg3)) fun a Z => ?_
    refine s_runk tMs2 Z 1 rfl rfl fun a Z => ?_
    refine s_end Z [0, 1, 5] rfl fun Z => ?_
    refine p_then ?_
    exact ⟨(i + 1), ⟨Z.sub (ts := [0, 1, 5]) rfl, ⟨I1, (H.sub [(4, true), (5, true)] rfl).eq rfl⟩⟩, hF⟩
  ·replace hF := ite_f hc2 hF
   refine wp_exit ?_
   refine p_then_x ?_
   refine p_then_x ?_
   refine f_exit_here ?_
   refine p_then (wp_seq (f_region Z ?_)); clear Z; intro Z
   refine s_runk tMs2 Z 1 rfl rfl fun a Z => ?_
   refine s_end Z [4] rfl fun Z => ?_
   refine p_then (wp_ret ?_)
   obtain rfl := some_in hF
   exact f_ret Z (run_results1 rfl Z rfl) ⟨rfl, I1, (H.sub [] rfl).eq rfl⟩

def F_ref09_sameStamps_l1 (a0 : List Int) (b : List Int) (rc : Int → Option Bool) (sg : Int) : Option Bool := match sg with | i => if ((decide (i < (a0.length : Int))) && (decide (i < (b.length : Int)))) = true then (chk ((0 : Int) ≤ i ∧ i < (a0.length : Int)) (chk ((0 : Int) ≤ i ∧ i < (b.length : Int)) (if ((a0.getD (i).toNat default) != (b.getD (i).toNat default)) = true then (some false) else (chk (inI (i + 1)) (rc (i + 1)))))) else (some true)

def F_ref09_sameStamps (a0 : List Int) (b : List Int) : Option Bool := if ((a0.length : Int) != (b.length : Int)) = true then (some false) else (iter (F_ref09_sameStamps_l1 a0 b) FU 0)

set_option maxHeartbeats 1000000 in
theorem c_ref09_sameStamps {I D : Dm} {a0 : List Int} {v1_a0 : Value} {b : List Int} {v2_b : Value} {w : World} {rr : Bool} (hF : F_ref09_sameStamps a0 b = some rr) (H : St I D w [SlC Nu64 v1_a0 a0, SlC Nu64 v2_b b]) :
  Calls Try.prog 27 #[v1_a0, v2_b] w (Ret fun vv w' => vv = vT rr ∧ ∃ I', Hf I D w I' w' []) := by
 replace H := H.hf
 unfold F_ref09_sameStamps at hF
 refine f_enter 32 Try.func27 rfl rfl (Nat.le_of_ble_eq_true rfl) fun a Z => ?_
 replace Z := Z.sub (ts := [0, 1]) rfl
 refine wp_seq (f_region Z ?_); clear Z; intro Z
 refine s_runk tMs2 Z 1 rfl rfl fun a Z => ?_
 refine s_end Z [0, 1] rfl fun Z => ?_
 refine p_then (wp_seq ?_)
 refine wp_seq (f_region Z ?_); clear Z; intro Z
 refine s_runk tMs2 Z 1 rfl rfl fun a Z => ?_
 refine sO Z (vI (ln a0)) rfl (Ob_slen tMs2 rfl rfl rfl (H.slshape 0 rfl)) fun a Z => ?_
 refine s_runk tMs2 Z 1 rfl rfl fun a Z => ?_
 refine sO Z (vI (ln b)) rfl (Ob_slen tMs2 rfl rfl rfl (H.slshape 1 rfl)) fun a Z => ?_
 refine s_runk tMs2 Z 1 rfl rfl fun a Z => ?_
 refine s_end Z [0, 1, 10] rfl fun Z => ?_
 refine p_then ?_
 refine f_cond Z rfl (fun hc1 => ?_) (fun hc1 => ?_)
 ·replace hF := ite_t hc1 hF
  refine wp_seq (f_region Z ?_); clear Z; intro Z
  refine s_runk tMs2 Z 1 rfl rfl fun a Z => ?_
  refine s_end Z [4] rfl fun Z => ?_
  refine p_then (wp_ret ?_)
  refine p_then_r ?_
  obtain rfl := some_in hF
  exact f_ret Z (run_results1 rfl Z rfl) ⟨rfl, I, (H.sub [] rfl).eq rfl⟩
 ·replace hF := ite_f hc1 hF
  refine wp_skip ?_
  refine p_then (wp_seq ?_)
  refine wp_seq (f_region Z ?_); clear Z; intro Z
  refine s_runk tMs2 Z 1 rfl rfl fun a Z => ?_
  refine s_end Z [0, 1, 5] rfl fun Z => ?_
  refine p_then (wp_block ?_)
  refine f_iter hF (fun sg a' w' => match sg with | i => Sl 32 [(0, v1_a0), (1, v2_b), (5, vI i)] a' ∧ ∃ I2, Hf I D w I2 w' [SlC Nu64 v1_a0 a0, SlC Nu64 v2_b b]) ⟨Z.sub (ts := [0, 1, 5]) rfl, ⟨I, (H.sub [(0, true), (1, true)] rfl).eq rfl⟩⟩ ?_
  rintro rc i a w1 ⟨Z, I1, H⟩ hF
  unfold F_ref09_sameStamps_l1 at hF
  try dsimp only at hF
  refine wp_seq ?_
  refine wp_seq (f_region Z ?_); clear Z; intro Z
  refine s_runk tMs2 Z 2 rfl rfl fun a Z => ?_
  refine sO Z (vI (ln a0)) rfl (Ob_slen tMs2 rfl rfl rfl (H.slshape 0 rfl)) fun a Z => ?_
  refine s_runk tMs2 Z 2 rfl rfl fun a Z => ?_
  refine gO Z (vI i) rfl (wantB_t _) (.n 5 rfl .z) (fun hp => Ob_c tMs2 rfl) fun a Z => ?_
  refine gO Z v2_b rfl (wantB_t _) (.n 1 rfl .z) (fun hp => Ob_c tMs2 rfl) fun a Z => ?_
  refine gO Z (vI (ln b)) rfl (wantB_t _) (.c 17 rfl id .z) (fun hp => Ob_slen tMs2 rfl rfl rfl (H.slshape 1 rfl)) fun a Z => ?_
  refine gO Z (vT (decide (i < (ln b)))) rfl (wantB_t _) (.c 16 rfl id (.c 18 rfl id .z)) (fun hp => Ob_c tMs2 rfl) fun a Z => ?_
  refine sO Z (vT ((decide (i < (ln a0))) && (decide (i < (ln b))))) rfl (Ob_pick rfl rfl rfl rfl (pick_and _ _)) fun a Z => ?_
  refine s_end Z [0, 1, 5, 20] rfl fun Z => ?_
  refine p_then ?_
  refine f_cond Z rfl (fun hc2 => ?_) (fun hc2 => ?_)
  ·replace hF := ite_t hc2 hF
   refine wp_skip ?_
   refine p_then (wp_seq ?_)
   refine wp_block ?_
   refine wp_seq ?_
   obtain ⟨hg1, hF⟩ := chk_in hF
   obtain ⟨hg2, hF⟩ := chk_in hF
   refine f_quietd (by kernel_rfl) (by kernel_rfl) Z fun Z => ?_
   refine q_runk tMs2 Z 2 rfl rfl fun a Z => ?_
   refine qO Z (.pointer (some ⟨blkOf v1_a0, oofOf v1_a0 + (i).toNat * 1, none⟩)) rfl (fun _ hw => Ob_sidx tMs2 rfl rfl rfl rfl (slPl ((H.blw hw).sl 0 rfl) hg1) hg1) fun a Z => ?_
   refine qO Z (vU (gi a0 i)) rfl (fun _ hw => oL tMs2 rfl rfl ((slFl ((H.blw hw).sl 0 rfl) hg1) 0 _ rfl)) fun a Z => ?_
   refine q_runk tMs2 Z 2 rfl rfl fun a Z => ?_
   refine qO Z (.pointer (some ⟨blkOf v2_b, oofOf v2_b + (i).toNat * 1, none⟩)) rfl (fun _ hw => Ob_sidx tMs2 rfl rfl rfl rfl (slPl ((H.blw hw).sl 1 rfl) hg2) hg2) fun a Z => ?_
   refine qO Z (vU (gi b i)) rfl (fun _ hw => oL tMs2 rfl rfl ((slFl ((H.blw hw).sl 1 rfl) hg2) 0 _ rfl)) fun a Z => ?_
   refine q_runk tMs2 Z 1 rfl rfl fun a Z => ?_
   refine q_end Z [0, 1, 5, 31] rfl fun w2 hb Z => ?_
   replace H := H.blw hb
   clear hb
   refine p_then ?_
   refine f_cond Z rfl (fun hc3 => ?_) (fun hc3 => ?_)
   ·replace hF := ite_t hc3 hF
    refine wp_seq (f_region Z ?_); clear Z; intro Z
    refine s_runk tMs2 Z 1 rfl rfl fun a Z => ?_
    refine s_end Z [4] rfl fun Z => ?_
    refine p_then (wp_ret ?_)
    refine p_blk_r ?_
    refine p_then_r ?_
    refine p_then_r ?_
    refine p_blk_r ?_
    refine p_then_r ?_
    obtain rfl := some_in hF
    exact f_ret Z (run_results1 rfl Z rfl) ⟨rfl, I1, (H.sub [] rfl).eq rfl⟩
   ·replace hF := ite_f hc3 hF
    refine wp_skip ?_
    refine p_blk ?_
    refine p_then ?_
    obtain ⟨hg3, hF⟩ := chk_in hF
    refine f_region Z fun Z => ?_
    refine s_runk tMs2 Z 1 rfl rfl fun a Z => ?_
    refine sO Z (vI (i + 1)) rfl (Ob_add rfl rfl rfl (wrI hg3)) fun a Z => ?_
    refine s_runk tMs2 Z 1 rfl rfl fun a Z => ?_
    refine s_end Z [0, 1, 5] rfl fun Z => ?_
    refine p_then ?_
    exact ⟨(i + 1), ⟨Z.sub (ts := [0, 1, 5]) rfl, ⟨I1, (H.sub [(0, true), (1, true)] rfl).eq rfl⟩⟩, hF⟩
  ·replace hF := ite_f hc2 hF
   refine wp_exit ?_
   refine p_then_x ?_
   refine p_then_x ?_
   refine f_exit_here ?_
   refine p_then (wp_seq (f_region Z ?_)); clear Z; intro Z
   refine s_runk tMs2 Z 1 rfl rfl fun a Z => ?_
   refine s_end Z [4] rfl fun Z => ?_
   refine p_then (wp_ret ?_)
   obtain rfl := some_in hF
   exact f_ret Z (run_results1 rfl Z rfl) ⟨rfl, I1, (H.sub [] rfl).eq rfl⟩

def F_ref06_SamePairs_l1 (a0 : List EPair) (b : List EPair) (rc : Int → Option Bool) (sg : Int) : Option Bool := match sg with | i => if ((decide (i < (a0.length : Int))) && (decide (i < (b.length : Int)))) = true then (chk ((0 : Int) ≤ i ∧ i < (a0.length : Int)) (chk ((0 : Int) ≤ i ∧ i < (b.length : Int)) (if (!eqEPair (a0.getD (i).toNat default) (b.getD (i).toNat default)) = true then (some false) else (chk (inI (i + 1)) (rc (i + 1)))))) else (some true)

def F_ref06_SamePairs (a0 : List EPair) (b : List EPair) : Option Bool := if ((a0.length : Int) != (b.length : Int)) = true then (some false) else (iter (F_ref06_SamePairs_l1 a0 b) FU 0)

set_option maxHeartbeats 1000000 in
theorem c_ref06_SamePairs {I D : Dm} {a0 : List EPair} {v1_a0 : Value} {b : List EPair} {v2_b : Value} {w : World} {rr : Bool} (hF : F_ref06_SamePairs a0 b = some rr) (H : St I D w [SlC NEPair v1_a0 a0, SlC NEPair v2_b b]) :
  Calls Try.prog 28 #[v1_a0, v2_b] w (Ret fun vv w' => vv = vT rr ∧ ∃ I', Hf I D w I' w' []) := by
 replace H := H.hf
 unfold F_ref06_SamePairs at hF
 refine f_enter 32 Try.func28 rfl rfl (Nat.le_of_ble_eq_true rfl) fun a Z => ?_
 replace Z := Z.sub (ts := [0, 1]) rfl
 refine wp_seq (f_region Z ?_); clear Z; intro Z
 refine s_runk tMs2 Z 1 rfl rfl fun a Z => ?_
 refine s_end Z [0, 1] rfl fun Z => ?_
 refine p_then (wp_seq ?_)
 refine wp_seq (f_region Z ?_); clear Z; intro Z
 refine s_runk tMs2 Z 1 rfl rfl fun a Z => ?_
 refine sO Z (vI (ln a0)) rfl (Ob_slen tMs2 rfl rfl rfl (H.slshape 0 rfl)) fun a Z => ?_
 refine s_runk tMs2 Z 1 rfl rfl fun a Z => ?_
 refine sO Z (vI (ln b)) rfl (Ob_slen tMs2 rfl rfl rfl (H.slshape 1 rfl)) fun a Z => ?_
 refine s_runk tMs2 Z 1 rfl rfl fun a Z => ?_
 refine s_end Z [0, 1, 10] rfl fun Z => ?_
 refine p_then ?_
 refine f_cond Z rfl (fun hc1 => ?_) (fun hc1 => ?_)
 ·replace hF := ite_t hc1 hF
  refine wp_seq (f_region Z ?_); clear Z; intro Z
  refine s_runk tMs2 Z 1 rfl rfl fun a Z => ?_
  refine s_end Z [4] rfl fun Z => ?_
  refine p_then (wp_ret ?_)
  refine p_then_r ?_
  obtain rfl := some_in hF
  exact f_ret Z (run_results1 rfl Z rfl) ⟨rfl, I, (H.sub [] rfl).eq rfl⟩
 ·replace hF := ite_f hc1 hF
  refine wp_skip ?_
  refine p_then (wp_seq ?_)
  refine wp_seq (f_region Z ?_); clear Z; intro Z
  refine s_runk tMs2 Z 1 rfl rfl fun a Z => ?_
  refine s_end Z [0, 1, 5] rfl fun Z => ?_
  refine p_then (wp_block ?_)
  refine f_iter hF (fun sg a' w' => match sg with | i => Sl 32 [(0, v1_a0), (1, v2_b), (5, vI i)] a' ∧ ∃ I2, Hf I D w I2 w' [SlC NEPair v1_a0 a0, SlC NEPair v2_b b]) ⟨Z.sub (ts := [0, 1, 5]) rfl, ⟨I, (H.sub [(0, true), (1, true)] rfl).eq rfl⟩⟩ ?_
  rintro rc i a w1 ⟨Z, I1, H⟩ hF
  unfold F_ref06_SamePairs_l1 at hF
  try dsimp only at hF
  refine wp_seq ?_
  refine wp_seq (f_region Z ?_); clear Z; intro Z
  refine s_runk tMs2 Z 2 rfl rfl fun a Z => ?_
  refine sO Z (vI (ln a0)) rfl (Ob_slen tMs2 rfl rfl rfl (H.slshape 0 rfl)) fun a Z => ?_
  refine s_runk tMs2 Z 2 rfl rfl fun a Z => ?_
  refine gO Z (vI i) rfl (wantB_t _) (.n 5 rfl .z) (fun hp => Ob_c tMs2 rfl) fun a Z => ?_
  refine gO Z v2_b rfl (wantB_t _) (.n 1 rfl .z) (fun hp => Ob_c tMs2 rfl) fun a Z => ?_
  refine gO Z (vI (ln b)) rfl (wantB_t _) (.c 17 rfl id .z) (fun hp => Ob_slen tMs2 rfl rfl rfl (H.slshape 1 rfl)) fun a Z => ?_
  refine gO Z (vT (decide (i < (ln b)))) rfl (wantB_t _) (.c 16 rfl id (.c 18 rfl id .z)) (fun hp => Ob_c tMs2 rfl) fun a Z => ?_
  refine sO Z (vT ((decide (i < (ln a0))) && (decide (i < (ln b))))) rfl (Ob_pick rfl rfl rfl rfl (pick_and _ _)) fun a Z => ?_
  refine s_end Z [0, 1, 5, 20] rfl fun Z => ?_
  refine p_then ?_
  refine f_cond Z rfl (fun hc2 => ?_) (fun hc2 => ?_)
  ·replace hF := ite_t hc2 hF
   refine wp_skip ?_
   refine p_then (wp_seq ?_)
   refine wp_block ?_
   refine wp_seq ?_
   obtain ⟨hg1, hF⟩ := chk_in hF
   obtain ⟨hg2, hF⟩ := chk_in hF
   refine f_quietd (by kernel_rfl) (by kernel_rfl) Z fun Z => ?_
   refine q_runk tMs2 Z 2 rfl rfl fun a Z => ?_
   refine qO Z (.pointer (some ⟨blkOf v1_a0, oofOf v1_a0 + (i).toNat * 2, none⟩)) rfl (fun _ hw => Ob_sidx tMs2 rfl rfl rfl rfl (slPl ((H.blw hw).sl 0 rfl) hg1) hg1) fun a Z => ?_
   refine qO Z (.agg #[vS ((gi a0 i).key), vS ((gi a0 i).val)]) rfl (fun _ hw => oA tMs2 rfl rfl ((slFl ((H.blw hw).sl 0 rfl) hg1).part 0 rfl)) fun a Z => ?_
   refine q_runk tMs2 Z 2 rfl rfl fun a Z => ?_
   refine qO Z (.pointer (some ⟨blkOf v2_b, oofOf v2_b + (i).toNat * 2, none⟩)) rfl (fun _ hw => Ob_sidx tMs2 rfl rfl rfl rfl (slPl ((H.blw hw).sl 1 rfl) hg2) hg2) fun a Z => ?_
   refine qO Z (.agg #[vS ((gi b i).key), vS ((gi b i).val)]) rfl (fun _ hw => oA tMs2 rfl rfl ((slFl ((H.blw hw).sl 1 rfl) hg2).part 0 rfl)) fun a Z => ?_
   refine qO Z (vT (!eqEPair (gi a0 i) (gi b i))) rfl (fun _ hw => Ob_bin rfl rfl rfl (eqg_EPair _ _ _ _ _ _) (neq_EPair (gi a0 i) (gi b i) _)) fun a Z => ?_
   refine q_end Z [0, 1, 5, 31] rfl fun w2 hb Z => ?_
   replace H := H.blw hb
   clear hb
   refine p_then ?_
   refine f_cond Z rfl (fun hc3 => ?_) (fun hc3 => ?_)
   ·replace hF := ite_t hc3 hF
    refine wp_seq (f_region Z ?_); clear Z; intro Z
    refine s_runk tMs2 Z 1 rfl rfl fun a Z => ?_
    refine s_end Z [4] rfl fun Z => ?_
    refine p_then (wp_ret ?_)
    refine p_blk_r ?_
    refine p_then_r ?_
    refine p_then_r ?_
    refine p_blk_r ?_
    refine p_then_r ?_
    obtain rfl := some_in hF
    exact f_ret Z (run_results1 rfl Z rfl) ⟨rfl, I1, (H.sub [] rfl).eq rfl⟩
   ·replace hF := ite_f hc3 hF
    refine wp_skip ?_
    refine p_blk ?_
    refine p_then ?_
    obtain ⟨hg3, hF⟩ := chk_in hF
    refine f_region Z fun Z => ?_
    refine s_runk tMs2 Z 1 rfl rfl fun a Z => ?_
    refine sO Z (vI (i + 1)) rfl (Ob_add rfl rfl rfl (wrI hg3)) fun a Z => ?_
    refine s_runk tMs2 Z 1 rfl rfl fun a Z => ?_
    refine s_end Z [0, 1, 5] rfl fun Z => ?_
    refine p_then ?_
    exact ⟨(i + 1), ⟨Z.sub (ts := [0, 1, 5]) rfl, ⟨I1, (H.sub [(0, true), (1, true)] rfl).eq rfl⟩⟩, hF⟩
  ·replace hF := ite_f hc2 hF
   refine wp_exit ?_
   refine p_then_x ?_
   refine p_then_x ?_
   refine f_exit_here ?_
   refine p_then (wp_seq (f_region Z ?_)); clear Z; intro Z
   refine s_runk tMs2 Z 1 rfl rfl fun a Z => ?_
   refine s_end Z [4] rfl fun Z => ?_
   refine p_then (wp_ret ?_)
   obtain rfl := some_in hF
   exact f_ret Z (run_results1 rfl Z rfl) ⟨rfl, I1, (H.sub [] rfl).eq rfl⟩

def F_ref09_Same (a0 : EMsg) (b : EMsg) : Option Bool := (gif (((((((((((((a0.k == b.k) && (a0.epoch == b.epoch)) && (a0.req == b.req)) && (a0.serial == b.serial)) && (a0.flag == b.flag)) && (a0.at_ == b.at_)) && (a0.last == b.last)) && (a0.n == b.n)) && (a0.m == b.m)) && (a0.p == b.p)) && (a0.e == b.e)) && (seqB a0.key b.key)) && (seqB a0.to_ b.to_)) (F_ref07_Same a0.conf b.conf) default).bind fun s0 => ((gif ((((((((((((((a0.k == b.k) && (a0.epoch == b.epoch)) && (a0.req == b.req)) && (a0.serial == b.serial)) && (a0.flag == b.flag)) && (a0.at_ == b.at_)) && (a0.last == b.last)) && (a0.n == b.n)) && (a0.m == b.m)) && (a0.p == b.p)) && (a0.e == b.e)) && (seqB a0.key b.key)) && (seqB a0.to_ b.to_)) && s0) (F_ref06_Same a0.batch b.batch) default).bind fun s0_2 => ((gif (((((((((((((((a0.k == b.k) && (a0.epoch == b.epoch)) && (a0.req == b.req)) && (a0.serial == b.serial)) && (a0.flag == b.flag)) && (a0.at_ == b.at_)) && (a0.last == b.last)) && (a0.n == b.n)) && (a0.m == b.m)) && (a0.p == b.p)) && (a0.e == b.e)) && (seqB a0.key b.key)) && (seqB a0.to_ b.to_)) && s0) && s0_2) (F_ref08_SameAll a0.entries b.entries) default).bind fun s0_3 => ((gif ((((((((((((((((a0.k == b.k) && (a0.epoch == b.epoch)) && (a0.req == b.req)) && (a0.serial == b.serial)) && (a0.flag == b.flag)) && (a0.at_ == b.at_)) && (a0.last == b.last)) && (a0.n == b.n)) && (a0.m == b.m)) && (a0.p == b.p)) && (a0.e == b.e)) && (seqB a0.key b.key)) && (seqB a0.to_ b.to_)) && s0) && s0_2) && s0_3) (F_ref09_sameStamps a0.stamps b.stamps) default).bind fun s0_4 => ((gif (((((((((((((((((a0.k == b.k) && (a0.epoch == b.epoch)) && (a0.req == b.req)) && (a0.serial == b.serial)) && (a0.flag == b.flag)) && (a0.at_ == b.at_)) && (a0.last == b.last)) && (a0.n == b.n)) && (a0.m == b.m)) && (a0.p == b.p)) && (a0.e == b.e)) && (seqB a0.key b.key)) && (seqB a0.to_ b.to_)) && s0) && s0_2) && s0_3) && s0_4) (F_ref06_SamePairs a0.pairs b.pairs) default).bind fun s0_5 => (some ((((((((((((((((((a0.k == b.k) && (a0.epoch == b.epoch)) && (a0.req == b.req)) && (a0.serial == b.serial)) && (a0.flag == b.flag)) && (a0.at_ == b.at_)) && (a0.last == b.last)) && (a0.n == b.n)) && (a0.m == b.m)) && (a0.p == b.p)) && (a0.e == b.e)) && (seqB a0.key b.key)) && (seqB a0.to_ b.to_)) && s0) && s0_2) && s0_3) && s0_4) && s0_5))))))

set_option maxRecDepth 5000 in
set_option maxHeartbeats 1000000 in
theorem c_ref09_Same {I D : Dm} {a0 : EMsg} {v1_a0 : Value} {v2_a0 : Value} {v3_a0 : Value} {v4_a0 : Value} {v5_a0 : Value} {b : EMsg} {v6_b : Value} {v7_b : Value} {v8_b : Value} {v9_b : Value} {v10_b : Value} {w : World} {rr : Bool} (hF : F_ref09_Same a0 b = some rr) (H : St I D w [SlC NEMember v1_a0 a0.conf.members, SlC NEOp v2_a0 a0.batch.ops, SlC NEEntry v3_a0 a0.entries, SlC Nu64 v4_a0 a0.stamps, SlC NEPair v5_a0 a0.pairs, SlC NEMember v6_b b.conf.members, SlC NEOp v7_b b.batch.ops, SlC NEEntry v8_b b.entries, SlC Nu64 v9_b b.stamps, SlC NEPair v10_b b.pairs]) :
  Calls Try.prog 8 #[.agg (cEMsg a0 v1_a0 v2_a0 v3_a0 v4_a0 v5_a0).toArray, .agg (cEMsg b v6_b v7_b v8_b v9_b v10_b).toArray] w (Ret fun vv w' => vv = vT rr ∧ ∃ I', Hf I D w I' w' []) := by
 replace H := H.hf
 unfold F_ref09_Same at hF
 refine f_enter 129 Try.func8 rfl rfl (Nat.le_of_ble_eq_true rfl) fun a Z => ?_
 replace Z := Z.sub (ts := [0, 1]) rfl
 refine wp_seq (f_region Z ?_); clear Z; intro Z
 refine h_boxv Z H (cl := (cEMsg a0 v1_a0 v2_a0 v3_a0 v4_a0 v5_a0)) rfl rfl rfl (by decide) rfl rfl rfl fun a w1 b1 H Z => ?_
 refine h_boxv Z H (cl := (cEMsg b v6_b v7_b v8_b v9_b v10_b)) rfl rfl rfl (by decide) rfl rfl rfl fun a w2 b2 H Z => ?_
 refine s_runk tMs2 Z 1 rfl rfl fun a Z => ?_
 refine s_end Z [2, 3] rfl fun Z => ?_
 refine p_then (wp_seq ?_)
 obtain ⟨s0, hx1, hF⟩ := bnd_in hF
 obtain ⟨s0_2, hx2, hF⟩ := bnd_in hF
 obtain ⟨s0_3, hx3, hF⟩ := bnd_in hF
 obtain ⟨s0_4, hx4, hF⟩ := bnd_in hF
 obtain ⟨s0_5, hx5, hF⟩ := bnd_in hF
 refine f_region Z fun Z => ?_
 refine s_runk tMs2 Z 1 rfl rfl fun a Z => ?_
 refine sO Z _ rfl (oL tMs2 rfl rfl (H.bc 1 0 rfl rfl)) fun a Z => ?_
 refine s_runk tMs2 Z 1 rfl rfl fun a Z => ?_
 refine sO Z _ rfl (oL tMs2 rfl rfl (H.bc 0 0 rfl rfl)) fun a Z => ?_
 refine s_runk tMs2 Z 2 rfl rfl fun a Z => ?_
 refine gO Z (pp b1 1) rfl (wantB_t _) (.n 2 rfl .z) (fun hp => Ob_c tMs2 rfl) fun a Z => ?_
 refine gO Z _ rfl (wantB_t _) (.c 11 rfl id .z) (fun hp => oL tMs2 rfl rfl (H.bc 1 1 rfl rfl)) fun a Z => ?_
 refine gO Z (pp b2 1) rfl (wantB_t _) (.n 3 rfl .z) (fun hp => Ob_c tMs2 rfl) fun a Z => ?_
 refine gO Z _ rfl (wantB_t _) (.c 13 rfl id .z) (fun hp => oL tMs2 rfl rfl (H.bc 0 1 rfl rfl)) fun a Z => ?_
 refine gO Z (vT (a0.epoch == b.epoch)) rfl (wantB_t _) (.c 12 rfl id (.c 14 rfl id .z)) (fun hp => Ob_c tMs2 rfl) fun a Z => ?_
 refine sO Z (vT ((a0.k == b.k) && (a0.epoch == b.epoch))) rfl (Ob_pick rfl rfl rfl rfl (pick_and _ _)) fun a Z => ?_
 refine s_runk tMs2 Z 1 rfl rfl fun a Z => ?_
 refine gO Z (pp b1 2) rfl (wantB_t _) (.n 2 rfl .z) (fun hp => Ob_c tMs2 rfl) fun a Z => ?_
 refine gO Z _ rfl (wantB_t _) (.c 18 rfl id .z) (fun hp => oL tMs2 rfl rfl (H.bc 1 2 rfl rfl)) fun a Z => ?_
 refine gO Z (pp b2 2) rfl (wantB_t _) (.n 3 rfl .z) (fun hp => Ob_c tMs2 rfl) fun a Z => ?_
 refine gO Z _ rfl (wantB_t _) (.c 20 rfl id .z) (fun hp => oL tMs2 rfl rfl (H.bc 0 2 rfl rfl)) fun a Z => ?_
 refine gO Z (vT (a0.req == b.req)) rfl (wantB_t _) (.c 19 rfl id (.c 21 rfl id .z)) (fun hp => Ob_c tMs2 rfl) fun a Z => ?_
 refine sO Z (vT (((a0.k == b.k) && (a0.epoch == b.epoch)) && (a0.req == b.req))) rfl (Ob_pick rfl rfl rfl rfl (pick_and _ _)) fun a Z => ?_
 refine s_runk tMs2 Z 1 rfl rfl fun a Z => ?_
 refine gO Z (pp b1 3) rfl (wantB_t _) (.n 2 rfl .z) (fun hp => Ob_c tMs2 rfl) fun a Z => ?_
 refine gO Z _ rfl (wantB_t _) (.c 25 rfl id .z) (fun hp => oL tMs2 rfl rfl (H.bc 1 3 rfl rfl)) fun a Z => ?_
 refine gO Z (pp b2 3) rfl (wantB_t _) (.n 3 rfl .z) (fun hp => Ob_c tMs2 rfl) fun a Z => ?_
 refine gO Z _ rfl (wantB_t _) (.c 27 rfl id .z) (fun hp => oL tMs2 rfl rfl (H.bc 0 3 rfl rfl)) fun a Z => ?_
 refine gO Z (vT (a0.serial == b.serial)) rfl (wantB_t _) (.c 26 rfl id (.c 28 rfl id .z)) (fun hp => Ob_c tMs2 rfl) fun a Z => ?_
 refine sO Z (vT ((((a0.k == b.k) && (a0.epoch == b.epoch)) && (a0.req == b.req)) && (a0.serial == b.serial))) rfl (Ob_pick rfl rfl rfl rfl (pick_and _ _)) fun a Z => ?_
 refine s_runk tMs2 Z 1 rfl rfl fun a Z => ?_
 refine gO Z (pp b1 4) rfl (wantB_t _) (.n 2 rfl .z) (fun hp => Ob_c tMs2 rfl) fun a Z => ?_
 refine gO Z _ rfl (wantB_t _) (.c 32 rfl id .z) (fun hp => oL tMs2 rfl rfl (H.bc 1 4 rfl rfl)) fun a Z => ?_
 refine gO Z (pp b2 4) rfl (wantB_t _) (.n 3 rfl .z) (fun hp => Ob_c tMs2 rfl) fun a Z => ?_
 refine gO Z _ rfl (wantB_t _) (.c 34 rfl id .z) (fun hp => oL tMs2 rfl rfl (H.bc 0 4 rfl rfl)) fun a Z => ?_
 refine gO Z (vT (a0.flag == b.flag)) rfl (wantB_t _) (.c 33 rfl id (.c 35 rfl id .z)) (fun hp => Ob_c tMs2 rfl) fun a Z => ?_
 refine sO Z (vT (((((a0.k == b.k) && (a0.epoch == b.epoch)) && (a0.req == b.req)) && (a0.serial == b.serial)) && (a0.flag == b.flag))) rfl (Ob_pick rfl rfl rfl rfl (pick_and _ _)) fun a Z => ?_
 refine s_runk tMs2 Z 1 rfl rfl fun a Z => ?_
 refine gO Z (pp b1 5) rfl (wantB_t _) (.n 2 rfl .z) (fun hp => Ob_c tMs2 rfl) fun a Z => ?_
 refine gO Z _ rfl (wantB_t _) (.c 39 rfl id .z) (fun hp => oL tMs2 rfl rfl (H.bc 1 5 rfl rfl)) fun a Z => ?_
 refine gO Z (pp b2 5) rfl (wantB_t _) (.n 3 rfl .z) (fun hp => Ob_c tMs2 rfl) fun a Z => ?_
 refine gO Z _ rfl (wantB_t _) (.c 41 rfl id .z) (fun hp => oL tMs2 rfl rfl (H.bc 0 5 rfl rfl)) fun a Z => ?_
 refine gO Z (vT (a0.at_ == b.at_)) rfl (wantB_t _) (.c 40 rfl id (.c 42 rfl id .z)) (fun hp => Ob_c tMs2 rfl) fun a Z => ?_
 refine sO Z (vT ((((((a0.k == b.k) && (a0.epoch == b.epoch)) && (a0.req == b.req)) && (a0.serial == b.serial)) && (a0.flag == b.flag)) && (a0.at_ == b.at_))) rfl (Ob_pick rfl rfl rfl rfl (pick_and _ _)) fun a Z => ?_
 refine s_runk tMs2 Z 1 rfl rfl fun a Z => ?_
 refine gO Z (pp b1 6) rfl (wantB_t _) (.n 2 rfl .z) (fun hp => Ob_c tMs2 rfl) fun a Z => ?_
 refine gO Z _ rfl (wantB_t _) (.c 46 rfl id .z) (fun hp => oL tMs2 rfl rfl (H.bc 1 6 rfl rfl)) fun a Z => ?_
 refine gO Z (pp b2 6) rfl (wantB_t _) (.n 3 rfl .z) (fun hp => Ob_c tMs2 rfl) fun a Z => ?_
 refine gO Z _ rfl (wantB_t _) (.c 48 rfl id .z) (fun hp => oL tMs2 rfl rfl (H.bc 0 6 rfl rfl)) fun a Z => ?_
 refine gO Z (vT (a0.last == b.last)) rfl (wantB_t _) (.c 47 rfl id (.c 49 rfl id .z)) (fun hp => Ob_c tMs2 rfl) fun a Z => ?_
 refine sO Z (vT (((((((a0.k == b.k) && (a0.epoch == b.epoch)) && (a0.req == b.req)) && (a0.serial == b.serial)) && (a0.flag == b.flag)) && (a0.at_ == b.at_)) && (a0.last == b.last))) rfl (Ob_pick rfl rfl rfl rfl (pick_and _ _)) fun a Z => ?_
 refine s_runk tMs2 Z 1 rfl rfl fun a Z => ?_
 refine gO Z (pp b1 7) rfl (wantB_t _) (.n 2 rfl .z) (fun hp => Ob_c tMs2 rfl) fun a Z => ?_
 refine gO Z _ rfl (wantB_t _) (.c 53 rfl id .z) (fun hp => oL tMs2 rfl rfl (H.bc 1 7 rfl rfl)) fun a Z => ?_
 refine gO Z (pp b2 7) rfl (wantB_t _) (.n 3 rfl .z) (fun hp => Ob_c tMs2 rfl) fun a Z => ?_
 refine gO Z _ rfl (wantB_t _) (.c 55 rfl id .z) (fun hp => oL tMs2 rfl rfl (H.bc 0 7 rfl rfl)) fun a Z => ?_
 refine gO Z (vT (a0.n == b.n)) rfl (wantB_t _) (.c 54 rfl id (.c 56 rfl id .z)) (fun hp => Ob_c tMs2 rfl) fun a Z => ?_
 refine sO Z (vT ((((((((a0.k == b.k) && (a0.epoch == b.epoch)) && (a0.req == b.req)) && (a0.serial == b.serial)) && (a0.flag == b.flag)) && (a0.at_ == b.at_)) && (a0.last == b.last)) && (a0.n == b.n))) rfl (Ob_pick rfl rfl rfl rfl (pick_and _ _)) fun a Z => ?_
 refine s_runk tMs2 Z 1 rfl rfl fun a Z => ?_
 refine gO Z (pp b1 8) rfl (wantB_t _) (.n 2 rfl .z) (fun hp => Ob_c tMs2 rfl) fun a Z => ?_
 refine gO Z _ rfl (wantB_t _) (.c 60 rfl id .z) (fun hp => oL tMs2 rfl rfl (H.bc 1 8 rfl rfl)) fun a Z => ?_
 refine gO Z (pp b2 8) rfl (wantB_t _) (.n 3 rfl .z) (fun hp => Ob_c tMs2 rfl) fun a Z => ?_
 refine gO Z _ rfl (wantB_t _) (.c 62 rfl id .z) (fun hp => oL tMs2 rfl rfl (H.bc 0 8 rfl rfl)) fun a Z => ?_
 refine gO Z (vT (a0.m == b.m)) rfl (wantB_t _) (.c 61 rfl id (.c 63 rfl id .z)) (fun hp => Ob_c tMs2 rfl) fun a Z => ?_
 refine sO Z (vT (((((((((a0.k == b.k) && (a0.epoch == b.epoch)) && (a0.req == b.req)) && (a0.serial == b.serial)) && (a0.flag == b.flag)) && (a0.at_ == b.at_)) && (a0.last == b.last)) && (a0.n == b.n)) && (a0.m == b.m))) rfl (Ob_pick rfl rfl rfl rfl (pick_and _ _)) fun a Z => ?_
 refine s_runk tMs2 Z 1 rfl rfl fun a Z => ?_
 refine gO Z (pp b1 9) rfl (wantB_t _) (.n 2 rfl .z) (fun hp => Ob_c tMs2 rfl) fun a Z => ?_
 refine gO Z _ rfl (wantB_t _) (.c 67 rfl id .z) (fun hp => oL tMs2 rfl rfl (H.bc 1 9 rfl rfl)) fun a Z => ?_
 refine gO Z (pp b2 9) rfl (wantB_t _) (.n 3 rfl .z) (fun hp => Ob_c tMs2 rfl) fun a Z => ?_
 refine gO Z _ rfl (wantB_t _) (.c 69 rfl id .z) (fun hp => oL tMs2 rfl rfl (H.bc 0 9 rfl rfl)) fun a Z => ?_
 refine gO Z (vT (a0.p == b.p)) rfl (wantB_t _) (.c 68 rfl id (.c 70 rfl id .z)) (fun hp => Ob_c tMs2 rfl) fun a Z => ?_
 refine sO Z (vT ((((((((((a0.k == b.k) && (a0.epoch == b.epoch)) && (a0.req == b.req)) && (a0.serial == b.serial)) && (a0.flag == b.flag)) && (a0.at_ == b.at_)) && (a0.last == b.last)) && (a0.n == b.n)) && (a0.m == b.m)) && (a0.p == b.p))) rfl (Ob_pick rfl rfl rfl rfl (pick_and _ _)) fun a Z => ?_
 refine s_runk tMs2 Z 1 rfl rfl fun a Z => ?_
 refine gO Z (pp b1 10) rfl (wantB_t _) (.n 2 rfl .z) (fun hp => Ob_c tMs2 rfl) fun a Z => ?_
 refine gO Z _ rfl (wantB_t _) (.c 74 rfl id .z) (fun hp => oL tMs2 rfl rfl (H.bc 1 10 rfl rfl)) fun a Z => ?_
 refine gO Z (pp b2 10) rfl (wantB_t _) (.n 3 rfl .z) (fun hp => Ob_c tMs2 rfl) fun a Z => ?_
 refine gO Z _ rfl (wantB_t _) (.c 76 rfl id .z) (fun hp => oL tMs2 rfl rfl (H.bc 0 10 rfl rfl)) fun a Z => ?_
 refine gO Z (vT (a0.e == b.e)) rfl (wantB_t _) (.c 75 rfl id (.c 77 rfl id .z)) (fun hp => Ob_c tMs2 rfl) fun a Z => ?_
 refine sO Z (vT (((((((((((a0.k == b.k) && (a0.epoch == b.epoch)) && (a0.req == b.req)) && (a0.serial == b.serial)) && (a0.flag == b.flag)) && (a0.at_ == b.at_)) && (a0.last == b.last)) && (a0.n == b.n)) && (a0.m == b.m)) && (a0.p == b.p)) && (a0.e == b.e))) rfl (Ob_pick rfl rfl rfl rfl (pick_and _ _)) fun a Z => ?_
 refine s_runk tMs2 Z 1 rfl rfl fun a Z => ?_
 refine gO Z (pp b1 11) rfl (wantB_t _) (.n 2 rfl .z) (fun hp => Ob_c tMs2 rfl) fun a Z => ?_
 refine gO Z _ rfl (wantB_t _) (.c 81 rfl id .z) (fun hp => oL tMs2 rfl rfl (H.bc 1 11 rfl rfl)) fun a Z => ?_
 refine gO Z (pp b2 11) rfl (wantB_t _) (.n 3 rfl .z) (fun hp => Ob_c tMs2 rfl) fun a Z => ?_
 refine gO Z _ rfl (wantB_t _) (.c 83 rfl id .z) (fun hp => oL tMs2 rfl rfl (H.bc 0 11 rfl rfl)) fun a Z => ?_
 refine gO Z (vT (seqB a0.key b.key)) rfl (wantB_t _) (.c 82 rfl id (.c 84 rfl id .z)) (fun hp => Ob_c tMs2 rfl) fun a Z => ?_
 refine sO Z (vT ((((((((((((a0.k == b.k) && (a0.epoch == b.epoch)) && (a0.req == b.req)) && (a0.serial == b.serial)) && (a0.flag == b.flag)) && (a0.at_ == b.at_)) && (a0.last == b.last)) && (a0.n == b.n)) && (a0.m == b.m)) && (a0.p == b.p)) && (a0.e == b.e)) && (seqB a0.key b.key))) rfl (Ob_pick rfl rfl rfl rfl (pick_and _ _)) fun a Z => ?_
 refine s_runk tMs2 Z 1 rfl rfl fun a Z => ?_
 refine gO Z (pp b1 12) rfl (wantB_t _) (.n 2 rfl .z) (fun hp => Ob_c tMs2 rfl) fun a Z => ?_
 refine gO Z _ rfl (wantB_t _) (.c 88 rfl id .z) (fun hp => oL tMs2 rfl rfl (H.bc 1 12 rfl rfl)) fun a Z => ?_
 refine gO Z (pp b2 12) rfl (wantB_t _) (.n 3 rfl .z) (fun hp => Ob_c tMs2 rfl) fun a Z => ?_
 refine gO Z _ rfl (wantB_t _) (.c 90 rfl id .z) (fun hp => oL tMs2 rfl rfl (H.bc 0 12 rfl rfl)) fun a Z => ?_
 refine gO Z (vT (seqB a0.to_ b.to_)) rfl (wantB_t _) (.c 89 rfl id (.c 91 rfl id .z)) (fun hp => Ob_c tMs2 rfl) fun a Z => ?_
 refine sO Z (vT (((((((((((((a0.k == b.k) && (a0.epoch == b.epoch)) && (a0.req == b.req)) && (a0.serial == b.serial)) && (a0.flag == b.flag)) && (a0.at_ == b.at_)) && (a0.last == b.last)) && (a0.n == b.n)) && (a0.m == b.m)) && (a0.p == b.p)) && (a0.e == b.e)) && (seqB a0.key b.key)) && (seqB a0.to_ b.to_))) rfl (Ob_pick rfl rfl rfl rfl (pick_and _ _)) fun a Z => ?_
 refine s_runk tMs2 Z 1 rfl rfl fun a Z => ?_
 refine gO Z (pp b1 13) rfl (wantB_t _) (.n 2 rfl .z) (fun hp => Ob_c tMs2 rfl) fun a Z => ?_
 refine gO Z (.agg #[vI a0.conf.epoch, v1_a0, vU a0.conf.floor]) rfl (wantB_t _) (.c 95 rfl id .z) (fun hp => oA tMs2 rfl rfl ((H.bx 1 rfl).part 13 rfl)) fun a Z => ?_
 refine gO Z (pp b2 13) rfl (wantB_t _) (.n 3 rfl .z) (fun hp => Ob_c tMs2 rfl) fun a Z => ?_
 refine gO Z (.agg #[vI b.conf.epoch, v6_b, vU b.conf.floor]) rfl (wantB_t _) (.c 97 rfl id .z) (fun hp => oA tMs2 rfl rfl ((H.bx 0 rfl).part 13 rfl)) fun a Z => ?_
 refine g_call Z (p := (((((((((((((a0.k == b.k) && (a0.epoch == b.epoch)) && (a0.req == b.req)) && (a0.serial == b.serial)) && (a0.flag == b.flag)) && (a0.at_ == b.at_)) && (a0.last == b.last)) && (a0.n == b.n)) && (a0.m == b.m)) && (a0.p == b.p)) && (a0.e == b.e)) && (seqB a0.key b.key)) && (seqB a0.to_ b.to_))) (v := vT s0) (S' := [(96, .agg #[vI a0.conf.epoch, v1_a0, vU a0.conf.floor]), (98, .agg #[vI b.conf.epoch, v6_b, vU b.conf.floor])]) (caps := #[]) fn_24_YMs2 rfl rfl rfl (wantB_t _) rfl (by decide) (fun hp hS => ((hS.conv (t := 96) rfl (cond_t hp)).conv (t := 98) rfl (cond_t hp)).sub (ts := [96, 98]) rfl) rfl rfl rfl rfl (fun hp => (have hq := c_ref07_Same (gif_in hx1 hp) ((H).pick0 (js := [(2, true), (7, true)]) rfl rfl); plainC hq)) fun a w3 hb Z => ?_
 replace H := H.blw hb
 clear hb
 refine sO Z (vT ((((((((((((((a0.k == b.k) && (a0.epoch == b.epoch)) && (a0.req == b.req)) && (a0.serial == b.serial)) && (a0.flag == b.flag)) && (a0.at_ == b.at_)) && (a0.last == b.last)) && (a0.n == b.n)) && (a0.m == b.m)) && (a0.p == b.p)) && (a0.e == b.e)) && (seqB a0.key b.key)) && (seqB a0.to_ b.to_)) && s0)) rfl (Ob_pick rfl rfl rfl rfl (pick_and _ _)) fun a Z => ?_
 refine s_runk tMs2 Z 1 rfl rfl fun a Z => ?_
 refine gO Z (pp b1 16) rfl (wantB_t _) (.n 2 rfl .z) (fun hp => Ob_c tMs2 rfl) fun a Z => ?_
 refine gO Z (.agg #[vI a0.batch.client, vI a0.batch.req, v2_a0]) rfl (wantB_t _) (.c 102 rfl id .z) (fun hp => oA tMs2 rfl rfl ((H.bx 1 rfl).part 16 rfl)) fun a Z => ?_
 refine gO Z (pp b2 16) rfl (wantB_t _) (.n 3 rfl .z) (fun hp => Ob_c tMs2 rfl) fun a Z => ?_
 refine gO Z (.agg #[vI b.batch.client, vI b.batch.req, v7_b]) rfl (wantB_t _) (.c 104 rfl id .z) (fun hp => oA tMs2 rfl rfl ((H.bx 0 rfl).part 16 rfl)) fun a Z => ?_
 refine g_call Z (p := ((((((((((((((a0.k == b.k) && (a0.epoch == b.epoch)) && (a0.req == b.req)) && (a0.serial == b.serial)) && (a0.flag == b.flag)) && (a0.at_ == b.at_)) && (a0.last == b.last)) && (a0.n == b.n)) && (a0.m == b.m)) && (a0.p == b.p)) && (a0.e == b.e)) && (seqB a0.key b.key)) && (seqB a0.to_ b.to_)) && s0)) (v := vT s0_2) (S' := [(103, .agg #[vI a0.batch.client, vI a0.batch.req, v2_a0]), (105, .agg #[vI b.batch.client, vI b.batch.req, v7_b])]) (caps := #[]) fn_25_YMs2 rfl rfl rfl (wantB_t _) rfl (by decide) (fun hp hS => ((hS.conv (t := 103) rfl (cond_t hp)).conv (t := 105) rfl (cond_t hp)).sub (ts := [103, 105]) rfl) rfl rfl rfl rfl (fun hp => (have hq := c_ref06_Same (gif_in hx2 hp) ((H).pick0 (js := [(3, true), (8, true)]) rfl rfl); plainC hq)) fun a w4 hb Z => ?_
 replace H := H.blw hb
 clear hb
 refine sO Z (vT (((((((((((((((a0.k == b.k) && (a0.epoch == b.epoch)) && (a0.req == b.req)) && (a0.serial == b.serial)) && (a0.flag == b.flag)) && (a0.at_ == b.at_)) && (a0.last == b.last)) && (a0.n == b.n)) && (a0.m == b.m)) && (a0.p == b.p)) && (a0.e == b.e)) && (seqB a0.key b.key)) && (seqB a0.to_ b.to_)) && s0) && s0_2)) rfl (Ob_pick rfl rfl rfl rfl (pick_and _ _)) fun a Z => ?_
 refine s_runk tMs2 Z 1 rfl rfl fun a Z => ?_
 refine gO Z (pp b1 19) rfl (wantB_t _) (.n 2 rfl .z) (fun hp => Ob_c tMs2 rfl) fun a Z => ?_
 refine gO Z _ rfl (wantB_t _) (.c 109 rfl id .z) (fun hp => oL tMs2 rfl rfl (H.bc 1 19 rfl rfl)) fun a Z => ?_
 refine gO Z (pp b2 19) rfl (wantB_t _) (.n 3 rfl .z) (fun hp => Ob_c tMs2 rfl) fun a Z => ?_
 refine gO Z _ rfl (wantB_t _) (.c 111 rfl id .z) (fun hp => oL tMs2 rfl rfl (H.bc 0 19 rfl rfl)) fun a Z => ?_
 refine g_call Z (p := (((((((((((((((a0.k == b.k) && (a0.epoch == b.epoch)) && (a0.req == b.req)) && (a0.serial == b.serial)) && (a0.flag == b.flag)) && (a0.at_ == b.at_)) && (a0.last == b.last)) && (a0.n == b.n)) && (a0.m == b.m)) && (a0.p == b.p)) && (a0.e == b.e)) && (seqB a0.key b.key)) && (seqB a0.to_ b.to_)) && s0) && s0_2)) (v := vT s0_3) (S' := [(110, v3_a0), (112, v8_b)]) (caps := #[]) fn_26_YMs2 rfl rfl rfl (wantB_t _) rfl (by decide) (fun hp hS => ((hS.conv (t := 110) rfl (cond_t hp)).conv (t := 112) rfl (cond_t hp)).sub (ts := [110, 112]) rfl) rfl rfl rfl rfl (fun hp => (have hq := c_ref08_SameAll (gif_in hx3 hp) ((H).pick0 (js := [(4, true), (9, true)]) rfl rfl); plainC hq)) fun a w5 hb Z => ?_
 replace H := H.blw hb
 clear hb
 refine sO Z (vT ((((((((((((((((a0.k == b.k) && (a0.epoch == b.epoch)) && (a0.req == b.req)) && (a0.serial == b.serial)) && (a0.flag == b.flag)) && (a0.at_ == b.at_)) && (a0.last == b.last)) && (a0.n == b.n)) && (a0.m == b.m)) && (a0.p == b.p)) && (a0.e == b.e)) && (seqB a0.key b.key)) && (seqB a0.to_ b.to_)) && s0) && s0_2) && s0_3)) rfl (Ob_pick rfl rfl rfl rfl (pick_and _ _)) fun a Z => ?_
 refine s_runk tMs2 Z 1 rfl rfl fun a Z => ?_
 refine gO Z (pp b1 20) rfl (wantB_t _) (.n 2 rfl .z) (fun hp => Ob_c tMs2 rfl) fun a Z => ?_
 refine gO Z _ rfl (wantB_t _) (.c 116 rfl id .z) (fun hp => oL tMs2 rfl rfl (H.bc 1 20 rfl rfl)) fun a Z => ?_
 refine gO Z (pp b2 20) rfl (wantB_t _) (.n 3 rfl .z) (fun hp => Ob_c tMs2 rfl) fun a Z => ?_
 refine gO Z _ rfl (wantB_t _) (.c 118 rfl id .z) (fun hp => oL tMs2 rfl rfl (H.bc 0 20 rfl rfl)) fun a Z => ?_
 refine g_call Z (p := ((((((((((((((((a0.k == b.k) && (a0.epoch == b.epoch)) && (a0.req == b.req)) && (a0.serial == b.serial)) && (a0.flag == b.flag)) && (a0.at_ == b.at_)) && (a0.last == b.last)) && (a0.n == b.n)) && (a0.m == b.m)) && (a0.p == b.p)) && (a0.e == b.e)) && (seqB a0.key b.key)) && (seqB a0.to_ b.to_)) && s0) && s0_2) && s0_3)) (v := vT s0_4) (S' := [(117, v4_a0), (119, v9_b)]) (caps := #[]) fn_27_YMs2 rfl rfl rfl (wantB_t _) rfl (by decide) (fun hp hS => ((hS.conv (t := 117) rfl (cond_t hp)).conv (t := 119) rfl (cond_t hp)).sub (ts := [117, 119]) rfl) rfl rfl rfl rfl (fun hp => (have hq := c_ref09_sameStamps (gif_in hx4 hp) ((H).pick0 (js := [(5, true), (10, true)]) rfl rfl); plainC hq)) fun a w6 hb Z => ?_
 replace H := H.blw hb
 clear hb
 refine sO Z (vT (((((((((((((((((a0.k == b.k) && (a0.epoch == b.epoch)) && (a0.req == b.req)) && (a0.serial == b.serial)) && (a0.flag == b.flag)) && (a0.at_ == b.at_)) && (a0.last == b.last)) && (a0.n == b.n)) && (a0.m == b.m)) && (a0.p == b.p)) && (a0.e == b.e)) && (seqB a0.key b.key)) && (seqB a0.to_ b.to_)) && s0) && s0_2) && s0_3) && s0_4)) rfl (Ob_pick rfl rfl rfl rfl (pick_and _ _)) fun a Z => ?_
 refine s_runk tMs2 Z 1 rfl rfl fun a Z => ?_
 refine gO Z (pp b1 21) rfl (wantB_t _) (.n 2 rfl .z) (fun hp => Ob_c tMs2 rfl) fun a Z => ?_
 refine gO Z _ rfl (wantB_t _) (.c 123 rfl id .z) (fun hp => oL tMs2 rfl rfl (H.bc 1 21 rfl rfl)) fun a Z => ?_
 refine gO Z (pp b2 21) rfl (wantB_t _) (.n 3 rfl .z) (fun hp => Ob_c tMs2 rfl) fun a Z => ?_
 refine gO Z _ rfl (wantB_t _) (.c 125 rfl id .z) (fun hp => oL tMs2 rfl rfl (H.bc 0 21 rfl rfl)) fun a Z => ?_
 refine g_call Z (p := (((((((((((((((((a0.k == b.k) && (a0.epoch == b.epoch)) && (a0.req == b.req)) && (a0.serial == b.serial)) && (a0.flag == b.flag)) && (a0.at_ == b.at_)) && (a0.last == b.last)) && (a0.n == b.n)) && (a0.m == b.m)) && (a0.p == b.p)) && (a0.e == b.e)) && (seqB a0.key b.key)) && (seqB a0.to_ b.to_)) && s0) && s0_2) && s0_3) && s0_4)) (v := vT s0_5) (S' := [(124, v5_a0), (126, v10_b)]) (caps := #[]) fn_28_YMs2 rfl rfl rfl (wantB_t _) rfl (by decide) (fun hp hS => ((hS.conv (t := 124) rfl (cond_t hp)).conv (t := 126) rfl (cond_t hp)).sub (ts := [124, 126]) rfl) rfl rfl rfl rfl (fun hp => (have hq := c_ref06_SamePairs (gif_in hx5 hp) ((H).pick0 (js := [(6, true), (11, true)]) rfl rfl); plainC hq)) fun a w7 hb Z => ?_
 replace H := H.blw hb
 clear hb
 refine sO Z (vT ((((((((((((((((((a0.k == b.k) && (a0.epoch == b.epoch)) && (a0.req == b.req)) && (a0.serial == b.serial)) && (a0.flag == b.flag)) && (a0.at_ == b.at_)) && (a0.last == b.last)) && (a0.n == b.n)) && (a0.m == b.m)) && (a0.p == b.p)) && (a0.e == b.e)) && (seqB a0.key b.key)) && (seqB a0.to_ b.to_)) && s0) && s0_2) && s0_3) && s0_4) && s0_5)) rfl (Ob_pick rfl rfl rfl rfl (pick_and _ _)) fun a Z => ?_
 refine s_runk tMs2 Z 1 rfl rfl fun a Z => ?_
 refine s_end Z [4] rfl fun Z => ?_
 refine p_then (wp_ret ?_)
 obtain rfl := some_in hF
 exact f_ret Z (run_results1 rfl Z rfl) ⟨rfl, I, (H.sub [] rfl).eq rfl⟩

end Go.Proofs.Ythmjkcdpbbcdgaa
