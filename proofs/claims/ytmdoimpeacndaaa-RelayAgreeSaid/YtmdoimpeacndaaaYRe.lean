/- What goes along the chain: the program's relay, the tail's timestamps. -/
import Derived.Test.YtmdoimpeacndaaaYAd2
import Derived.Test.YtmdoimpeacndaaaYAd5
import Derived.Test.YtmdoimpeacndaaaYR
namespace Go.Proofs.Ytmdoimpeacndaaa
open Go.RowKit
def OEMsg (b : Nat) (x : EMsg) : Ch := ExC fun (p : Value × Value × Value × Value × Value) => [BxC b 37 (cEMsg x p.1 p.2.1 p.2.2.1 p.2.2.2.1 p.2.2.2.2), SlC NEMember p.1 x.conf.members, SlC NEOp p.2.1 x.batch.ops, SlC NEEntry p.2.2.1 x.entries, OwC Nu64 24 p.2.2.2.1 x.stamps, SlC NEPair p.2.2.2.2 x.pairs]

def tReL : TabL := ⟨[(37890, 2), (37893, 5), (37895, 7), (37896, 8), (37897, 9), (37903, 19), (37904, 20), (58369, 3)], [], [], [(22, (57, 4)), (34, (24, 1)), (45, (82, 18)), (97, (66, 1))], [(3, (1, false)), (22, (1, false)), (24, (1, false)), (34, (1, false)), (37, (22, true)), (57, (4, true)), (66, (1, false))]⟩

def tRe : Tab Try.prog := ⟨tReL, by kernel_rfl⟩

theorem fn_29_YRe : IsFn Try.prog 29 := ⟨_, Try.func29, by kernel_rfl, by kernel_rfl⟩

theorem fn_30_YRe : IsFn Try.prog 30 := ⟨_, Try.func30, by kernel_rfl, by kernel_rfl⟩

theorem fn_31_YRe : IsFn Try.prog 31 := ⟨_, Try.func31, by kernel_rfl, by kernel_rfl⟩

theorem fn_32_YRe : IsFn Try.prog 32 := ⟨_, Try.func32, by kernel_rfl, by kernel_rfl⟩

theorem fn_33_YRe : IsFn Try.prog 33 := ⟨_, Try.func33, by kernel_rfl, by kernel_rfl⟩

theorem fn_34_YRe : IsFn Try.prog 34 := ⟨_, Try.func34, by kernel_rfl, by kernel_rfl⟩

theorem fn_35_YRe : IsFn Try.prog 35 := ⟨_, Try.func35, by kernel_rfl, by kernel_rfl⟩

theorem fn_36_YRe : IsFn Try.prog 36 := ⟨_, Try.func36, by kernel_rfl, by kernel_rfl⟩

theorem fn_46_YRe : IsFn Try.prog 46 := ⟨_, Try.func46, by kernel_rfl, by kernel_rfl⟩

theorem fn_54_YRe : IsFn Try.prog 54 := ⟨_, Try.func54, by kernel_rfl, by kernel_rfl⟩

theorem E_22_YRe : Elem Try.prog 22 57 4 48 := ⟨Try.underlying22, by
 have h : (Try.prog.info? 57).map (fun i => (i.zero, i.size, i.bytes)) = some (some (.agg #[.int .i64 0, .int .i64 0, .slice none 0 0, .int .u64 0]), 4, 48) := by kernel_rfl
 obtain ⟨i, hi, h1⟩ := Option.map_eq_some_iff.1 h
 simp only [Prod.mk.injEq] at h1
 exact ⟨i, _, hi, h1.1, h1.2.1, h1.2.2, by rfl⟩, by decide⟩

theorem E_34_YRe : Elem Try.prog 34 24 1 8 := ⟨Try.underlying34, by
 have h : (Try.prog.info? 24).map (fun i => (i.zero, i.size, i.bytes)) = some (some (.int .u64 0), 1, 8) := by kernel_rfl
 obtain ⟨i, hi, h1⟩ := Option.map_eq_some_iff.1 h
 simp only [Prod.mk.injEq] at h1
 exact ⟨i, _, hi, h1.1, h1.2.1, h1.2.2, by rfl⟩, by decide⟩

theorem E_45_YRe : Elem Try.prog 45 82 18 192 := ⟨Try.underlying45, by
 have h : (Try.prog.info? 82).map (fun i => (i.zero, i.size, i.bytes)) = some (some (.agg #[.int .i64 0, .int .i64 0, .int .u64 0, .int .i64 0, .slice none 0 0, .int .u64 0, .slice none 0 0, .int .i64 0, .int .i64 0, .slice none 0 0, .int .u64 0, .int .i64 0, .int .u64 0, .int .i64 0, .int .i64 0, .int .i64 0, .int .i64 0, .int .i64 0]), 18, 192) := by kernel_rfl
 obtain ⟨i, hi, h1⟩ := Option.map_eq_some_iff.1 h
 simp only [Prod.mk.injEq] at h1
 exact ⟨i, _, hi, h1.1, h1.2.1, h1.2.2, by rfl⟩, by decide⟩

/-- the block of a closure's captured variable -/
def capBlk (v : Value) (j : Nat) : Nat := match v with | .func _ _ cs => blkOf (cs.getD j undef) | _ => 0

def F_slices_Clone_api_Entry_api_Entry (s0 : List EEntry) : Option (List EEntry) := chk (((([] : List EEntry).length + s0.length : Nat) : Int) * 48 ≤ 140737488355328) (some s0)

theorem c_slices_Clone_api_Entry_api_Entry {I D : Dm} {v_s0 : Value} {s0 : List EEntry} {w : World} {rr : List EEntry} (hF : F_slices_Clone_api_Entry_api_Entry s0 = some rr) (H : St I D w [SlC NEEntry v_s0 s0]) :
  Calls Try.prog 31 #[v_s0] w (Ret fun vv w' => ∃ q1 : Value, vv = q1 ∧ ∃ I', Hf I D w I' w' [OwC NEEntry 57 q1 rr]) := by
 replace H := H.hf
 unfold F_slices_Clone_api_Entry_api_Entry at hF
 obtain ⟨hg, hF⟩ := chk_in hF
 obtain rfl := some_in hF
 obtain ⟨ao, cap, rfl, _, _⟩ := H.slshape 0 rfl
 refine f_enter 8 Try.func31 rfl rfl (Nat.le_of_ble_eq_true rfl) fun a Z => ?_
 replace Z := Z.sub (ts := [0]) rfl
 refine wp_seq (f_region Z ?_); clear Z; intro Z
 refine s_runk tRe Z 1 rfl rfl ?_; clear Z a; intro a Z
 refine s_end Z [0, 2] rfl ?_; clear Z; intro Z
 refine p_then (wp_seq ?_)
 refine wp_seq (f_region Z ?_); clear Z; intro Z
 refine s_runk tRe Z 1 rfl rfl ?_; clear Z a; intro a Z
 refine s_ob Z (v := .bool ao.isNone) rfl rfl (by decide) rfl (Ob_bin rfl rfl rfl (eqg_sl _ _ _ _ _ _ _ _ _ _ _) (run_eql_slice_nil' Try.underlying22 _ _ _ _)) ?_; clear Z a; intro a Z
 refine s_end Z [0, 2, 4] rfl ?_; clear Z; intro Z
 refine p_then ?_
 refine f_cond Z rfl (fun hc1 => ?_) (fun hc1 => ?_)
 ·have e := (H.sl 0 rfl).isNone hc1
  subst e
  refine wp_seq (f_region Z ?_); clear Z; intro Z
  refine s_runk tRe Z 1 rfl rfl ?_; clear Z a; intro a Z
  refine s_end Z [0, 2] rfl ?_; clear Z; intro Z
  refine p_then (wp_ret ?_)
  refine p_then_r ?_
  exact f_ret Z (run_results1 rfl Z rfl) ⟨_, rfl, I, ((H.nilow NEEntry 57).sub [(0, false)] rfl).eq rfl⟩
 ·refine wp_skip ?_
  refine p_then (wp_seq (f_region Z ?_)); clear Z; intro Z
  refine h_bslice Z H (vs := []) (cl := []) (e := 57) rfl rfl rfl (by decide) rfl rfl (fun w => run_bslice (z := .agg #[.int .i64 0, .int .i64 0, .slice none 0 0, .int .u64 0]) (m := 4) Try.underlying22 (by kernel_rfl) rfl rfl (by decide) (by simp [Instr.fill, Value.cells]) w) ?_; clear Z a H; intro a w1 b1 H Z
  refine s_runk tRe Z 1 rfl rfl ?_; clear Z a; intro a Z
  replace H : Hf I D w I w1 [OwC NEEntry 57 (.slice (some ⟨b1, 0, none⟩) 0 0) [], SlC NEEntry (.slice ao s0.length cap) s0] := H.emptyow 0 rfl NEEntry
  refine h_appO Z H 0 E_22_YRe s0 rfl rfl rfl rfl rfl (by decide) rfl rfl rfl (H.sl2 1 rfl) hg (by decide) ?_; clear Z a H; intro v1 a w2 H Z
  refine s_runk tRe Z 1 rfl rfl ?_; clear Z a; intro a Z
  refine s_end Z [2] rfl ?_; clear Z; intro Z
  refine p_then (wp_ret ?_)
  exact f_ret Z (run_results1 rfl Z rfl) ⟨_, rfl, I, (H.sub [(0, false)] rfl).eq rfl⟩

def F_relay_fit (n0 : Int) (most : Int) : Option Int := some (min (max n0 0) most)

set_option maxHeartbeats 1000000 in
theorem c_relay_fit {I D : Dm} {n0 : Int} {most : Int} {w : World} {rr : Int} (hF : F_relay_fit n0 most = some rr) (H : St I D w []) :
  Calls Try.prog 29 #[.int .i64 n0, .int .i64 most] w (Ret fun vv w' => vv = .int .i64 rr ∧ ∃ I', Hf I D w I' w' []) := by
 replace H := H.hf
 unfold F_relay_fit at hF
 refine f_enter 9 Try.func29 rfl rfl (Nat.le_of_ble_eq_true rfl) fun a Z => ?_
 replace Z := Z.sub (ts := [0, 1]) rfl
 refine wp_seq (f_region Z ?_); clear Z; intro Z
 refine s_runk tRe Z 1 rfl rfl ?_; clear Z a; intro a Z
 refine s_end Z [0, 1, 4] rfl ?_; clear Z; intro Z
 refine p_then (wp_seq (f_region Z ?_)); clear Z; intro Z
 refine s_runk tRe Z 5 rfl rfl ?_; clear Z a; intro a Z
 refine s_end Z [4] rfl ?_; clear Z; intro Z
 refine p_then (wp_ret ?_)
 obtain rfl := some_in hF
 exact f_ret Z (run_results1 rfl Z rfl) ⟨rfl, I, (H.sub [] rfl).eq rfl⟩

def F_relay_Held_k1 (n0 : Int) : Option Int := some (max n0 0)

def F_relay_Held (good : Int) (stamped : Int) (tail : Bool) (behind : Int) : Option Int := if (!tail) = true then (F_relay_Held_k1 (min (min good stamped) behind)) else (F_relay_Held_k1 (min good stamped))

set_option maxHeartbeats 1000000 in
theorem c_relay_Held {I D : Dm} {good : Int} {stamped : Int} {tail : Bool} {behind : Int} {w : World} {rr : Int} (hF : F_relay_Held good stamped tail behind = some rr) (H : St I D w []) :
  Calls Try.prog 18 #[.int .i64 good, .int .i64 stamped, .bool tail, .int .i64 behind] w (Ret fun vv w' => vv = .int .i64 rr ∧ ∃ I', Hf I D w I' w' []) := by
 replace H := H.hf
 unfold F_relay_Held at hF
 refine f_enter 20 Try.func18 rfl rfl (Nat.le_of_ble_eq_true rfl) fun a Z => ?_
 replace Z := Z.sub (ts := [0, 1, 2, 3]) rfl
 refine wp_seq (f_region Z ?_); clear Z; intro Z
 refine s_runk tRe Z 1 rfl rfl ?_; clear Z a; intro a Z
 refine s_end Z [0, 1, 2, 3, 8] rfl ?_; clear Z; intro Z
 refine p_then (wp_seq (f_region Z ?_)); clear Z; intro Z
 refine s_runk tRe Z 4 rfl rfl ?_; clear Z a; intro a Z
 refine s_end Z [2, 3, 8, 9] rfl ?_; clear Z; intro Z
 refine p_then ?_
 refine f_cut (fun a' w' => ∃ (n0 : Int), Sl 20 [(8, .int .i64 0), (9, .int .i64 n0)] a' ∧ (∃ I2, Hf I D w I2 w' []) ∧ F_relay_Held_k1 n0 = some rr) ?_ ?_
 ·rintro a w1 ⟨n0, Z, ⟨I1, H⟩, hF⟩
  unfold F_relay_Held_k1 at hF
  try dsimp only at hF
  refine wp_seq (f_region Z ?_); clear Z; intro Z
  refine s_runk tRe Z 3 rfl rfl ?_; clear Z a; intro a Z
  refine s_end Z [8] rfl ?_; clear Z; intro Z
  refine p_then (wp_ret ?_)
  obtain rfl := some_in hF
  exact f_ret Z (run_results1 rfl Z rfl) ⟨rfl, I1, (H.sub [] rfl).eq rfl⟩
 ·skip
  refine wp_seq (f_region Z ?_); clear Z; intro Z
  refine s_runk tRe Z 2 rfl rfl ?_; clear Z a; intro a Z
  refine s_end Z [3, 8, 9, 14] rfl ?_; clear Z; intro Z
  refine p_then ?_
  refine f_cond Z rfl (fun hc1 => ?_) (fun hc1 => ?_)
  ·replace hF := ite_t hc1 hF
   refine f_region Z ?_; clear Z; intro Z
   refine s_runk tRe Z 4 rfl rfl ?_; clear Z a; intro a Z
   refine s_end Z [8, 9] rfl ?_; clear Z; intro Z
   refine p_then ?_
   exact ⟨min (min good stamped) behind, Z.sub (ts := [8, 9]) rfl, ⟨I, (H.sub [] rfl).eq rfl⟩, hF⟩
  ·replace hF := ite_f hc1 hF
   refine wp_skip ?_
   refine p_then ?_
   exact ⟨min good stamped, Z.sub (ts := [8, 9]) rfl, ⟨I, (H.sub [] rfl).eq rfl⟩, hF⟩

def F_relay_Good (x : EMsg) (good : Int) : Option Int := some (max (min x.n good) 0)

set_option maxHeartbeats 1000000 in
theorem c_relay_Good {I D : Dm} {x : EMsg} {v1_x : Value} {v2_x : Value} {v3_x : Value} {v4_x : Value} {v5_x : Value} {good : Int} {w : World} {rr : Int} (hF : F_relay_Good x good = some rr) (H : St I D w [SlC NEMember v1_x x.conf.members, SlC NEOp v2_x x.batch.ops, SlC NEEntry v3_x x.entries, SlC Nu64 v4_x x.stamps, SlC NEPair v5_x x.pairs]) :
  Calls Try.prog 20 #[.agg #[.int .i64 x.k, .int .i64 x.epoch, .int .i64 x.req, .int .i64 x.serial, .bool x.flag, .int .u64 x.at_, .int .u64 x.last, .int .i64 x.n, .int .i64 x.m, .int .i64 x.p, .int .i64 x.e, .string x.key, .string x.to_, .int .i64 x.conf.epoch, v1_x, .int .u64 x.conf.floor, .int .i64 x.batch.client, .int .i64 x.batch.req, v2_x, v3_x, v4_x, v5_x], .int .i64 good] w (Ret fun vv w' => vv = .int .i64 rr ∧ ∃ I', Hf I D w I' w' []) := by
 replace H := H.hf
 unfold F_relay_Good at hF
 refine f_enter 10 Try.func20 rfl rfl (Nat.le_of_ble_eq_true rfl) fun a Z => ?_
 replace Z := Z.sub (ts := [0, 1]) rfl
 refine wp_seq (f_region Z ?_); clear Z; intro Z
 refine h_boxv Z H (cl := [.int .i64 x.k, .int .i64 x.epoch, .int .i64 x.req, .int .i64 x.serial, .bool x.flag, .int .u64 x.at_, .int .u64 x.last, .int .i64 x.n, .int .i64 x.m, .int .i64 x.p, .int .i64 x.e, .string x.key, .string x.to_, .int .i64 x.conf.epoch, v1_x, .int .u64 x.conf.floor, .int .i64 x.batch.client, .int .i64 x.batch.req, v2_x, v3_x, v4_x, v5_x]) rfl rfl rfl (by decide) rfl rfl rfl ?_; clear Z a H; intro a w1 b1 H Z
 refine s_runk tRe Z 1 rfl rfl ?_; clear Z a; intro a Z
 refine s_end Z [1, 2, 4] rfl ?_; clear Z; intro Z
 refine p_then (wp_seq (f_region Z ?_)); clear Z; intro Z
 refine s_runk tRe Z 1 rfl rfl ?_; clear Z a; intro a Z
 refine s_ob Z (v := .int .i64 x.n) rfl rfl (by decide) rfl (Ob_load tRe rfl rfl rfl ((H.bx 0 rfl).cell 7 rfl)) ?_; clear Z a; intro a Z
 refine s_runk tRe Z 4 rfl rfl ?_; clear Z a; intro a Z
 refine s_end Z [4] rfl ?_; clear Z; intro Z
 refine p_then (wp_ret ?_)
 obtain rfl := some_in hF
 exact f_ret Z (run_results1 rfl Z rfl) ⟨rfl, I, (H.sub [] rfl).eq rfl⟩

def F_item_Last (l : List EEntry) : Option Int := (F_item_Stamped l).bind fun s0 => (if (decide (s0 > 0)) = true then (chk (inI (s0 - 1)) (chk ((0 : Int) ≤ s0 - 1 ∧ s0 - 1 < (l.length : Int)) (some ((l.getD (s0 - 1).toNat default).ts)))) else (some 0))

set_option maxHeartbeats 1000000 in
theorem c_item_Last {I D : Dm} {l : List EEntry} {v1_l : Value} {w : World} {rr : Int} (hF : F_item_Last l = some rr) (H : St I D w [SlC NEEntry v1_l l]) :
  Calls Try.prog 46 #[v1_l] w (Ret fun vv w' => vv = .int .u64 rr ∧ ∃ I', Hf I D w I' w' []) := by
 replace H := H.hf
 unfold F_item_Last at hF
 refine f_enter 14 Try.func46 rfl rfl (Nat.le_of_ble_eq_true rfl) fun a Z => ?_
 replace Z := Z.sub (ts := [0]) rfl
 refine wp_seq (f_region Z ?_); clear Z; intro Z
 refine s_runk tRe Z 1 rfl rfl ?_; clear Z a; intro a Z
 refine s_end Z [0, 2] rfl ?_; clear Z; intro Z
 refine p_then (wp_seq ?_)
 refine wp_seq ?_
 obtain ⟨s0, hx1, hF⟩ := bnd_in hF
 refine f_region Z ?_; clear Z; intro Z
 refine s_runk tRe Z 1 rfl rfl ?_; clear Z a; intro a Z
 refine h_call Z H (js := [(0, true)]) rfl (caps := #[]) fn_35_YRe rfl rfl rfl rfl rfl (by decide) rfl rfl (fun D1 hS => have hq := c_item_Stamped hx1 hS; hq) ?_; clear Z a; intro vv a w1 D2 hr hF2 Z
 obtain ⟨rfl, I1, K⟩ := hr
 have H : Hf I D w I1 w1 [SlC NEEntry v1_l l] := hF2 K
 clear hF2 K
 refine s_runk tRe Z 1 rfl rfl ?_; clear Z a; intro a Z
 refine s_end Z [0, 2, 3] rfl ?_; clear Z; intro Z
 refine p_then (wp_seq (f_region Z ?_)); clear Z; intro Z
 refine s_runk tRe Z 2 rfl rfl ?_; clear Z a; intro a Z
 refine s_end Z [0, 2, 3, 7] rfl ?_; clear Z; intro Z
 refine p_then ?_
 refine f_cond Z rfl (fun hc1 => ?_) (fun hc1 => ?_)
 ·replace hF := ite_t hc1 hF
  refine wp_seq ?_
  obtain ⟨hg1, hF⟩ := chk_in hF
  obtain ⟨hg2, hF⟩ := chk_in hF
  refine f_region Z ?_; clear Z; intro Z
  refine s_runk tRe Z 2 rfl rfl ?_; clear Z a; intro a Z
  refine s_ob Z (v := .int .i64 (s0 - 1)) rfl rfl (by decide) rfl (Ob_sub rfl rfl rfl (wrI hg1)) ?_; clear Z a; intro a Z
  refine s_ob Z (v := .pointer (some ⟨blkOf v1_l, oofOf v1_l + (s0 - 1).toNat * 4, none⟩)) rfl rfl (by decide) rfl (Ob_sidx tRe rfl rfl rfl rfl (slPl (H.sl 0 rfl) hg2) hg2) ?_; clear Z a; intro a Z
  refine s_runk tRe Z 1 rfl rfl ?_; clear Z a; intro a Z
  obtain ⟨_, ⟨u1, rfl, L1⟩, H⟩ := H.elG 0 rfl (s0 - 1) (NEEntry.dft _ _)
  replace H := H.addsl L1
  replace H : Hf I D w I1 w1 [SlC NEOp u1 (((l.getD (s0 - 1).toNat default).batch).ops), AtG ((0 : Int) ≤ s0 - 1 ∧ s0 - 1 < (l.length : Int)) (blkOf v1_l) (oofOf v1_l + (s0 - 1).toNat * 4) [.int .i64 (((l.getD (s0 - 1).toNat default).batch).client), .int .i64 (((l.getD (s0 - 1).toNat default).batch).req), u1, .int .u64 ((l.getD (s0 - 1).toNat default).ts)], SlC NEEntry v1_l l] := H
  refine s_ob Z (v := .int .u64 ((l.getD (s0 - 1).toNat default).ts)) rfl rfl (by decide) rfl (Ob_load tRe rfl rfl rfl ((H.atg 1 rfl hg2) 3 _ rfl)) ?_; clear Z a; intro a Z
  refine s_runk tRe Z 1 rfl rfl ?_; clear Z a; intro a Z
  refine s_end Z [2] rfl ?_; clear Z; intro Z
  refine p_then (wp_ret ?_)
  refine p_then_r ?_
  obtain rfl := some_in hF
  exact f_ret Z (run_results1 rfl Z rfl) ⟨rfl, I1, (H.sub [] rfl).eq rfl⟩
 ·replace hF := ite_f hc1 hF
  refine wp_skip ?_
  refine p_then (wp_seq (f_region Z ?_)); clear Z; intro Z
  refine s_runk tRe Z 1 rfl rfl ?_; clear Z a; intro a Z
  refine s_end Z [2] rfl ?_; clear Z; intro Z
  refine p_then (wp_ret ?_)
  obtain rfl := some_in hF
  exact f_ret Z (run_results1 rfl Z rfl) ⟨rfl, I1, (H.sub [] rfl).eq rfl⟩

def F_relay_Learn_k1 (out : List ENote) : Option (List ENote) := some out

def F_relay_Learn_l2 (l : List EEntry) (good : Int) (x : EMsg) (s0 : Int) (rc : (Int × Int × (List ENote) × Int) → Option (List ENote)) (sg : Int × Int × (List ENote) × Int) : Option (List ENote) := match sg with | (at_, last, out_2, x_2) => if (decide (x_2 < ((x.stamps.drop ((s0 - x.p).toNat)).length : Int))) = true then (chk ((0 : Int) ≤ x_2 ∧ x_2 < ((x.stamps.drop ((s0 - x.p).toNat)).length : Int)) ((F_relay_fit good (l.length : Int)).bind fun f => (if ((decide (at_ ≥ f)) || (decide (((x.stamps.drop ((s0 - x.p).toNat)).getD (x_2).toNat default) ≤ last))) = true then (F_relay_Learn_k1 out_2) else (chk (((out_2.length + [({ (default : ENote) with k := 3, n := at_, at_ := ((x.stamps.drop ((s0 - x.p).toNat)).getD (x_2).toNat default) } : ENote)].length : Nat) : Int) * 192 ≤ 140737488355328) (chk (inI (at_ + 1)) (chk (inI (x_2 + 1)) (rc (at_ + 1, ((x.stamps.drop ((s0 - x.p).toNat)).getD (x_2).toNat default), out_2 ++ [({ (default : ENote) with k := 3, n := at_, at_ := ((x.stamps.drop ((s0 - x.p).toNat)).getD (x_2).toNat default) } : ENote)], x_2 + 1)))))))) else (F_relay_Learn_k1 out_2)

def F_relay_Learn (l : List EEntry) (good : Int) (x : EMsg) : Option (List ENote) := (F_item_Stamped l).bind fun s0 => ((F_item_Last l).bind fun l_2 => (chk (inI (s0 - x.p)) (if ((decide (s0 - x.p < 0)) || (decide (s0 - x.p > (x.stamps.length : Int)))) = true then (some ([] : List ENote)) else (chk ((0 : Int) ≤ s0 - x.p ∧ s0 - x.p ≤ (x.stamps.length : Int)) (iter (F_relay_Learn_l2 l good x s0) FU (s0, l_2, ([] : List ENote), 0))))))

set_option maxHeartbeats 1000000 in
theorem c_relay_Learn {I D : Dm} {l : List EEntry} {v1_l : Value} {good : Int} {x : EMsg} {v2_x : Value} {v3_x : Value} {v4_x : Value} {v5_x : Value} {v6_x : Value} {w : World} {rr : List ENote} (hF : F_relay_Learn l good x = some rr) (H : St I D w [SlC NEEntry v1_l l, SlC NEMember v2_x x.conf.members, SlC NEOp v3_x x.batch.ops, SlC NEEntry v4_x x.entries, SlC Nu64 v5_x x.stamps, SlC NEPair v6_x x.pairs]) :
  Calls Try.prog 16 #[v1_l, .int .i64 good, .agg #[.int .i64 x.k, .int .i64 x.epoch, .int .i64 x.req, .int .i64 x.serial, .bool x.flag, .int .u64 x.at_, .int .u64 x.last, .int .i64 x.n, .int .i64 x.m, .int .i64 x.p, .int .i64 x.e, .string x.key, .string x.to_, .int .i64 x.conf.epoch, v2_x, .int .u64 x.conf.floor, .int .i64 x.batch.client, .int .i64 x.batch.req, v3_x, v4_x, v5_x, v6_x]] w (Ret fun vv w' => ∃ q1 : Value, vv = q1 ∧ ∃ I', Hf I D w I' w' [SlC NENote q1 rr]) := by
 replace H := H.hf
 unfold F_relay_Learn at hF
 refine f_enter 61 Try.func16 rfl rfl (Nat.le_of_ble_eq_true rfl) fun a Z => ?_
 replace Z := Z.sub (ts := [0, 1, 2]) rfl
 refine wp_seq (f_region Z ?_); clear Z; intro Z
 refine h_boxv Z H (cl := [.int .i64 x.k, .int .i64 x.epoch, .int .i64 x.req, .int .i64 x.serial, .bool x.flag, .int .u64 x.at_, .int .u64 x.last, .int .i64 x.n, .int .i64 x.m, .int .i64 x.p, .int .i64 x.e, .string x.key, .string x.to_, .int .i64 x.conf.epoch, v2_x, .int .u64 x.conf.floor, .int .i64 x.batch.client, .int .i64 x.batch.req, v3_x, v4_x, v5_x, v6_x]) rfl rfl rfl (by decide) rfl rfl rfl ?_; clear Z a H; intro a w1 b1 H Z
 refine s_runk tRe Z 1 rfl rfl ?_; clear Z a; intro a Z
 refine s_end Z [0, 1, 5, 6] rfl ?_; clear Z; intro Z
 refine p_then (wp_seq ?_)
 obtain ⟨s0, hx1, hF⟩ := bnd_in hF
 obtain ⟨l_2, hx2, hF⟩ := bnd_in hF
 refine f_region Z ?_; clear Z; intro Z
 refine s_runk tRe Z 1 rfl rfl ?_; clear Z a; intro a Z
 refine h_call Z H (js := [(1, true)]) rfl (caps := #[]) fn_35_YRe rfl rfl rfl rfl rfl (by decide) rfl rfl (fun D1 hS => have hq := c_item_Stamped hx1 hS; hq) ?_; clear Z a; intro vv a w2 D2 hr hF2 Z
 obtain ⟨rfl, I1, K⟩ := hr
 have H : Hf I D w I1 w2 [BxC b1 37 (cEMsg x v2_x v3_x v4_x v5_x v6_x), SlC NEEntry v1_l l, SlC NEMember v2_x x.conf.members, SlC NEOp v3_x x.batch.ops, SlC NEEntry v4_x x.entries, SlC Nu64 v5_x x.stamps, SlC NEPair v6_x x.pairs] := hF2 K
 clear hF2 K
 refine s_runk tRe Z 1 rfl rfl ?_; clear Z a; intro a Z
 refine h_call Z H (js := [(1, true)]) rfl (caps := #[]) fn_46_YRe rfl rfl rfl rfl rfl (by decide) rfl rfl (fun D1 hS => have hq := c_item_Last hx2 hS; hq) ?_; clear Z a; intro vv a w3 D2 hr hF2 Z
 obtain ⟨rfl, I2, K⟩ := hr
 have H : Hf I D w I2 w3 [BxC b1 37 (cEMsg x v2_x v3_x v4_x v5_x v6_x), SlC NEEntry v1_l l, SlC NEMember v2_x x.conf.members, SlC NEOp v3_x x.batch.ops, SlC NEEntry v4_x x.entries, SlC Nu64 v5_x x.stamps, SlC NEPair v6_x x.pairs] := hF2 K
 clear hF2 K
 refine s_runk tRe Z 2 rfl rfl ?_; clear Z a; intro a Z
 refine s_end Z [0, 1, 5, 6, 7, 8] rfl ?_; clear Z; intro Z
 refine p_then (wp_seq ?_)
 obtain ⟨hg1, hF⟩ := chk_in hF
 refine f_region Z ?_; clear Z; intro Z
 refine s_runk tRe Z 2 rfl rfl ?_; clear Z a; intro a Z
 refine s_ob Z (v := .int .i64 x.p) rfl rfl (by decide) rfl (Ob_load tRe rfl rfl rfl ((H.bx 0 rfl).cell 9 rfl)) ?_; clear Z a; intro a Z
 refine s_ob Z (v := .int .i64 (s0 - x.p)) rfl rfl (by decide) rfl (Ob_sub rfl rfl rfl (wrI hg1)) ?_; clear Z a; intro a Z
 refine s_runk tRe Z 1 rfl rfl ?_; clear Z a; intro a Z
 refine s_end Z [0, 1, 5, 6, 7, 8, 9] rfl ?_; clear Z; intro Z
 refine p_then (wp_seq ?_)
 refine wp_seq (f_region Z ?_); clear Z; intro Z
 refine s_runk tRe Z 3 rfl rfl ?_; clear Z a; intro a Z
 refine g_ob Z (p := (!(decide (s0 - x.p < 0)))) (v := .int .i64 (s0 - x.p)) (S' := [(9, .int .i64 (s0 - x.p))]) rfl rfl rfl (wantB_f _) rfl (by decide) (fun hp hS => hS.sub (ts := [9]) rfl) (fun hp => Ob_c tRe rfl) ?_; clear Z a; intro a Z
 refine g_ob Z (p := (!(decide (s0 - x.p < 0)))) (v := .pointer (some ⟨b1, 20, none⟩)) (S' := [(5, .pointer (some ⟨b1, 0, none⟩))]) rfl rfl rfl (wantB_f _) rfl (by decide) (fun hp hS => hS.sub (ts := [5]) rfl) (fun hp => Ob_c tRe rfl) ?_; clear Z a; intro a Z
 refine g_ob Z (p := (!(decide (s0 - x.p < 0)))) (v := v5_x) (S' := [(25, .pointer (some ⟨b1, 20, none⟩))]) rfl rfl rfl (wantB_f _) rfl (by decide) (fun hp hS => (hS.conv (t := 25) rfl (cond_t hp)).sub (ts := [25]) rfl) (fun hp => Ob_load tRe rfl rfl rfl ((H.bx 0 rfl).cell 20 rfl)) ?_; clear Z a; intro a Z
 refine g_ob Z (p := (!(decide (s0 - x.p < 0)))) (v := .int .i64 (x.stamps.length : Int)) (S' := [(26, v5_x)]) rfl rfl rfl (wantB_f _) rfl (by decide) (fun hp hS => (hS.conv (t := 26) rfl (cond_t hp)).sub (ts := [26]) rfl) (fun hp => Ob_slen tRe rfl rfl rfl (H.slshape 5 rfl)) ?_; clear Z a; intro a Z
 refine g_ob Z (p := (!(decide (s0 - x.p < 0)))) (v := .bool (decide (s0 - x.p > (x.stamps.length : Int)))) (S' := [(24, .int .i64 (s0 - x.p)), (27, .int .i64 (x.stamps.length : Int))]) rfl rfl rfl (wantB_f _) rfl (by decide) (fun hp hS => ((hS.conv (t := 24) rfl (cond_t hp)).conv (t := 27) rfl (cond_t hp)).sub (ts := [24, 27]) rfl) (fun hp => Ob_c tRe rfl) ?_; clear Z a; intro a Z
 refine s_ob Z (v := .bool ((decide (s0 - x.p < 0)) || (decide (s0 - x.p > (x.stamps.length : Int))))) rfl rfl (by decide) rfl (Ob_pick rfl rfl rfl rfl (pick_or _ _)) ?_; clear Z a; intro a Z
 refine s_end Z [0, 1, 5, 6, 7, 8, 9, 29] rfl ?_; clear Z; intro Z
 refine p_then ?_
 refine f_cond Z rfl (fun hc1 => ?_) (fun hc1 => ?_)
 ·replace hF := ite_t hc1 hF
  refine wp_seq (f_region Z ?_); clear Z; intro Z
  refine s_runk tRe Z 1 rfl rfl ?_; clear Z a; intro a Z
  refine s_end Z [0, 1, 5, 6, 7, 8, 9] rfl ?_; clear Z; intro Z
  refine p_then (wp_ret ?_)
  refine p_then_r ?_
  replace H : Hf I D w I2 w3 [SlC NENote (.slice none 0 0) ([] : List ENote), BxC b1 37 (cEMsg x v2_x v3_x v4_x v5_x v6_x), SlC NEEntry v1_l l, SlC NEMember v2_x x.conf.members, SlC NEOp v3_x x.batch.ops, SlC NEEntry v4_x x.entries, SlC Nu64 v5_x x.stamps, SlC NEPair v6_x x.pairs] := H.slNil NENote
  obtain rfl := some_in hF
  exact f_ret Z (run_results1 rfl Z rfl) ⟨.slice none 0 0, rfl, I2, (H.sub [(0, true)] rfl).eq rfl⟩
 ·replace hF := ite_f hc1 hF
  refine wp_skip ?_
  refine p_then (wp_seq (f_region Z ?_)); clear Z; intro Z
  refine s_runk tRe Z 1 rfl rfl ?_; clear Z a; intro a Z
  refine s_end Z [0, 1, 5, 6, 7, 8, 9, 10] rfl ?_; clear Z; intro Z
  refine p_then ?_
  refine f_cut (fun a' w' => ∃ (out : List ENote), ∃ v7 : Value, Sl 61 [(6, .slice none 0 0), (10, v7)] a' ∧ (∃ I2, Hf I D w I2 w' [OwC NENote 82 v7 out]) ∧ F_relay_Learn_k1 out = some rr) ?_ ?_
  ·rintro a w4 ⟨out, v7, Z, ⟨I3, H⟩, hF⟩
   unfold F_relay_Learn_k1 at hF
   try dsimp only at hF
   refine wp_seq (f_region Z ?_); clear Z; intro Z
   refine s_runk tRe Z 2 rfl rfl ?_; clear Z a; intro a Z
   refine s_end Z [6] rfl ?_; clear Z; intro Z
   refine p_then (wp_ret ?_)
   obtain ⟨I4, _, H⟩ := H.frzow 0 rfl
   replace H : Hf I D w I4 w4 [SlC NENote v7 out] := H
   obtain rfl := some_in hF
   exact f_ret Z (run_results1 rfl Z rfl) ⟨v7, rfl, I4, (H.sub [(0, true)] rfl).eq rfl⟩
  ·skip
   refine wp_seq ?_
   obtain ⟨hg2, hF⟩ := chk_in hF
   refine f_region Z ?_; clear Z; intro Z
   refine s_runk tRe Z 1 rfl rfl ?_; clear Z a; intro a Z
   refine s_ob Z (v := v5_x) rfl rfl (by decide) rfl (Ob_load tRe rfl rfl rfl ((H.bx 0 rfl).cell 20 rfl)) ?_; clear Z a; intro a Z
   refine s_runk tRe Z 1 rfl rfl ?_; clear Z a; intro a Z
   replace H : Hf I D w I2 w3 [SlC Nu64 (subV v5_x ((s0 - x.p).toNat) x.stamps.length 1) (x.stamps.drop ((s0 - x.p).toNat)), BxC b1 37 (cEMsg x v2_x v3_x v4_x v5_x v6_x), SlC NEEntry v1_l l, SlC NEMember v2_x x.conf.members, SlC NEOp v3_x x.batch.ops, SlC NEEntry v4_x x.entries, SlC Nu64 v5_x x.stamps, SlC NEPair v6_x x.pairs] := H.slPart_from 5 rfl hg2 1 rfl
   refine s_ob Z (v := subV v5_x ((s0 - x.p).toNat) x.stamps.length 1) rfl rfl (by decide) rfl (Ob_sub_from tRe rfl rfl rfl rfl (H.slshape 6 rfl) hg2) ?_; clear Z a; intro a Z
   refine s_ob Z (v := .int .i64 ((x.stamps.drop ((s0 - x.p).toNat)).length : Int)) rfl rfl (by decide) rfl (Ob_slen tRe rfl rfl rfl (H.slshape 0 rfl)) ?_; clear Z a; intro a Z
   refine s_runk tRe Z 1 rfl rfl ?_; clear Z a; intro a Z
   refine s_end Z [0, 1, 6, 7, 8, 10, 33, 34, 35] rfl ?_; clear Z; intro Z
   refine p_then (wp_block ?_)
   replace H : Hf I D w I2 w3 [OwC NENote 82 (.slice none 0 0) ([] : List ENote), SlC Nu64 (subV v5_x ((s0 - x.p).toNat) x.stamps.length 1) (x.stamps.drop ((s0 - x.p).toNat)), BxC b1 37 (cEMsg x v2_x v3_x v4_x v5_x v6_x), SlC NEEntry v1_l l, SlC NEMember v2_x x.conf.members, SlC NEOp v3_x x.batch.ops, SlC NEEntry v4_x x.entries, SlC Nu64 v5_x x.stamps, SlC NEPair v6_x x.pairs] := H.nilow NENote 82
   refine f_iter hF (fun sg a' w' => match sg with | (at_, last, out_2, x_2) => ∃ v8 : Value, Sl 61 [(0, v1_l), (1, .int .i64 good), (6, .slice none 0 0), (7, .int .i64 at_), (8, .int .u64 last), (10, v8), (33, subV v5_x ((s0 - x.p).toNat) x.stamps.length 1), (34, .int .i64 ((x.stamps.drop ((s0 - x.p).toNat)).length : Int)), (35, .int .i64 x_2)] a' ∧ ∃ I2, Hf I D w I2 w' [SlC Nu64 (subV v5_x ((s0 - x.p).toNat) x.stamps.length 1) (x.stamps.drop ((s0 - x.p).toNat)), SlC NEEntry v1_l l, OwC NENote 82 v8 out_2]) ⟨.slice none 0 0, Z.sub (ts := [0, 1, 6, 7, 8, 10, 33, 34, 35]) rfl, ⟨I2, (H.sub [(1, true), (3, true), (0, false)] rfl).eq rfl⟩⟩ ?_
   clear Z H hF a
   rintro rc ⟨at_, last, out_2, x_2⟩ a w5 ⟨v8, Z, I5, H⟩ hF
   unfold F_relay_Learn_l2 at hF
   try dsimp only at hF
   refine wp_seq (f_region Z ?_); clear Z; intro Z
   refine s_runk tRe Z 1 rfl rfl ?_; clear Z a; intro a Z
   refine s_end Z [0, 1, 6, 7, 8, 10, 33, 34, 35, 36] rfl ?_; clear Z; intro Z
   refine p_then (wp_seq ?_)
   refine f_cond Z rfl (fun hc2 => ?_) (fun hc2 => ?_)
   ·replace hF := ite_t hc2 hF
    refine wp_skip ?_
    refine p_then (wp_seq ?_)
    refine wp_block ?_
    refine wp_seq ?_
    obtain ⟨hg3, hF⟩ := chk_in hF
    refine f_region Z ?_; clear Z; intro Z
    refine s_ob Z (v := .pointer (some ⟨blkOf (subV v5_x ((s0 - x.p).toNat) x.stamps.length 1), oofOf (subV v5_x ((s0 - x.p).toNat) x.stamps.length 1) + (x_2).toNat * 1, none⟩)) rfl rfl (by decide) rfl (Ob_sidx tRe rfl rfl rfl rfl (slPl (H.sl 0 rfl) hg3) hg3) ?_; clear Z a; intro a Z
    refine s_ob Z (v := .int .u64 ((x.stamps.drop ((s0 - x.p).toNat)).getD (x_2).toNat default)) rfl rfl (by decide) rfl (Ob_load tRe rfl rfl rfl ((slFl (H.sl 0 rfl) hg3) 0 _ rfl)) ?_; clear Z a; intro a Z
    refine s_runk tRe Z 1 rfl rfl ?_; clear Z a; intro a Z
    refine s_end Z [0, 1, 6, 7, 8, 10, 33, 34, 35, 36, 37, 38, 12] rfl ?_; clear Z; intro Z
    refine p_then (wp_seq ?_)
    refine wp_seq ?_
    obtain ⟨f, hx3, hF⟩ := bnd_in hF
    refine f_region Z ?_; clear Z; intro Z
    refine s_runk tRe Z 3 rfl rfl ?_; clear Z a; intro a Z
    refine s_ob Z (v := .int .i64 (l.length : Int)) rfl rfl (by decide) rfl (Ob_slen tRe rfl rfl rfl (H.slshape 1 rfl)) ?_; clear Z a; intro a Z
    refine h_call Z H (js := []) rfl (caps := #[]) fn_29_YRe rfl rfl rfl rfl rfl (by decide) rfl rfl (fun D1 hS => have hq := c_relay_fit hx3 hS; hq) ?_; clear Z a; intro vv a w6 D2 hr hF2 Z
    obtain ⟨rfl, I6, K⟩ := hr
    have H : Hf I D w I6 w6 [SlC Nu64 (subV v5_x ((s0 - x.p).toNat) x.stamps.length 1) (x.stamps.drop ((s0 - x.p).toNat)), SlC NEEntry v1_l l, OwC NENote 82 v8 out_2] := hF2 K
    clear hF2 K
    refine s_runk tRe Z 2 rfl rfl ?_; clear Z a; intro a Z
    refine g_ob Z (p := (!(decide (at_ ≥ f)))) (v := .int .u64 ((x.stamps.drop ((s0 - x.p).toNat)).getD (x_2).toNat default)) (S' := [(12, .int .u64 ((x.stamps.drop ((s0 - x.p).toNat)).getD (x_2).toNat default))]) rfl rfl rfl (wantB_f _) rfl (by decide) (fun hp hS => hS.sub (ts := [12]) rfl) (fun hp => Ob_c tRe rfl) ?_; clear Z a; intro a Z
    refine g_ob Z (p := (!(decide (at_ ≥ f)))) (v := .int .u64 last) (S' := [(8, .int .u64 last)]) rfl rfl rfl (wantB_f _) rfl (by decide) (fun hp hS => hS.sub (ts := [8]) rfl) (fun hp => Ob_c tRe rfl) ?_; clear Z a; intro a Z
    refine g_ob Z (p := (!(decide (at_ ≥ f)))) (v := .bool (decide (((x.stamps.drop ((s0 - x.p).toNat)).getD (x_2).toNat default) ≤ last))) (S' := [(46, .int .u64 ((x.stamps.drop ((s0 - x.p).toNat)).getD (x_2).toNat default)), (47, .int .u64 last)]) rfl rfl rfl (wantB_f _) rfl (by decide) (fun hp hS => ((hS.conv (t := 46) rfl (cond_t hp)).conv (t := 47) rfl (cond_t hp)).sub (ts := [46, 47]) rfl) (fun hp => Ob_c tRe rfl) ?_; clear Z a; intro a Z
    refine s_ob Z (v := .bool ((decide (at_ ≥ f)) || (decide (((x.stamps.drop ((s0 - x.p).toNat)).getD (x_2).toNat default) ≤ last)))) rfl rfl (by decide) rfl (Ob_pick rfl rfl rfl rfl (pick_or _ _)) ?_; clear Z a; intro a Z
    refine s_end Z [0, 1, 6, 7, 8, 10, 33, 34, 35, 36, 37, 38, 12, 39, 40, 41, 42, 43, 44, 45, 49] rfl ?_; clear Z; intro Z
    refine p_then ?_
    refine f_cond Z rfl (fun hc3 => ?_) (fun hc3 => ?_)
    ·replace hF := ite_t hc3 hF
     refine wp_exit ?_
     refine p_then_x ?_
     refine f_exit_out (by decide) ?_
     refine p_then_x ?_
     refine p_then_x ?_
     refine f_exit_here ?_
     refine p_then ?_
     exact ⟨out_2, v8, Z.sub (ts := [6, 10]) rfl, ⟨I6, (H.sub [(2, false)] rfl).eq rfl⟩, hF⟩
    ·replace hF := ite_f hc3 hF
     refine wp_skip ?_
     refine p_then (wp_seq ?_)
     obtain ⟨hg4, hF⟩ := chk_in hF
     refine f_region Z ?_; clear Z; intro Z
     refine s_runk tRe Z 3 rfl rfl ?_; clear Z a; intro a Z
     refine s_ob Z (v := .agg #[.int .i64 3, .int .i64 at_, .int .u64 ((x.stamps.drop ((s0 - x.p).toNat)).getD (x_2).toNat default), .int .i64 0, .slice none 0 0, .int .u64 0, .slice none 0 0, .int .i64 0, .int .i64 0, .slice none 0 0, .int .u64 0, .int .i64 0, .int .u64 0, .int .i64 0, .int .i64 0, .int .i64 0, .int .i64 0, .int .i64 0]) rfl rfl (by decide) rfl (Ob_build (vs := [(0, .int .i64 3), (1, .int .i64 at_), (2, .int .u64 ((x.stamps.drop ((s0 - x.p).toNat)).getD (x_2).toNat default))]) rfl rfl (by go_simp <;> rfl)) ?_; clear Z a; intro a Z
     refine h_bslice Z H (vs := [(0, .agg #[.int .i64 3, .int .i64 at_, .int .u64 ((x.stamps.drop ((s0 - x.p).toNat)).getD (x_2).toNat default), .int .i64 0, .slice none 0 0, .int .u64 0, .slice none 0 0, .int .i64 0, .int .i64 0, .slice none 0 0, .int .u64 0, .int .i64 0, .int .u64 0, .int .i64 0, .int .i64 0, .int .i64 0, .int .i64 0, .int .i64 0])]) (cl := [.int .i64 3, .int .i64 at_, .int .u64 ((x.stamps.drop ((s0 - x.p).toNat)).getD (x_2).toNat default), .int .i64 0, .slice none 0 0, .int .u64 0, .slice none 0 0, .int .i64 0, .int .i64 0, .slice none 0 0, .int .u64 0, .int .i64 0, .int .u64 0, .int .i64 0, .int .i64 0, .int .i64 0, .int .i64 0, .int .i64 0]) (e := 82) rfl rfl rfl (by decide) rfl rfl (fun w => run_bslice (z := .agg #[.int .i64 0, .int .i64 0, .int .u64 0, .int .i64 0, .slice none 0 0, .int .u64 0, .slice none 0 0, .int .i64 0, .int .i64 0, .slice none 0 0, .int .u64 0, .int .i64 0, .int .u64 0, .int .i64 0, .int .i64 0, .int .i64 0, .int .i64 0, .int .i64 0]) (m := 18) Try.underlying45 (by kernel_rfl) rfl rfl (by decide) (by simp [Instr.fill, Value.cells]) w) ?_; clear Z a H; intro a w7 b2 H Z
     replace H : Hf I D w I6 w7 [SlC NEMember (.slice none 0 0) ([] : List EMember), BxC b2 82 [.int .i64 3, .int .i64 at_, .int .u64 ((x.stamps.drop ((s0 - x.p).toNat)).getD (x_2).toNat default), .int .i64 0, .slice none 0 0, .int .u64 0, .slice none 0 0, .int .i64 0, .int .i64 0, .slice none 0 0, .int .u64 0, .int .i64 0, .int .u64 0, .int .i64 0, .int .i64 0, .int .i64 0, .int .i64 0, .int .i64 0], SlC Nu64 (subV v5_x ((s0 - x.p).toNat) x.stamps.length 1) (x.stamps.drop ((s0 - x.p).toNat)), SlC NEEntry v1_l l, OwC NENote 82 v8 out_2] := H.slNil NEMember
     replace H : Hf I D w I6 w7 [SlC Ni64 (.slice none 0 0) ([] : List Int), SlC NEMember (.slice none 0 0) ([] : List EMember), BxC b2 82 [.int .i64 3, .int .i64 at_, .int .u64 ((x.stamps.drop ((s0 - x.p).toNat)).getD (x_2).toNat default), .int .i64 0, .slice none 0 0, .int .u64 0, .slice none 0 0, .int .i64 0, .int .i64 0, .slice none 0 0, .int .u64 0, .int .i64 0, .int .u64 0, .int .i64 0, .int .i64 0, .int .i64 0, .int .i64 0, .int .i64 0], SlC Nu64 (subV v5_x ((s0 - x.p).toNat) x.stamps.length 1) (x.stamps.drop ((s0 - x.p).toNat)), SlC NEEntry v1_l l, OwC NENote 82 v8 out_2] := H.slNil Ni64
     replace H : Hf I D w I6 w7 [SlC NEOp (.slice none 0 0) ([] : List EOp), SlC Ni64 (.slice none 0 0) ([] : List Int), SlC NEMember (.slice none 0 0) ([] : List EMember), BxC b2 82 [.int .i64 3, .int .i64 at_, .int .u64 ((x.stamps.drop ((s0 - x.p).toNat)).getD (x_2).toNat default), .int .i64 0, .slice none 0 0, .int .u64 0, .slice none 0 0, .int .i64 0, .int .i64 0, .slice none 0 0, .int .u64 0, .int .i64 0, .int .u64 0, .int .i64 0, .int .i64 0, .int .i64 0, .int .i64 0, .int .i64 0], SlC Nu64 (subV v5_x ((s0 - x.p).toNat) x.stamps.length 1) (x.stamps.drop ((s0 - x.p).toNat)), SlC NEEntry v1_l l, OwC NENote 82 v8 out_2] := H.slNil NEOp
     refine h_appO Z H 6 E_45_YRe [({ (default : ENote) with k := 3, n := at_, at_ := ((x.stamps.drop ((s0 - x.p).toNat)).getD (x_2).toNat default) } : ENote)] rfl rfl rfl rfl rfl (by decide) rfl rfl rfl (slRep2.box1 (H.bx 3 rfl) ⟨_, _, _, rfl, (H.sl 2 rfl), (H.sl 1 rfl), (H.sl 0 rfl)⟩) hg4 (by decide) ?_; clear Z a H; intro v9 a w8 H Z
     dsimp only [List.eraseIdx] at H
     replace H : Hf I D w I6 w8 [OwC NENote 82 v9 (out_2 ++ [({ (default : ENote) with k := 3, n := at_, at_ := ((x.stamps.drop ((s0 - x.p).toNat)).getD (x_2).toNat default) } : ENote)]), SlC NEOp (.slice none 0 0) ([] : List EOp), SlC Ni64 (.slice none 0 0) ([] : List Int), SlC NEMember (.slice none 0 0) ([] : List EMember), SlC Nu64 (subV v5_x ((s0 - x.p).toNat) x.stamps.length 1) (x.stamps.drop ((s0 - x.p).toNat)), SlC NEEntry v1_l l] := H.sub [(0, false), (0, true), (1, true), (2, true), (4, true), (5, true)] rfl
     refine s_runk tRe Z 1 rfl rfl ?_; clear Z a; intro a Z
     refine s_end Z [0, 1, 6, 7, 8, 10, 33, 34, 35, 36, 37, 38, 12, 39, 40, 41, 42, 43, 44, 45, 49, 50, 51, 52, 53, 54, 55] rfl ?_; clear Z; intro Z
     refine p_then ?_
     obtain ⟨hg5, hF⟩ := chk_in hF
     refine f_region Z ?_; clear Z; intro Z
     refine s_runk tRe Z 1 rfl rfl ?_; clear Z a; intro a Z
     refine s_ob Z (v := .int .i64 (at_ + 1)) rfl rfl (by decide) rfl (Ob_add rfl rfl rfl (wrI hg5)) ?_; clear Z a; intro a Z
     refine s_runk tRe Z 3 rfl rfl ?_; clear Z a; intro a Z
     refine s_end Z [0, 1, 6, 7, 8, 10, 33, 34, 35, 36, 37, 38, 12, 39, 40, 41, 42, 43, 44, 45, 49, 50, 51, 52, 53, 54, 55, 56, 57, 58] rfl ?_; clear Z; intro Z
     refine p_blk ?_
     refine p_then ?_
     obtain ⟨hg6, hF⟩ := chk_in hF
     refine f_region Z ?_; clear Z; intro Z
     refine s_ob Z (v := .int .i64 (x_2 + 1)) rfl rfl (by decide) rfl (Ob_add rfl rfl rfl (wrI hg6)) ?_; clear Z a; intro a Z
     refine s_runk tRe Z 1 rfl rfl ?_; clear Z a; intro a Z
     refine s_end Z [0, 1, 6, 7, 8, 10, 33, 34, 35, 36, 37, 38, 12, 39, 40, 41, 42, 43, 44, 45, 49, 50, 51, 52, 53, 54, 55, 56, 57, 58, 59] rfl ?_; clear Z; intro Z
     refine p_then ?_
     exact ⟨(at_ + 1, ((x.stamps.drop ((s0 - x.p).toNat)).getD (x_2).toNat default), out_2 ++ [({ (default : ENote) with k := 3, n := at_, at_ := ((x.stamps.drop ((s0 - x.p).toNat)).getD (x_2).toNat default) } : ENote)], x_2 + 1), ⟨v9, Z.sub (ts := [0, 1, 6, 7, 8, 10, 33, 34, 35]) rfl, ⟨I6, (H.sub [(4, true), (5, true), (0, false)] rfl).eq rfl⟩⟩, hF⟩
   ·replace hF := ite_f hc2 hF
    refine wp_exit ?_
    refine p_then_x ?_
    refine p_then_x ?_
    refine f_exit_here ?_
    refine p_then ?_
    exact ⟨out_2, v8, Z.sub (ts := [6, 10]) rfl, ⟨I5, (H.sub [(2, false)] rfl).eq rfl⟩, hF⟩

def F_relay_counts (n0 : Int) (m : Int) (p : Int) : Option (Int × Int × Int) := some (n0, m, p)

set_option maxHeartbeats 1000000 in
theorem c_relay_counts {I D : Dm} {n0 : Int} {m : Int} {p : Int} {w : World} {rr : Int × Int × Int} (hF : F_relay_counts n0 m p = some rr) (H : St I D w []) :
  Calls Try.prog 34 #[.int .i64 n0, .int .i64 m, .int .i64 p] w (Ret fun vv w' => ∃ g1 g2 g3 : Nat, vv = .func (.func 54) #[] #[.pointer (some ⟨g1, 0, none⟩), .pointer (some ⟨g2, 0, none⟩), .pointer (some ⟨g3, 0, none⟩)] ∧ ∃ I', Hf I D w I' w' [BxC g1 3 [.int .i64 rr.1], BxC g2 3 [.int .i64 rr.2.1], BxC g3 3 [.int .i64 rr.2.2]]) := by
 replace H := H.hf
 unfold F_relay_counts at hF
 refine f_enter 8 Try.func34 rfl rfl (Nat.le_of_ble_eq_true rfl) fun a Z => ?_
 replace Z := Z.sub (ts := [0, 1, 2]) rfl
 refine wp_seq (f_region Z ?_); clear Z; intro Z
 refine h_boxv Z H (cl := [.int .i64 n0]) rfl rfl rfl (by decide) rfl rfl rfl ?_; clear Z a H; intro a w1 b1 H Z
 refine h_boxv Z H (cl := [.int .i64 m]) rfl rfl rfl (by decide) rfl rfl rfl ?_; clear Z a H; intro a w2 b2 H Z
 refine h_boxv Z H (cl := [.int .i64 p]) rfl rfl rfl (by decide) rfl rfl rfl ?_; clear Z a H; intro a w3 b3 H Z
 refine s_runk tRe Z 1 rfl rfl ?_; clear Z a; intro a Z
 refine s_end Z [3, 4, 5, 6] rfl ?_; clear Z; intro Z
 refine p_then (wp_seq (f_region Z ?_)); clear Z; intro Z
 refine s_runk tRe Z 2 rfl rfl ?_; clear Z a; intro a Z
 refine s_end Z [6] rfl ?_; clear Z; intro Z
 refine p_then (wp_ret ?_)
 obtain rfl := some_in hF
 exact f_ret Z (run_results1 rfl Z rfl) ⟨b1, b2, b3, rfl, I, (H.sub [(2, false), (1, false), (0, false)] rfl).eq rfl⟩

def F_relay_counts_1 (x : EMsg) (p1 : Int) (p2 : Int) (p3 : Int) : Option EMsg := some ({ x with n := max p1 0, m := max p2 0, p := max p3 0 } : EMsg)

set_option maxHeartbeats 1000000 in
theorem c_relay_counts_1 {I D : Dm} {b_x : Nat} {x : EMsg} {b_p1 : Nat} {p1 : Int} {b_p2 : Nat} {p2 : Int} {b_p3 : Nat} {p3 : Int} {w : World} {rr : EMsg} (hF : F_relay_counts_1 x p1 p2 p3 = some rr) (H : St I D w [OEMsg b_x x, BxC b_p1 3 [.int .i64 p1], BxC b_p2 3 [.int .i64 p2], BxC b_p3 3 [.int .i64 p3]]) :
  Calls Try.prog 54 #[.pointer (some ⟨b_x, 0, none⟩), .pointer (some ⟨b_p1, 0, none⟩), .pointer (some ⟨b_p2, 0, none⟩), .pointer (some ⟨b_p3, 0, none⟩)] w (Ret fun vv w' => vv = .tuple #[] ∧ ∃ I', Hf I D w I' w' [OEMsg b_x rr, BxC b_p1 3 [.int .i64 p1], BxC b_p2 3 [.int .i64 p2], BxC b_p3 3 [.int .i64 p3]]) := by
 replace H := H.hf
 unfold F_relay_counts_1 at hF
 refine f_enter 20 Try.func54 rfl rfl (Nat.le_of_ble_eq_true rfl) fun a Z => ?_
 replace Z := Z.sub (ts := [0, 1, 2, 3]) rfl
 obtain ⟨⟨v1, v2, v3, v4, v5⟩, H⟩ := H.openX 0 rfl
 replace H : Hf I D w I w [BxC b_x 37 (cEMsg x v1 v2 v3 v4 v5), SlC NEMember v1 x.conf.members, SlC NEOp v2 x.batch.ops, SlC NEEntry v3 x.entries, OwC Nu64 24 v4 x.stamps, SlC NEPair v5 x.pairs, BxC b_p1 3 [.int .i64 p1], BxC b_p2 3 [.int .i64 p2], BxC b_p3 3 [.int .i64 p3]] := H
 refine f_regionL Z (by kernel_rfl) (by kernel_rfl) (by decide) (by decide) [11, 14, 17] [(0, 0, 0), (0, 0, 1), (0, 0, 2), (0, 0, 0), (8, 0, 0), (0, 0, 1), (32, 0, 1), (0, 0, 2), (128, 0, 2), (25, 0, 0), (537, 0, 0), (1561, 0, 0), (3707, 1, 1), (7803, 1, 1), (15995, 1, 1), (32767, 2, 2), (65535, 2, 2), (131071, 2, 2)] (by kernel_rfl) (fun jj vv => cond (Nat.blt jj 9) (cond (Nat.blt jj 4) (cond (Nat.blt jj 2) (cond (Nat.blt jj 1) (vv = .pointer (some ⟨b_x, 0, none⟩)) (vv = .pointer (some ⟨b_x, 0, none⟩))) (cond (Nat.blt jj 3) (vv = .pointer (some ⟨b_x, 0, none⟩)) (vv = .int .i64 p1))) (cond (Nat.blt jj 6) (cond (Nat.blt jj 5) (vv = .int .i64 (max p1 0)) (vv = .int .i64 p2)) (cond (Nat.blt jj 7) (vv = .int .i64 (max p2 0)) (cond (Nat.blt jj 8) (vv = .int .i64 p3) (vv = .int .i64 (max p3 0)))))) (cond (Nat.blt jj 13) (cond (Nat.blt jj 11) (cond (Nat.blt jj 10) (vv = .pointer (some ⟨b_x, 0, none⟩)) (vv = .pointer (some ⟨b_x, 7, none⟩))) (cond (Nat.blt jj 12) (True) (vv = .pointer (some ⟨b_x, 0, none⟩)))) (cond (Nat.blt jj 15) (cond (Nat.blt jj 14) (vv = .pointer (some ⟨b_x, 8, none⟩)) (True)) (cond (Nat.blt jj 16) (vv = .pointer (some ⟨b_x, 0, none⟩)) (cond (Nat.blt jj 17) (vv = .pointer (some ⟨b_x, 9, none⟩)) (True)))))) (fun ss vals1 xw => match ss with | 0 => Gx I D w I w xw [BxC b_x 37 (cEMsg x v1 v2 v3 v4 v5), SlC NEMember v1 x.conf.members, SlC NEOp v2 x.batch.ops, SlC NEEntry v3 x.entries, OwC Nu64 24 v4 x.stamps, SlC NEPair v5 x.pairs, BxC b_p1 3 [.int .i64 p1], BxC b_p2 3 [.int .i64 p2], BxC b_p3 3 [.int .i64 p3]] | 1 => Gx I D w I w xw [BxC b_x 37 [.int .i64 x.k, .int .i64 x.epoch, .int .i64 x.req, .int .i64 x.serial, .bool x.flag, .int .u64 x.at_, .int .u64 x.last, .int .i64 (max p1 0), .int .i64 x.m, .int .i64 x.p, .int .i64 x.e, .string x.key, .string x.to_, .int .i64 x.conf.epoch, v1, .int .u64 x.conf.floor, .int .i64 x.batch.client, .int .i64 x.batch.req, v2, v3, v4, v5], SlC NEMember v1 x.conf.members, SlC NEOp v2 x.batch.ops, SlC NEEntry v3 x.entries, OwC Nu64 24 v4 x.stamps, SlC NEPair v5 x.pairs, BxC b_p1 3 [.int .i64 p1], BxC b_p2 3 [.int .i64 p2], BxC b_p3 3 [.int .i64 p3]] | 2 => Gx I D w I w xw [BxC b_x 37 [.int .i64 x.k, .int .i64 x.epoch, .int .i64 x.req, .int .i64 x.serial, .bool x.flag, .int .u64 x.at_, .int .u64 x.last, .int .i64 (max p1 0), .int .i64 (max p2 0), .int .i64 x.p, .int .i64 x.e, .string x.key, .string x.to_, .int .i64 x.conf.epoch, v1, .int .u64 x.conf.floor, .int .i64 x.batch.client, .int .i64 x.batch.req, v2, v3, v4, v5], SlC NEMember v1 x.conf.members, SlC NEOp v2 x.batch.ops, SlC NEEntry v3 x.entries, OwC Nu64 24 v4 x.stamps, SlC NEPair v5 x.pairs, BxC b_p1 3 [.int .i64 p1], BxC b_p2 3 [.int .i64 p2], BxC b_p3 3 [.int .i64 p3]] | _ => Gx I D w I w xw [BxC b_x 37 [.int .i64 x.k, .int .i64 x.epoch, .int .i64 x.req, .int .i64 x.serial, .bool x.flag, .int .u64 x.at_, .int .u64 x.last, .int .i64 (max p1 0), .int .i64 (max p2 0), .int .i64 (max p3 0), .int .i64 x.e, .string x.key, .string x.to_, .int .i64 x.conf.epoch, v1, .int .u64 x.conf.floor, .int .i64 x.batch.client, .int .i64 x.batch.req, v2, v3, v4, v5], SlC NEMember v1 x.conf.members, SlC NEOp v2 x.batch.ops, SlC NEEntry v3 x.entries, OwC Nu64 24 v4 x.stamps, SlC NEPair v5 x.pairs, BxC b_p1 3 [.int .i64 p1], BxC b_p2 3 [.int .i64 p2], BxC b_p3 3 [.int .i64 p3]]) (fun _ => Gx.start H) ?_ ?_
 ·intro fr hfr hfe
  refine .cons (fun ss hlo hhi vals1 xw hG hV => ?_) ?_
  ·obtain rfl : ss = 0 := Nat.le_antisymm hhi hlo
   rw [← hfe]
   have hS := (hfr vals1).sub (ts := [0]) (S' := [(0, .pointer (some ⟨b_x, 0, none⟩))]) rfl
   exact L_val hS rfl (Ob_c tRe rfl) ⟨rfl, hG⟩
  refine .cons (fun ss hlo hhi vals1 xw hG hV => ?_) ?_
  ·obtain rfl | rfl : ss = 0 ∨ ss = 1 := st1 hlo hhi
   all_goals
   ·rw [← hfe]
    have hS := (hfr vals1).sub (ts := [0]) (S' := [(0, .pointer (some ⟨b_x, 0, none⟩))]) rfl
    exact L_val hS rfl (Ob_c tRe rfl) ⟨rfl, hG⟩
  refine .cons (fun ss hlo hhi vals1 xw hG hV => ?_) ?_
  ·obtain rfl | rfl | rfl : ss = 0 ∨ ss = 1 ∨ ss = 2 := st2 hlo hhi
   all_goals
   ·rw [← hfe]
    have hS := (hfr vals1).sub (ts := [0]) (S' := [(0, .pointer (some ⟨b_x, 0, none⟩))]) rfl
    exact L_val hS rfl (Ob_c tRe rfl) ⟨rfl, hG⟩
  refine .cons (fun ss hlo hhi vals1 xw hG hV => ?_) ?_
  ·obtain rfl : ss = 0 := Nat.le_antisymm hhi hlo
   rw [← hfe]
   have hS := (hfr vals1).sub (ts := [1]) (S' := [(1, .pointer (some ⟨b_p1, 0, none⟩))]) rfl
   obtain ⟨I2, hI2, H⟩ := Gx.ex hG
   exact L_val hS rfl (Ob_load tRe rfl rfl rfl ((H.bx 6 rfl).cell 0 rfl)) ⟨rfl, hG⟩
  refine .cons (fun ss hlo hhi vals1 xw hG hV => ?_) ?_
  ·obtain rfl : ss = 0 := Nat.le_antisymm hhi hlo
   rw [← hfe]
   have hS := (hfr vals1).sub (ts := [8]) (S' := [(8, vals1 3)]) rfl
   replace hS := hS.conv (t := 8) rfl (show (vals1 3) = .int .i64 p1 from hV 3 (by decide))
   exact L_val hS rfl (Ob_c tRe rfl) ⟨rfl, hG⟩
  refine .cons (fun ss hlo hhi vals1 xw hG hV => ?_) ?_
  ·obtain rfl | rfl : ss = 0 ∨ ss = 1 := st1 hlo hhi
   all_goals
   ·rw [← hfe]
    have hS := (hfr vals1).sub (ts := [2]) (S' := [(2, .pointer (some ⟨b_p2, 0, none⟩))]) rfl
    obtain ⟨I2, hI2, H⟩ := Gx.ex hG
    exact L_val hS rfl (Ob_load tRe rfl rfl rfl ((H.bx 7 rfl).cell 0 rfl)) ⟨rfl, hG⟩
  refine .cons (fun ss hlo hhi vals1 xw hG hV => ?_) ?_
  ·obtain rfl | rfl : ss = 0 ∨ ss = 1 := st1 hlo hhi
   all_goals
   ·rw [← hfe]
    have hS := (hfr vals1).sub (ts := [10]) (S' := [(10, vals1 5)]) rfl
    replace hS := hS.conv (t := 10) rfl (show (vals1 5) = .int .i64 p2 from hV 5 (by decide))
    exact L_val hS rfl (Ob_c tRe rfl) ⟨rfl, hG⟩
  refine .cons (fun ss hlo hhi vals1 xw hG hV => ?_) ?_
  ·obtain rfl | rfl | rfl : ss = 0 ∨ ss = 1 ∨ ss = 2 := st2 hlo hhi
   all_goals
   ·rw [← hfe]
    have hS := (hfr vals1).sub (ts := [3]) (S' := [(3, .pointer (some ⟨b_p3, 0, none⟩))]) rfl
    obtain ⟨I2, hI2, H⟩ := Gx.ex hG
    exact L_val hS rfl (Ob_load tRe rfl rfl rfl ((H.bx 8 rfl).cell 0 rfl)) ⟨rfl, hG⟩
  refine .cons (fun ss hlo hhi vals1 xw hG hV => ?_) ?_
  ·obtain rfl | rfl | rfl : ss = 0 ∨ ss = 1 ∨ ss = 2 := st2 hlo hhi
   all_goals
   ·rw [← hfe]
    have hS := (hfr vals1).sub (ts := [12]) (S' := [(12, vals1 7)]) rfl
    replace hS := hS.conv (t := 12) rfl (show (vals1 7) = .int .i64 p3 from hV 7 (by decide))
    exact L_val hS rfl (Ob_c tRe rfl) ⟨rfl, hG⟩
  refine .cons (fun ss hlo hhi vals1 xw hG hV => ?_) ?_
  ·obtain rfl : ss = 0 := Nat.le_antisymm hhi hlo
   rw [← hfe]
   have hS := (hfr vals1).sub (ts := [5]) (S' := [(5, vals1 0)]) rfl
   replace hS := hS.conv (t := 5) rfl (show (vals1 0) = .pointer (some ⟨b_x, 0, none⟩) from hV 0 (by decide))
   exact L_val hS rfl (Ob_c tRe rfl) ⟨rfl, hG⟩
  refine .cons (fun ss hlo hhi vals1 xw hG hV => ?_) ?_
  ·obtain rfl : ss = 0 := Nat.le_antisymm hhi hlo
   rw [← hfe]
   have hS := (hfr vals1).sub (ts := [14]) (S' := [(14, vals1 9)]) rfl
   replace hS := hS.conv (t := 14) rfl (show (vals1 9) = .pointer (some ⟨b_x, 0, none⟩) from hV 9 (by decide))
   exact L_val hS rfl (Ob_c tRe rfl) ⟨rfl, hG⟩
  refine .cons (fun ss hlo hhi vals1 xw hG hV => ?_) ?_
  ·obtain rfl : ss = 0 := Nat.le_antisymm hhi hlo
   rw [← hfe]
   have hS := (hfr vals1).sub (ts := [15, 9]) (S' := [(15, vals1 10), (9, vals1 4)]) rfl
   replace hS := hS.conv (t := 15) rfl (show (vals1 10) = .pointer (some ⟨b_x, 7, none⟩) from hV 10 (by decide))
   replace hS := hS.conv (t := 9) rfl (show (vals1 4) = .int .i64 (max p1 0) from hV 4 (by decide))
   obtain ⟨I2, hI2, H⟩ := Gx.ex hG
   exact L_store tRe H 0 rfl hS rfl rfl rfl rfl rfl rfl rfl rfl (one_cons rfl one_nil) (Nat.le_of_ble_eq_true rfl) rfl fun yw hK H => ⟨trivial, Gx.go hG hI2 hK (fun _ h => h) H⟩
  refine .cons (fun ss hlo hhi vals1 xw hG hV => ?_) ?_
  ·obtain rfl : ss = 1 := Nat.le_antisymm hhi hlo
   rw [← hfe]
   have hS := (hfr vals1).sub (ts := [6]) (S' := [(6, vals1 1)]) rfl
   replace hS := hS.conv (t := 6) rfl (show (vals1 1) = .pointer (some ⟨b_x, 0, none⟩) from hV 1 (by decide))
   exact L_val hS rfl (Ob_c tRe rfl) ⟨rfl, hG⟩
  refine .cons (fun ss hlo hhi vals1 xw hG hV => ?_) ?_
  ·obtain rfl : ss = 1 := Nat.le_antisymm hhi hlo
   rw [← hfe]
   have hS := (hfr vals1).sub (ts := [16]) (S' := [(16, vals1 12)]) rfl
   replace hS := hS.conv (t := 16) rfl (show (vals1 12) = .pointer (some ⟨b_x, 0, none⟩) from hV 12 (by decide))
   exact L_val hS rfl (Ob_c tRe rfl) ⟨rfl, hG⟩
  refine .cons (fun ss hlo hhi vals1 xw hG hV => ?_) ?_
  ·obtain rfl : ss = 1 := Nat.le_antisymm hhi hlo
   rw [← hfe]
   have hS := (hfr vals1).sub (ts := [17, 11]) (S' := [(17, vals1 13), (11, vals1 6)]) rfl
   replace hS := hS.conv (t := 17) rfl (show (vals1 13) = .pointer (some ⟨b_x, 8, none⟩) from hV 13 (by decide))
   replace hS := hS.conv (t := 11) rfl (show (vals1 6) = .int .i64 (max p2 0) from hV 6 (by decide))
   obtain ⟨I2, hI2, H⟩ := Gx.ex hG
   exact L_store tRe H 0 rfl hS rfl rfl rfl rfl rfl rfl rfl rfl (one_cons rfl one_nil) (Nat.le_of_ble_eq_true rfl) rfl fun yw hK H => ⟨trivial, Gx.go hG hI2 hK (fun _ h => h) H⟩
  refine .cons (fun ss hlo hhi vals1 xw hG hV => ?_) ?_
  ·obtain rfl : ss = 2 := Nat.le_antisymm hhi hlo
   rw [← hfe]
   have hS := (hfr vals1).sub (ts := [7]) (S' := [(7, vals1 2)]) rfl
   replace hS := hS.conv (t := 7) rfl (show (vals1 2) = .pointer (some ⟨b_x, 0, none⟩) from hV 2 (by decide))
   exact L_val hS rfl (Ob_c tRe rfl) ⟨rfl, hG⟩
  refine .cons (fun ss hlo hhi vals1 xw hG hV => ?_) ?_
  ·obtain rfl : ss = 2 := Nat.le_antisymm hhi hlo
   rw [← hfe]
   have hS := (hfr vals1).sub (ts := [18]) (S' := [(18, vals1 15)]) rfl
   replace hS := hS.conv (t := 18) rfl (show (vals1 15) = .pointer (some ⟨b_x, 0, none⟩) from hV 15 (by decide))
   exact L_val hS rfl (Ob_c tRe rfl) ⟨rfl, hG⟩
  refine .cons (fun ss hlo hhi vals1 xw hG hV => ?_) ?_
  ·obtain rfl : ss = 2 := Nat.le_antisymm hhi hlo
   rw [← hfe]
   have hS := (hfr vals1).sub (ts := [19, 13]) (S' := [(19, vals1 16), (13, vals1 8)]) rfl
   replace hS := hS.conv (t := 19) rfl (show (vals1 16) = .pointer (some ⟨b_x, 9, none⟩) from hV 16 (by decide))
   replace hS := hS.conv (t := 13) rfl (show (vals1 8) = .int .i64 (max p3 0) from hV 8 (by decide))
   obtain ⟨I2, hI2, H⟩ := Gx.ex hG
   exact L_store tRe H 0 rfl hS rfl rfl rfl rfl rfl rfl rfl rfl (one_cons rfl one_nil) (Nat.le_of_ble_eq_true rfl) rfl fun yw hK H => ⟨trivial, Gx.go hG hI2 hK (fun _ h => h) H⟩
  exact .nil
 ·intro vals1 a w1 Z hG hV
  replace Z := Z.sub (ts := []) (S' := []) rfl
  obtain ⟨I1, _, H⟩ := Gx.ex hG
  clear hG hV
  replace Z := Z.sub (ts := []) rfl
  replace H : Hf I D w I1 w1 [BxC b_x 37 [.int .i64 x.k, .int .i64 x.epoch, .int .i64 x.req, .int .i64 x.serial, .bool x.flag, .int .u64 x.at_, .int .u64 x.last, .int .i64 (max p1 0), .int .i64 (max p2 0), .int .i64 (max p3 0), .int .i64 x.e, .string x.key, .string x.to_, .int .i64 x.conf.epoch, v1, .int .u64 x.conf.floor, .int .i64 x.batch.client, .int .i64 x.batch.req, v2, v3, v4, v5], SlC NEMember v1 x.conf.members, SlC NEOp v2 x.batch.ops, SlC NEEntry v3 x.entries, OwC Nu64 24 v4 x.stamps, SlC NEPair v5 x.pairs, BxC b_p1 3 [.int .i64 p1], BxC b_p2 3 [.int .i64 p2], BxC b_p3 3 [.int .i64 p3]] := H
  replace H : Hf I D w I1 w1 [OEMsg b_x ({ x with n := max p1 0, m := max p2 0, p := max p3 0 } : EMsg), SlC NEMember v1 x.conf.members, SlC NEOp v2 x.batch.ops, SlC NEEntry v3 x.entries, SlC NEPair v5 x.pairs, BxC b_p1 3 [.int .i64 p1], BxC b_p2 3 [.int .i64 p2], BxC b_p3 3 [.int .i64 p3]] := H.shutX (v1, v2, v3, v4, v5) [(0, false), (0, true), (1, true), (2, true), (3, false), (3, true)] rfl
  obtain rfl := some_in hF
  exact f_fall Z (run_results0 rfl) ⟨rfl, I1, (H.sub [(0, false), (4, false), (4, false), (4, false)] rfl).eq rfl⟩

def F_relay_Ack_1_l1 (p1 : List EEntry) (p2 : Int) (p3 : Int) (rc : (Int × EMsg) → Option EMsg) (sg : Int × EMsg) : Option EMsg := match sg with | (x_2, x_3) => if (decide (x_2 < (((p1.take ((min p3 (p2 + 8)).toNat)).drop ((p2).toNat)).length : Int))) = true then (chk ((0 : Int) ≤ x_2 ∧ x_2 < (((p1.take ((min p3 (p2 + 8)).toNat)).drop ((p2).toNat)).length : Int)) (if (((((p1.take ((min p3 (p2 + 8)).toNat)).drop ((p2).toNat)).getD (x_2).toNat default).ts) == 0) = true then (some x_3) else (chk (((x_3.stamps.length + [(((p1.take ((min p3 (p2 + 8)).toNat)).drop ((p2).toNat)).getD (x_2).toNat default).ts].length : Nat) : Int) * 8 ≤ 140737488355328) (chk (inI (x_2 + 1)) (rc (x_2 + 1, ({ x_3 with stamps := x_3.stamps ++ [(((p1.take ((min p3 (p2 + 8)).toNat)).drop ((p2).toNat)).getD (x_2).toNat default).ts] } : EMsg))))))) else (some x_3)

def F_relay_Ack_1 (x : EMsg) (p1 : List EEntry) (p2 : Int) (p3 : Int) : Option EMsg := chk (inI (p2 + 8)) (chk ((0 : Int) ≤ p2 ∧ p2 ≤ min p3 (p2 + 8) ∧ min p3 (p2 + 8) ≤ (p1.length : Int)) (iter (F_relay_Ack_1_l1 p1 p2 p3) FU (0, x)))

set_option maxHeartbeats 1000000 in
theorem c_relay_Ack_1 {I D : Dm} {b_x : Nat} {x : EMsg} {b_p1 : Nat} {p1 : List EEntry} {v1_p1 : Value} {b_p2 : Nat} {p2 : Int} {b_p3 : Nat} {p3 : Int} {w : World} {rr : EMsg} (hF : F_relay_Ack_1 x p1 p2 p3 = some rr) (H : St I D w [OEMsg b_x x, BxC b_p1 22 [v1_p1], SlC NEEntry v1_p1 p1, BxC b_p2 3 [.int .i64 p2], BxC b_p3 3 [.int .i64 p3]]) :
  Calls Try.prog 36 #[.pointer (some ⟨b_x, 0, none⟩), .pointer (some ⟨b_p1, 0, none⟩), .pointer (some ⟨b_p2, 0, none⟩), .pointer (some ⟨b_p3, 0, none⟩)] w (Ret fun vv w' => vv = .tuple #[] ∧ ∃ I', Hf I D w I' w' [OEMsg b_x rr, BxC b_p1 22 [v1_p1], BxC b_p2 3 [.int .i64 p2], BxC b_p3 3 [.int .i64 p3]]) := by
 replace H := H.hf
 unfold F_relay_Ack_1 at hF
 refine f_enter 34 Try.func36 rfl rfl (Nat.le_of_ble_eq_true rfl) fun a Z => ?_
 replace Z := Z.sub (ts := [0, 1, 2, 3]) rfl
 refine wp_seq ?_
 obtain ⟨hg1, hF⟩ := chk_in hF
 obtain ⟨hg2, hF⟩ := chk_in hF
 refine f_region Z ?_; clear Z; intro Z
 refine s_ob Z (v := v1_p1) rfl rfl (by decide) rfl (Ob_load tRe rfl rfl rfl ((H.bx 1 rfl).cell 0 rfl)) ?_; clear Z a; intro a Z
 refine s_ob Z (v := .int .i64 p2) rfl rfl (by decide) rfl (Ob_load tRe rfl rfl rfl ((H.bx 3 rfl).cell 0 rfl)) ?_; clear Z a; intro a Z
 refine s_ob Z (v := .int .i64 p3) rfl rfl (by decide) rfl (Ob_load tRe rfl rfl rfl ((H.bx 4 rfl).cell 0 rfl)) ?_; clear Z a; intro a Z
 refine s_ob Z (v := .int .i64 p2) rfl rfl (by decide) rfl (Ob_load tRe rfl rfl rfl ((H.bx 3 rfl).cell 0 rfl)) ?_; clear Z a; intro a Z
 refine s_ob Z (v := .int .i64 (p2 + 8)) rfl rfl (by decide) rfl (Ob_add rfl rfl rfl (wrI hg1)) ?_; clear Z a; intro a Z
 refine s_runk tRe Z 1 rfl rfl ?_; clear Z a; intro a Z
 replace H : Hf I D w I w [SlC NEEntry (subV v1_p1 ((p2).toNat) ((min p3 (p2 + 8)).toNat) 4) ((p1.take ((min p3 (p2 + 8)).toNat)).drop ((p2).toNat)), OEMsg b_x x, BxC b_p1 22 [v1_p1], SlC NEEntry v1_p1 p1, BxC b_p2 3 [.int .i64 p2], BxC b_p3 3 [.int .i64 p3]] := H.slPart_of 2 rfl hg2 4 rfl
 refine s_ob Z (v := subV v1_p1 ((p2).toNat) ((min p3 (p2 + 8)).toNat) 4) rfl rfl (by decide) rfl (Ob_sub_of tRe rfl rfl rfl rfl rfl (H.slshape 3 rfl) hg2) ?_; clear Z a; intro a Z
 refine s_ob Z (v := .int .i64 (((p1.take ((min p3 (p2 + 8)).toNat)).drop ((p2).toNat)).length : Int)) rfl rfl (by decide) rfl (Ob_slen tRe rfl rfl rfl (H.slshape 0 rfl)) ?_; clear Z a; intro a Z
 refine s_runk tRe Z 1 rfl rfl ?_; clear Z a; intro a Z
 refine s_end Z [0, 13, 14, 15] rfl ?_; clear Z; intro Z
 refine p_then (wp_block ?_)
 refine f_iter hF (fun sg a' w' => match sg with | (x_2, x_3) => Sl 34 [(0, .pointer (some ⟨b_x, 0, none⟩)), (13, subV v1_p1 ((p2).toNat) ((min p3 (p2 + 8)).toNat) 4), (14, .int .i64 (((p1.take ((min p3 (p2 + 8)).toNat)).drop ((p2).toNat)).length : Int)), (15, .int .i64 x_2)] a' ∧ ∃ I2, Hf I D w I2 w' [OEMsg b_x x_3, BxC b_p1 22 [v1_p1], BxC b_p2 3 [.int .i64 p2], BxC b_p3 3 [.int .i64 p3], SlC NEEntry (subV v1_p1 ((p2).toNat) ((min p3 (p2 + 8)).toNat) 4) ((p1.take ((min p3 (p2 + 8)).toNat)).drop ((p2).toNat)), SlC NEEntry v1_p1 p1]) ⟨Z.sub (ts := [0, 13, 14, 15]) rfl, ⟨I, (H.sub [(1, false), (1, false), (2, false), (2, false), (0, true), (1, true)] rfl).eq rfl⟩⟩ ?_
 clear Z H hF a
 rintro rc ⟨x_2, x_3⟩ a w1 ⟨Z, I1, H⟩ hF
 unfold F_relay_Ack_1_l1 at hF
 try dsimp only at hF
 refine wp_seq (f_region Z ?_); clear Z; intro Z
 refine s_runk tRe Z 1 rfl rfl ?_; clear Z a; intro a Z
 refine s_end Z [0, 13, 14, 15, 16] rfl ?_; clear Z; intro Z
 refine p_then (wp_seq ?_)
 refine f_cond Z rfl (fun hc1 => ?_) (fun hc1 => ?_)
 ·replace hF := ite_t hc1 hF
  refine wp_skip ?_
  refine p_then (wp_seq ?_)
  refine wp_block ?_
  refine wp_seq ?_
  obtain ⟨hg3, hF⟩ := chk_in hF
  refine f_region Z ?_; clear Z; intro Z
  refine s_ob Z (v := .pointer (some ⟨blkOf (subV v1_p1 ((p2).toNat) ((min p3 (p2 + 8)).toNat) 4), oofOf (subV v1_p1 ((p2).toNat) ((min p3 (p2 + 8)).toNat) 4) + (x_2).toNat * 4, none⟩)) rfl rfl (by decide) rfl (Ob_sidx tRe rfl rfl rfl rfl (slPl (H.sl 4 rfl) hg3) hg3) ?_; clear Z a; intro a Z
  obtain ⟨_, ⟨u1, rfl, L1⟩, H⟩ := H.elG 4 rfl (x_2) (NEEntry.dft _ _)
  replace H := H.addsl L1
  replace H : Hf I D w I1 w1 [SlC NEOp u1 (((((p1.take ((min p3 (p2 + 8)).toNat)).drop ((p2).toNat)).getD (x_2).toNat default).batch).ops), AtG ((0 : Int) ≤ x_2 ∧ x_2 < (((p1.take ((min p3 (p2 + 8)).toNat)).drop ((p2).toNat)).length : Int)) (blkOf (subV v1_p1 ((p2).toNat) ((min p3 (p2 + 8)).toNat) 4)) (oofOf (subV v1_p1 ((p2).toNat) ((min p3 (p2 + 8)).toNat) 4) + (x_2).toNat * 4) [.int .i64 (((((p1.take ((min p3 (p2 + 8)).toNat)).drop ((p2).toNat)).getD (x_2).toNat default).batch).client), .int .i64 (((((p1.take ((min p3 (p2 + 8)).toNat)).drop ((p2).toNat)).getD (x_2).toNat default).batch).req), u1, .int .u64 ((((p1.take ((min p3 (p2 + 8)).toNat)).drop ((p2).toNat)).getD (x_2).toNat default).ts)], OEMsg b_x x_3, BxC b_p1 22 [v1_p1], BxC b_p2 3 [.int .i64 p2], BxC b_p3 3 [.int .i64 p3], SlC NEEntry (subV v1_p1 ((p2).toNat) ((min p3 (p2 + 8)).toNat) 4) ((p1.take ((min p3 (p2 + 8)).toNat)).drop ((p2).toNat)), SlC NEEntry v1_p1 p1] := H
  refine s_ob Z (v := .agg #[.int .i64 (((((p1.take ((min p3 (p2 + 8)).toNat)).drop ((p2).toNat)).getD (x_2).toNat default).batch).client), .int .i64 (((((p1.take ((min p3 (p2 + 8)).toNat)).drop ((p2).toNat)).getD (x_2).toNat default).batch).req), u1, .int .u64 ((((p1.take ((min p3 (p2 + 8)).toNat)).drop ((p2).toNat)).getD (x_2).toNat default).ts)]) rfl rfl (by decide) rfl (Ob_loads tRe rfl rfl rfl ((H.atg 1 rfl hg3).part 0 rfl)) ?_; clear Z a; intro a Z
  refine h_alloc Z H (cl := [.int .i64 0, .int .i64 0, .slice none 0 0, .int .u64 0]) (z := .agg #[.int .i64 0, .int .i64 0, .slice none 0 0, .int .u64 0]) rfl rfl rfl (by decide) rfl (by kernel_rfl) rfl ?_; clear Z a H; intro a w2 b1 H Z
  refine h_store tRe Z H 0 rfl rfl rfl rfl rfl rfl rfl rfl rfl (one_cons rfl (one_cons rfl (one_cons (slS.one (H.slshape 1 rfl)) (one_cons rfl one_nil)))) (Nat.le_of_ble_eq_true rfl) rfl ?_; clear H; intro w3 H
  dsimp only [List.eraseIdx] at H
  refine s_end Z [0, 13, 14, 15, 16, 17, 18, 6] rfl ?_; clear Z; intro Z
  refine p_then (wp_seq ?_)
  refine wp_seq (f_region Z ?_); clear Z; intro Z
  refine s_runk tRe Z 1 rfl rfl ?_; clear Z a; intro a Z
  refine s_ob Z (v := .int .u64 ((((p1.take ((min p3 (p2 + 8)).toNat)).drop ((p2).toNat)).getD (x_2).toNat default).ts)) rfl rfl (by decide) rfl (Ob_load tRe rfl rfl rfl ((H.bx 0 rfl).cell 3 rfl)) ?_; clear Z a; intro a Z
  refine s_runk tRe Z 1 rfl rfl ?_; clear Z a; intro a Z
  refine s_end Z [0, 13, 14, 15, 16, 17, 18, 6, 19, 20, 21] rfl ?_; clear Z; intro Z
  refine p_then ?_
  refine f_cond Z rfl (fun hc2 => ?_) (fun hc2 => ?_)
  ·replace hF := ite_t hc2 hF
   refine wp_ret ?_
   refine p_then_r ?_
   refine p_blk_r ?_
   refine p_then_r ?_
   refine p_then_r ?_
   refine p_blk_r ?_
   obtain rfl := some_in hF
   exact f_ret Z (run_results0 rfl) ⟨rfl, I1, (H.sub [(3, false), (3, false), (3, false), (3, false)] rfl).eq rfl⟩
  ·replace hF := ite_f hc2 hF
   refine wp_skip ?_
   refine p_then ?_
   obtain ⟨⟨v2, v3, v4, v5, v6⟩, H⟩ := H.openX 3 rfl
   replace H : Hf I D w I1 w3 [BxC b_x 37 (cEMsg x_3 v2 v3 v4 v5 v6), SlC NEMember v2 x_3.conf.members, SlC NEOp v3 x_3.batch.ops, SlC NEEntry v4 x_3.entries, OwC Nu64 24 v5 x_3.stamps, SlC NEPair v6 x_3.pairs, BxC b1 57 [.int .i64 (((((p1.take ((min p3 (p2 + 8)).toNat)).drop ((p2).toNat)).getD (x_2).toNat default).batch).client), .int .i64 (((((p1.take ((min p3 (p2 + 8)).toNat)).drop ((p2).toNat)).getD (x_2).toNat default).batch).req), u1, .int .u64 ((((p1.take ((min p3 (p2 + 8)).toNat)).drop ((p2).toNat)).getD (x_2).toNat default).ts)], SlC NEOp u1 (((((p1.take ((min p3 (p2 + 8)).toNat)).drop ((p2).toNat)).getD (x_2).toNat default).batch).ops), AtG ((0 : Int) ≤ x_2 ∧ x_2 < (((p1.take ((min p3 (p2 + 8)).toNat)).drop ((p2).toNat)).length : Int)) (blkOf (subV v1_p1 ((p2).toNat) ((min p3 (p2 + 8)).toNat) 4)) (oofOf (subV v1_p1 ((p2).toNat) ((min p3 (p2 + 8)).toNat) 4) + (x_2).toNat * 4) [.int .i64 (((((p1.take ((min p3 (p2 + 8)).toNat)).drop ((p2).toNat)).getD (x_2).toNat default).batch).client), .int .i64 (((((p1.take ((min p3 (p2 + 8)).toNat)).drop ((p2).toNat)).getD (x_2).toNat default).batch).req), u1, .int .u64 ((((p1.take ((min p3 (p2 + 8)).toNat)).drop ((p2).toNat)).getD (x_2).toNat default).ts)], BxC b_p1 22 [v1_p1], BxC b_p2 3 [.int .i64 p2], BxC b_p3 3 [.int .i64 p3], SlC NEEntry (subV v1_p1 ((p2).toNat) ((min p3 (p2 + 8)).toNat) 4) ((p1.take ((min p3 (p2 + 8)).toNat)).drop ((p2).toNat)), SlC NEEntry v1_p1 p1] := H
   obtain ⟨hg4, hF⟩ := chk_in hF
   refine f_regionL Z (by kernel_rfl) (by kernel_rfl) (by decide) (by decide) [7, 8, 11] [(0, 0, 2), (0, 0, 1), (2, 0, 1), (6, 0, 1), (14, 0, 1), (0, 0, 0), (32, 0, 0), (96, 0, 0), (254, 1, 1), (511, 2, 2), (1023, 2, 2), (2047, 2, 2)] (by kernel_rfl) (fun jj vv => match jj with | 0 => vv = .pointer (some ⟨b_x, 0, none⟩) | 1 => vv = .pointer (some ⟨b_x, 0, none⟩) | 2 => vv = .pointer (some ⟨b_x, 0, none⟩) | 3 => vv = .pointer (some ⟨b_x, 20, none⟩) | 4 => vv = v5 | 5 => vv = .pointer (some ⟨b1, 3, none⟩) | 6 => vv = .int .u64 ((((p1.take ((min p3 (p2 + 8)).toNat)).drop ((p2).toNat)).getD (x_2).toNat default).ts) | 7 => vv = .slice (some ⟨blkOf vv, 0, none⟩) 1 1 | 8 => True | 9 => vv = .pointer (some ⟨b_x, 0, none⟩) | 10 => vv = .pointer (some ⟨b_x, 20, none⟩) | 11 => True | _ => True) (fun ss vals1 xw => match ss with | 0 => Gx I D w I1 w3 xw [BxC b_x 37 (cEMsg x_3 v2 v3 v4 v5 v6), SlC NEMember v2 x_3.conf.members, SlC NEOp v3 x_3.batch.ops, SlC NEEntry v4 x_3.entries, OwC Nu64 24 v5 x_3.stamps, SlC NEPair v6 x_3.pairs, BxC b1 57 [.int .i64 (((((p1.take ((min p3 (p2 + 8)).toNat)).drop ((p2).toNat)).getD (x_2).toNat default).batch).client), .int .i64 (((((p1.take ((min p3 (p2 + 8)).toNat)).drop ((p2).toNat)).getD (x_2).toNat default).batch).req), u1, .int .u64 ((((p1.take ((min p3 (p2 + 8)).toNat)).drop ((p2).toNat)).getD (x_2).toNat default).ts)], SlC NEOp u1 (((((p1.take ((min p3 (p2 + 8)).toNat)).drop ((p2).toNat)).getD (x_2).toNat default).batch).ops), AtG ((0 : Int) ≤ x_2 ∧ x_2 < (((p1.take ((min p3 (p2 + 8)).toNat)).drop ((p2).toNat)).length : Int)) (blkOf (subV v1_p1 ((p2).toNat) ((min p3 (p2 + 8)).toNat) 4)) (oofOf (subV v1_p1 ((p2).toNat) ((min p3 (p2 + 8)).toNat) 4) + (x_2).toNat * 4) [.int .i64 (((((p1.take ((min p3 (p2 + 8)).toNat)).drop ((p2).toNat)).getD (x_2).toNat default).batch).client), .int .i64 (((((p1.take ((min p3 (p2 + 8)).toNat)).drop ((p2).toNat)).getD (x_2).toNat default).batch).req), u1, .int .u64 ((((p1.take ((min p3 (p2 + 8)).toNat)).drop ((p2).toNat)).getD (x_2).toNat default).ts)], BxC b_p1 22 [v1_p1], BxC b_p2 3 [.int .i64 p2], BxC b_p3 3 [.int .i64 p3], SlC NEEntry (subV v1_p1 ((p2).toNat) ((min p3 (p2 + 8)).toNat) 4) ((p1.take ((min p3 (p2 + 8)).toNat)).drop ((p2).toNat)), SlC NEEntry v1_p1 p1] | 1 => Gx I D w I1 w3 xw [BxC (blkOf (vals1 7)) 24 [.int .u64 ((((p1.take ((min p3 (p2 + 8)).toNat)).drop ((p2).toNat)).getD (x_2).toNat default).ts)], BxC b_x 37 (cEMsg x_3 v2 v3 v4 v5 v6), SlC NEMember v2 x_3.conf.members, SlC NEOp v3 x_3.batch.ops, SlC NEEntry v4 x_3.entries, OwC Nu64 24 v5 x_3.stamps, SlC NEPair v6 x_3.pairs, BxC b1 57 [.int .i64 (((((p1.take ((min p3 (p2 + 8)).toNat)).drop ((p2).toNat)).getD (x_2).toNat default).batch).client), .int .i64 (((((p1.take ((min p3 (p2 + 8)).toNat)).drop ((p2).toNat)).getD (x_2).toNat default).batch).req), u1, .int .u64 ((((p1.take ((min p3 (p2 + 8)).toNat)).drop ((p2).toNat)).getD (x_2).toNat default).ts)], SlC NEOp u1 (((((p1.take ((min p3 (p2 + 8)).toNat)).drop ((p2).toNat)).getD (x_2).toNat default).batch).ops), AtG ((0 : Int) ≤ x_2 ∧ x_2 < (((p1.take ((min p3 (p2 + 8)).toNat)).drop ((p2).toNat)).length : Int)) (blkOf (subV v1_p1 ((p2).toNat) ((min p3 (p2 + 8)).toNat) 4)) (oofOf (subV v1_p1 ((p2).toNat) ((min p3 (p2 + 8)).toNat) 4) + (x_2).toNat * 4) [.int .i64 (((((p1.take ((min p3 (p2 + 8)).toNat)).drop ((p2).toNat)).getD (x_2).toNat default).batch).client), .int .i64 (((((p1.take ((min p3 (p2 + 8)).toNat)).drop ((p2).toNat)).getD (x_2).toNat default).batch).req), u1, .int .u64 ((((p1.take ((min p3 (p2 + 8)).toNat)).drop ((p2).toNat)).getD (x_2).toNat default).ts)], BxC b_p1 22 [v1_p1], BxC b_p2 3 [.int .i64 p2], BxC b_p3 3 [.int .i64 p3], SlC NEEntry (subV v1_p1 ((p2).toNat) ((min p3 (p2 + 8)).toNat) 4) ((p1.take ((min p3 (p2 + 8)).toNat)).drop ((p2).toNat)), SlC NEEntry v1_p1 p1] | 2 => Gx I D w I1 w3 xw [OwC Nu64 24 (vals1 8) (x_3.stamps ++ [(((p1.take ((min p3 (p2 + 8)).toNat)).drop ((p2).toNat)).getD (x_2).toNat default).ts]), BxC b_x 37 (cEMsg x_3 v2 v3 v4 v5 v6), SlC NEMember v2 x_3.conf.members, SlC NEOp v3 x_3.batch.ops, SlC NEEntry v4 x_3.entries, SlC NEPair v6 x_3.pairs, BxC b1 57 [.int .i64 (((((p1.take ((min p3 (p2 + 8)).toNat)).drop ((p2).toNat)).getD (x_2).toNat default).batch).client), .int .i64 (((((p1.take ((min p3 (p2 + 8)).toNat)).drop ((p2).toNat)).getD (x_2).toNat default).batch).req), u1, .int .u64 ((((p1.take ((min p3 (p2 + 8)).toNat)).drop ((p2).toNat)).getD (x_2).toNat default).ts)], SlC NEOp u1 (((((p1.take ((min p3 (p2 + 8)).toNat)).drop ((p2).toNat)).getD (x_2).toNat default).batch).ops), AtG ((0 : Int) ≤ x_2 ∧ x_2 < (((p1.take ((min p3 (p2 + 8)).toNat)).drop ((p2).toNat)).length : Int)) (blkOf (subV v1_p1 ((p2).toNat) ((min p3 (p2 + 8)).toNat) 4)) (oofOf (subV v1_p1 ((p2).toNat) ((min p3 (p2 + 8)).toNat) 4) + (x_2).toNat * 4) [.int .i64 (((((p1.take ((min p3 (p2 + 8)).toNat)).drop ((p2).toNat)).getD (x_2).toNat default).batch).client), .int .i64 (((((p1.take ((min p3 (p2 + 8)).toNat)).drop ((p2).toNat)).getD (x_2).toNat default).batch).req), u1, .int .u64 ((((p1.take ((min p3 (p2 + 8)).toNat)).drop ((p2).toNat)).getD (x_2).toNat default).ts)], BxC b_p1 22 [v1_p1], BxC b_p2 3 [.int .i64 p2], BxC b_p3 3 [.int .i64 p3], SlC NEEntry (subV v1_p1 ((p2).toNat) ((min p3 (p2 + 8)).toNat) 4) ((p1.take ((min p3 (p2 + 8)).toNat)).drop ((p2).toNat)), SlC NEEntry v1_p1 p1] | _ => Gx I D w I1 w3 xw [BxC b_x 37 [.int .i64 x_3.k, .int .i64 x_3.epoch, .int .i64 x_3.req, .int .i64 x_3.serial, .bool x_3.flag, .int .u64 x_3.at_, .int .u64 x_3.last, .int .i64 x_3.n, .int .i64 x_3.m, .int .i64 x_3.p, .int .i64 x_3.e, .string x_3.key, .string x_3.to_, .int .i64 x_3.conf.epoch, v2, .int .u64 x_3.conf.floor, .int .i64 x_3.batch.client, .int .i64 x_3.batch.req, v3, v4, (vals1 8), v6], OwC Nu64 24 (vals1 8) (x_3.stamps ++ [(((p1.take ((min p3 (p2 + 8)).toNat)).drop ((p2).toNat)).getD (x_2).toNat default).ts]), SlC NEMember v2 x_3.conf.members, SlC NEOp v3 x_3.batch.ops, SlC NEEntry v4 x_3.entries, SlC NEPair v6 x_3.pairs, BxC b1 57 [.int .i64 (((((p1.take ((min p3 (p2 + 8)).toNat)).drop ((p2).toNat)).getD (x_2).toNat default).batch).client), .int .i64 (((((p1.take ((min p3 (p2 + 8)).toNat)).drop ((p2).toNat)).getD (x_2).toNat default).batch).req), u1, .int .u64 ((((p1.take ((min p3 (p2 + 8)).toNat)).drop ((p2).toNat)).getD (x_2).toNat default).ts)], SlC NEOp u1 (((((p1.take ((min p3 (p2 + 8)).toNat)).drop ((p2).toNat)).getD (x_2).toNat default).batch).ops), AtG ((0 : Int) ≤ x_2 ∧ x_2 < (((p1.take ((min p3 (p2 + 8)).toNat)).drop ((p2).toNat)).length : Int)) (blkOf (subV v1_p1 ((p2).toNat) ((min p3 (p2 + 8)).toNat) 4)) (oofOf (subV v1_p1 ((p2).toNat) ((min p3 (p2 + 8)).toNat) 4) + (x_2).toNat * 4) [.int .i64 (((((p1.take ((min p3 (p2 + 8)).toNat)).drop ((p2).toNat)).getD (x_2).toNat default).batch).client), .int .i64 (((((p1.take ((min p3 (p2 + 8)).toNat)).drop ((p2).toNat)).getD (x_2).toNat default).batch).req), u1, .int .u64 ((((p1.take ((min p3 (p2 + 8)).toNat)).drop ((p2).toNat)).getD (x_2).toNat default).ts)], BxC b_p1 22 [v1_p1], BxC b_p2 3 [.int .i64 p2], BxC b_p3 3 [.int .i64 p3], SlC NEEntry (subV v1_p1 ((p2).toNat) ((min p3 (p2 + 8)).toNat) 4) ((p1.take ((min p3 (p2 + 8)).toNat)).drop ((p2).toNat)), SlC NEEntry v1_p1 p1]) (fun _ => Gx.start H) ?_ ?_
   ·intro fr hfr hfe
    refine .cons (fun ss hlo hhi vals1 xw hG hV => ?_) ?_
    ·obtain rfl | rfl | rfl : ss = 0 ∨ ss = 1 ∨ ss = 2 := st2 hlo hhi
     all_goals
     ·rw [← hfe]
      have hS := (hfr vals1).sub (ts := [0]) (S' := [(0, .pointer (some ⟨b_x, 0, none⟩))]) rfl
      exact L_val hS rfl (Ob_c tRe rfl) ⟨rfl, hG⟩
    refine .cons (fun ss hlo hhi vals1 xw hG hV => ?_) ?_
    ·obtain rfl | rfl : ss = 0 ∨ ss = 1 := st1 hlo hhi
     all_goals
     ·rw [← hfe]
      have hS := (hfr vals1).sub (ts := [0]) (S' := [(0, .pointer (some ⟨b_x, 0, none⟩))]) rfl
      exact L_val hS rfl (Ob_c tRe rfl) ⟨rfl, hG⟩
    refine .cons (fun ss hlo hhi vals1 xw hG hV => ?_) ?_
    ·obtain rfl | rfl : ss = 0 ∨ ss = 1 := st1 hlo hhi
     all_goals
     ·rw [← hfe]
      have hS := (hfr vals1).sub (ts := [23]) (S' := [(23, vals1 1)]) rfl
      replace hS := hS.conv (t := 23) rfl (show (vals1 1) = .pointer (some ⟨b_x, 0, none⟩) from hV 1 (by decide))
      exact L_val hS rfl (Ob_c tRe rfl) ⟨rfl, hG⟩
    refine .cons (fun ss hlo hhi vals1 xw hG hV => ?_) ?_
    ·obtain rfl | rfl : ss = 0 ∨ ss = 1 := st1 hlo hhi
     all_goals
     ·rw [← hfe]
      have hS := (hfr vals1).sub (ts := [24]) (S' := [(24, vals1 2)]) rfl
      replace hS := hS.conv (t := 24) rfl (show (vals1 2) = .pointer (some ⟨b_x, 0, none⟩) from hV 2 (by decide))
      exact L_val hS rfl (Ob_c tRe rfl) ⟨rfl, hG⟩
    refine .cons (fun ss hlo hhi vals1 xw hG hV => ?_) ?_
    ·obtain rfl | rfl : ss = 0 ∨ ss = 1 := st1 hlo hhi
     ·rw [← hfe]
      have hS := (hfr vals1).sub (ts := [25]) (S' := [(25, vals1 3)]) rfl
      replace hS := hS.conv (t := 25) rfl (show (vals1 3) = .pointer (some ⟨b_x, 20, none⟩) from hV 3 (by decide))
      obtain ⟨I2, hI2, H⟩ := Gx.ex hG
      exact L_val hS rfl (Ob_load tRe rfl rfl rfl ((H.bx 0 rfl).cell 20 rfl)) ⟨rfl, hG⟩
     ·rw [← hfe]
      have hS := (hfr vals1).sub (ts := [25]) (S' := [(25, vals1 3)]) rfl
      replace hS := hS.conv (t := 25) rfl (show (vals1 3) = .pointer (some ⟨b_x, 20, none⟩) from hV 3 (by decide))
      obtain ⟨I2, hI2, H⟩ := Gx.ex hG
      exact L_val hS rfl (Ob_load tRe rfl rfl rfl ((H.bx 1 rfl).cell 20 rfl)) ⟨rfl, hG⟩
    refine .cons (fun ss hlo hhi vals1 xw hG hV => ?_) ?_
    ·obtain rfl : ss = 0 := Nat.le_antisymm hhi hlo
     rw [← hfe]
     have hS := (hfr vals1).sub (ts := [6]) (S' := [(6, .pointer (some ⟨b1, 0, none⟩))]) rfl
     exact L_val hS rfl (Ob_c tRe rfl) ⟨rfl, hG⟩
    refine .cons (fun ss hlo hhi vals1 xw hG hV => ?_) ?_
    ·obtain rfl : ss = 0 := Nat.le_antisymm hhi hlo
     rw [← hfe]
     have hS := (hfr vals1).sub (ts := [27]) (S' := [(27, vals1 5)]) rfl
     replace hS := hS.conv (t := 27) rfl (show (vals1 5) = .pointer (some ⟨b1, 3, none⟩) from hV 5 (by decide))
     obtain ⟨I2, hI2, H⟩ := Gx.ex hG
     exact L_val hS rfl (Ob_load tRe rfl rfl rfl ((H.bx 6 rfl).cell 3 rfl)) ⟨rfl, hG⟩
    refine .cons (fun ss hlo hhi vals1 xw hG hV => ?_) ?_
    ·obtain rfl : ss = 0 := Nat.le_antisymm hhi hlo
     rw [← hfe]
     have hS := (hfr vals1).sub (ts := [28]) (S' := [(28, vals1 6)]) rfl
     replace hS := hS.conv (t := 28) rfl (show (vals1 6) = .int .u64 ((((p1.take ((min p3 (p2 + 8)).toNat)).drop ((p2).toNat)).getD (x_2).toNat default).ts) from hV 6 (by decide))
     obtain ⟨I2, hI2, H⟩ := Gx.ex hG
     exact L_bslice H (vs := [(0, .int .u64 ((((p1.take ((min p3 (p2 + 8)).toNat)).drop ((p2).toNat)).getD (x_2).toNat default).ts))]) (cl := [.int .u64 ((((p1.take ((min p3 (p2 + 8)).toNat)).drop ((p2).toNat)).getD (x_2).toNat default).ts)]) (e := 24) hS rfl rfl rfl (fun w => run_bslice (z := .int .u64 0) (m := 1) Try.underlying34 (by kernel_rfl) rfl rfl (by decide) (by simp [Instr.fill, Value.cells]) w) fun yw b hK H => ⟨rfl, Gx.go hG hI2 hK (fun _ h => h) H⟩
    refine .cons (fun ss hlo hhi vals1 xw hG hV => ?_) ?_
    ·obtain rfl : ss = 1 := Nat.le_antisymm hhi hlo
     rw [← hfe]
     have hS := (hfr vals1).sub (ts := [26, 29]) (S' := [(26, vals1 4), (29, vals1 7)]) rfl
     replace hS := hS.conv (t := 26) rfl (show (vals1 4) = v5 from hV 4 (by decide))
     replace hS := hS.conv (t := 29) rfl (show (vals1 7) = .slice (some ⟨blkOf (vals1 7), 0, none⟩) 1 1 from hV 7 (by decide))
     obtain ⟨I2, hI2, H⟩ := Gx.ex hG
     exact L_appO H 5 E_34_YRe [(((p1.take ((min p3 (p2 + 8)).toNat)).drop ((p2).toNat)).getD (x_2).toNat default).ts] rfl rfl hS rfl rfl rfl rfl (slRep2.box1 (H.bx 0 rfl) ⟨rfl, trivial⟩) hg4 (by decide) fun v yw hK H => ⟨trivial, Gx.go hG hI2 hK (fun _ h => h) (H.sub [(0, false), (1, false), (1, true), (2, true), (3, true), (4, true), (5, false), (5, true), (6, true), (7, false), (7, false), (7, false), (7, true), (8, true)] rfl)⟩
    refine .cons (fun ss hlo hhi vals1 xw hG hV => ?_) ?_
    ·obtain rfl : ss = 2 := Nat.le_antisymm hhi hlo
     rw [← hfe]
     have hS := (hfr vals1).sub (ts := [22]) (S' := [(22, vals1 0)]) rfl
     replace hS := hS.conv (t := 22) rfl (show (vals1 0) = .pointer (some ⟨b_x, 0, none⟩) from hV 0 (by decide))
     exact L_val hS rfl (Ob_c tRe rfl) ⟨rfl, hG⟩
    refine .cons (fun ss hlo hhi vals1 xw hG hV => ?_) ?_
    ·obtain rfl : ss = 2 := Nat.le_antisymm hhi hlo
     rw [← hfe]
     have hS := (hfr vals1).sub (ts := [31]) (S' := [(31, vals1 9)]) rfl
     replace hS := hS.conv (t := 31) rfl (show (vals1 9) = .pointer (some ⟨b_x, 0, none⟩) from hV 9 (by decide))
     exact L_val hS rfl (Ob_c tRe rfl) ⟨rfl, hG⟩
    refine .cons (fun ss hlo hhi vals1 xw hG hV => ?_) ?_
    ·obtain rfl : ss = 2 := Nat.le_antisymm hhi hlo
     rw [← hfe]
     have hS := (hfr vals1).sub (ts := [32, 30]) (S' := [(32, vals1 10), (30, vals1 8)]) rfl
     replace hS := hS.conv (t := 32) rfl (show (vals1 10) = .pointer (some ⟨b_x, 20, none⟩) from hV 10 (by decide))
     obtain ⟨I2, hI2, H⟩ := Gx.ex hG
     exact L_store tRe H 1 rfl hS rfl rfl rfl rfl rfl (slS.cells (H.owshape 0 rfl)) rfl rfl (one_cons (slS.one (H.owshape 0 rfl)) one_nil) (Nat.le_of_ble_eq_true rfl) rfl fun yw hK H => ⟨trivial, Gx.go hG hI2 hK (fun _ h => h) H⟩
    exact .nil
   ·intro vals1 a w4 Z hG hV
    replace Z := Z.sub (ts := [0, 13, 14, 15, 16, 17, 18, 6, 19, 20, 21, 22, 23, 24, 25, 26, 27, 28, 29, 30, 31, 32]) (S' := [(0, .pointer (some ⟨b_x, 0, none⟩)), (13, subV v1_p1 ((p2).toNat) ((min p3 (p2 + 8)).toNat) 4), (14, .int .i64 (((p1.take ((min p3 (p2 + 8)).toNat)).drop ((p2).toNat)).length : Int)), (15, .int .i64 x_2), (16, .bool (decide (x_2 < (((p1.take ((min p3 (p2 + 8)).toNat)).drop ((p2).toNat)).length : Int)))), (17, .pointer (some ⟨blkOf (subV v1_p1 ((p2).toNat) ((min p3 (p2 + 8)).toNat) 4), oofOf (subV v1_p1 ((p2).toNat) ((min p3 (p2 + 8)).toNat) 4) + (x_2).toNat * 4, none⟩)), (18, .agg #[.int .i64 (((((p1.take ((min p3 (p2 + 8)).toNat)).drop ((p2).toNat)).getD (x_2).toNat default).batch).client), .int .i64 (((((p1.take ((min p3 (p2 + 8)).toNat)).drop ((p2).toNat)).getD (x_2).toNat default).batch).req), u1, .int .u64 ((((p1.take ((min p3 (p2 + 8)).toNat)).drop ((p2).toNat)).getD (x_2).toNat default).ts)]), (6, .pointer (some ⟨b1, 0, none⟩)), (19, .pointer (some ⟨b1, 3, none⟩)), (20, .int .u64 ((((p1.take ((min p3 (p2 + 8)).toNat)).drop ((p2).toNat)).getD (x_2).toNat default).ts)), (21, .bool (((((p1.take ((min p3 (p2 + 8)).toNat)).drop ((p2).toNat)).getD (x_2).toNat default).ts) == 0)), (22, vals1 0), (23, vals1 1), (24, vals1 2), (25, vals1 3), (26, vals1 4), (27, vals1 5), (28, vals1 6), (29, vals1 7), (30, vals1 8), (31, vals1 9), (32, vals1 10)]) rfl
    replace Z := Z.conv (t := 22) rfl (show (vals1 0) = .pointer (some ⟨b_x, 0, none⟩) from hV 0 (by decide))
    replace Z := Z.conv (t := 23) rfl (show (vals1 1) = .pointer (some ⟨b_x, 0, none⟩) from hV 1 (by decide))
    replace Z := Z.conv (t := 24) rfl (show (vals1 2) = .pointer (some ⟨b_x, 0, none⟩) from hV 2 (by decide))
    replace Z := Z.conv (t := 25) rfl (show (vals1 3) = .pointer (some ⟨b_x, 20, none⟩) from hV 3 (by decide))
    replace Z := Z.conv (t := 26) rfl (show (vals1 4) = v5 from hV 4 (by decide))
    replace Z := Z.conv (t := 27) rfl (show (vals1 5) = .pointer (some ⟨b1, 3, none⟩) from hV 5 (by decide))
    replace Z := Z.conv (t := 28) rfl (show (vals1 6) = .int .u64 ((((p1.take ((min p3 (p2 + 8)).toNat)).drop ((p2).toNat)).getD (x_2).toNat default).ts) from hV 6 (by decide))
    replace Z := Z.conv (t := 29) rfl (show (vals1 7) = .slice (some ⟨blkOf (vals1 7), 0, none⟩) 1 1 from hV 7 (by decide))
    replace Z := Z.conv (t := 31) rfl (show (vals1 9) = .pointer (some ⟨b_x, 0, none⟩) from hV 9 (by decide))
    replace Z := Z.conv (t := 32) rfl (show (vals1 10) = .pointer (some ⟨b_x, 20, none⟩) from hV 10 (by decide))
    obtain ⟨I2, _, H⟩ := Gx.ex hG
    clear hG hV
    replace Z := Z.sub (ts := [0, 13, 14, 15, 16, 17, 18, 6, 19, 20, 21, 22, 23, 24, 25, 26, 27, 28, 29, 30, 31, 32]) rfl
    replace H : Hf I D w I2 w4 [BxC b_x 37 [.int .i64 x_3.k, .int .i64 x_3.epoch, .int .i64 x_3.req, .int .i64 x_3.serial, .bool x_3.flag, .int .u64 x_3.at_, .int .u64 x_3.last, .int .i64 x_3.n, .int .i64 x_3.m, .int .i64 x_3.p, .int .i64 x_3.e, .string x_3.key, .string x_3.to_, .int .i64 x_3.conf.epoch, v2, .int .u64 x_3.conf.floor, .int .i64 x_3.batch.client, .int .i64 x_3.batch.req, v3, v4, (vals1 8), v6], OwC Nu64 24 (vals1 8) (x_3.stamps ++ [(((p1.take ((min p3 (p2 + 8)).toNat)).drop ((p2).toNat)).getD (x_2).toNat default).ts]), SlC NEMember v2 x_3.conf.members, SlC NEOp v3 x_3.batch.ops, SlC NEEntry v4 x_3.entries, SlC NEPair v6 x_3.pairs, BxC b1 57 [.int .i64 (((((p1.take ((min p3 (p2 + 8)).toNat)).drop ((p2).toNat)).getD (x_2).toNat default).batch).client), .int .i64 (((((p1.take ((min p3 (p2 + 8)).toNat)).drop ((p2).toNat)).getD (x_2).toNat default).batch).req), u1, .int .u64 ((((p1.take ((min p3 (p2 + 8)).toNat)).drop ((p2).toNat)).getD (x_2).toNat default).ts)], SlC NEOp u1 (((((p1.take ((min p3 (p2 + 8)).toNat)).drop ((p2).toNat)).getD (x_2).toNat default).batch).ops), AtG ((0 : Int) ≤ x_2 ∧ x_2 < (((p1.take ((min p3 (p2 + 8)).toNat)).drop ((p2).toNat)).length : Int)) (blkOf (subV v1_p1 ((p2).toNat) ((min p3 (p2 + 8)).toNat) 4)) (oofOf (subV v1_p1 ((p2).toNat) ((min p3 (p2 + 8)).toNat) 4) + (x_2).toNat * 4) [.int .i64 (((((p1.take ((min p3 (p2 + 8)).toNat)).drop ((p2).toNat)).getD (x_2).toNat default).batch).client), .int .i64 (((((p1.take ((min p3 (p2 + 8)).toNat)).drop ((p2).toNat)).getD (x_2).toNat default).batch).req), u1, .int .u64 ((((p1.take ((min p3 (p2 + 8)).toNat)).drop ((p2).toNat)).getD (x_2).toNat default).ts)], BxC b_p1 22 [v1_p1], BxC b_p2 3 [.int .i64 p2], BxC b_p3 3 [.int .i64 p3], SlC NEEntry (subV v1_p1 ((p2).toNat) ((min p3 (p2 + 8)).toNat) 4) ((p1.take ((min p3 (p2 + 8)).toNat)).drop ((p2).toNat)), SlC NEEntry v1_p1 p1] := H
    refine p_blk ?_
    refine p_then ?_
    obtain ⟨hg5, hF⟩ := chk_in hF
    refine f_region Z ?_; clear Z; intro Z
    refine s_ob Z (v := .int .i64 (x_2 + 1)) rfl rfl (by decide) rfl (Ob_add rfl rfl rfl (wrI hg5)) ?_; clear Z a; intro a Z
    refine s_runk tRe Z 1 rfl rfl ?_; clear Z a; intro a Z
    refine s_end Z [0, 13, 14, 15, 16, 17, 18, 6, 19, 20, 21, 22, 23, 24, 25, 26, 27, 28, 29, 30, 31, 32, 33] rfl ?_; clear Z; intro Z
    refine p_then ?_
    replace H : Hf I D w I2 w4 [OEMsg b_x ({ x_3 with stamps := x_3.stamps ++ [(((p1.take ((min p3 (p2 + 8)).toNat)).drop ((p2).toNat)).getD (x_2).toNat default).ts] } : EMsg), SlC NEMember v2 x_3.conf.members, SlC NEOp v3 x_3.batch.ops, SlC NEEntry v4 x_3.entries, SlC NEPair v6 x_3.pairs, BxC b1 57 [.int .i64 (((((p1.take ((min p3 (p2 + 8)).toNat)).drop ((p2).toNat)).getD (x_2).toNat default).batch).client), .int .i64 (((((p1.take ((min p3 (p2 + 8)).toNat)).drop ((p2).toNat)).getD (x_2).toNat default).batch).req), u1, .int .u64 ((((p1.take ((min p3 (p2 + 8)).toNat)).drop ((p2).toNat)).getD (x_2).toNat default).ts)], SlC NEOp u1 (((((p1.take ((min p3 (p2 + 8)).toNat)).drop ((p2).toNat)).getD (x_2).toNat default).batch).ops), AtG ((0 : Int) ≤ x_2 ∧ x_2 < (((p1.take ((min p3 (p2 + 8)).toNat)).drop ((p2).toNat)).length : Int)) (blkOf (subV v1_p1 ((p2).toNat) ((min p3 (p2 + 8)).toNat) 4)) (oofOf (subV v1_p1 ((p2).toNat) ((min p3 (p2 + 8)).toNat) 4) + (x_2).toNat * 4) [.int .i64 (((((p1.take ((min p3 (p2 + 8)).toNat)).drop ((p2).toNat)).getD (x_2).toNat default).batch).client), .int .i64 (((((p1.take ((min p3 (p2 + 8)).toNat)).drop ((p2).toNat)).getD (x_2).toNat default).batch).req), u1, .int .u64 ((((p1.take ((min p3 (p2 + 8)).toNat)).drop ((p2).toNat)).getD (x_2).toNat default).ts)], BxC b_p1 22 [v1_p1], BxC b_p2 3 [.int .i64 p2], BxC b_p3 3 [.int .i64 p3], SlC NEEntry (subV v1_p1 ((p2).toNat) ((min p3 (p2 + 8)).toNat) 4) ((p1.take ((min p3 (p2 + 8)).toNat)).drop ((p2).toNat)), SlC NEEntry v1_p1 p1] := H.shutX (v2, v3, v4, (vals1 8), v6) [(0, false), (1, true), (2, true), (3, true), (0, false), (3, true)] rfl
    exact ⟨(x_2 + 1, ({ x_3 with stamps := x_3.stamps ++ [(((p1.take ((min p3 (p2 + 8)).toNat)).drop ((p2).toNat)).getD (x_2).toNat default).ts] } : EMsg)), ⟨Z.sub (ts := [0, 13, 14, 15]) rfl, ⟨I2, (H.sub [(0, false), (7, false), (7, false), (7, false), (7, true), (8, true)] rfl).eq rfl⟩⟩, hF⟩
 ·replace hF := ite_f hc1 hF
  refine wp_exit ?_
  refine p_then_x ?_
  refine p_then_x ?_
  refine f_exit_here ?_
  obtain rfl := some_in hF
  exact f_fall Z (run_results0 rfl) ⟨rfl, I1, (H.sub [(0, false), (0, false), (0, false), (0, false)] rfl).eq rfl⟩

def F_relay_made__relay_Ack_1 (kind : Int) (epoch : Int) (p1 : Int) (p2 : Int) (p3 : Int) (p1_2 : List EEntry) (p2_2 : Int) (p3_2 : Int) : Option EMsg := (F_relay_counts_1 ({ (default : EMsg) with k := kind, epoch := max epoch 0 } : EMsg) p1 p2 p3).bind fun x0 => ((F_relay_Ack_1 x0 p1_2 p2_2 p3_2).bind fun x0_2 => (some x0_2))

set_option maxHeartbeats 1000000 in
theorem c_relay_made__relay_Ack_1 {I D : Dm} {kind : Int} {epoch : Int} {b_l : Nat} {b_p1 : Nat} {p1 : Int} {b_p2 : Nat} {p2 : Int} {b_p3 : Nat} {p3 : Int} {b_p1_2 : Nat} {p1_2 : List EEntry} {v1_p1_2 : Value} {b_p2_2 : Nat} {p2_2 : Int} {b_p3_2 : Nat} {p3_2 : Int} {w : World} {rr : EMsg} (hF : F_relay_made__relay_Ack_1 kind epoch p1 p2 p3 p1_2 p2_2 p3_2 = some rr) (H : St I D w [BxC b_p1 3 [.int .i64 p1], BxC b_p2 3 [.int .i64 p2], BxC b_p3 3 [.int .i64 p3], BxC b_p1_2 22 [v1_p1_2], SlC NEEntry v1_p1_2 p1_2, BxC b_p2_2 3 [.int .i64 p2_2], BxC b_p3_2 3 [.int .i64 p3_2], BxC b_l 66 [.func (.func 54) #[] #[.pointer (some ⟨b_p1, 0, none⟩), .pointer (some ⟨b_p2, 0, none⟩), .pointer (some ⟨b_p3, 0, none⟩)], .func (.func 36) #[] #[.pointer (some ⟨b_p1_2, 0, none⟩), .pointer (some ⟨b_p2_2, 0, none⟩), .pointer (some ⟨b_p3_2, 0, none⟩)]]]) :
  Calls Try.prog 33 #[.int .i64 kind, .int .i64 epoch, .slice (some ⟨b_l, 0, none⟩) 2 2] w (Ret fun vv w' => ∃ q1 q2 q3 q4 q5 : Value, vv = .agg #[.int .i64 rr.k, .int .i64 rr.epoch, .int .i64 rr.req, .int .i64 rr.serial, .bool rr.flag, .int .u64 rr.at_, .int .u64 rr.last, .int .i64 rr.n, .int .i64 rr.m, .int .i64 rr.p, .int .i64 rr.e, .string rr.key, .string rr.to_, .int .i64 rr.conf.epoch, q1, .int .u64 rr.conf.floor, .int .i64 rr.batch.client, .int .i64 rr.batch.req, q2, q3, q4, q5] ∧ ∃ I', Hf I D w I' w' [BxC b_p1 3 [.int .i64 p1], BxC b_p2 3 [.int .i64 p2], BxC b_p3 3 [.int .i64 p3], BxC b_p1_2 22 [v1_p1_2], BxC b_p2_2 3 [.int .i64 p2_2], BxC b_p3_2 3 [.int .i64 p3_2], BxC b_l 66 [.func (.func 54) #[] #[.pointer (some ⟨b_p1, 0, none⟩), .pointer (some ⟨b_p2, 0, none⟩), .pointer (some ⟨b_p3, 0, none⟩)], .func (.func 36) #[] #[.pointer (some ⟨b_p1_2, 0, none⟩), .pointer (some ⟨b_p2_2, 0, none⟩), .pointer (some ⟨b_p3_2, 0, none⟩)]], SlC NEMember q1 rr.conf.members, SlC NEOp q2 rr.batch.ops, SlC NEEntry q3 rr.entries, SlC Nu64 q4 rr.stamps, SlC NEPair q5 rr.pairs]) := by
 replace H := H.hf
 unfold F_relay_made__relay_Ack_1 at hF
 refine f_enter 24 Try.func33 rfl rfl (Nat.le_of_ble_eq_true rfl) fun a Z => ?_
 replace Z := Z.sub (ts := [0, 1, 2]) rfl
 refine wp_seq (f_region Z ?_); clear Z; intro Z
 refine h_alloc Z H (cl := [.int .i64 0, .int .i64 0, .int .i64 0, .int .i64 0, .bool false, .int .u64 0, .int .u64 0, .int .i64 0, .int .i64 0, .int .i64 0, .int .i64 0, .string ByteArray.empty, .string ByteArray.empty, .int .i64 0, .slice none 0 0, .int .u64 0, .int .i64 0, .int .i64 0, .slice none 0 0, .slice none 0 0, .slice none 0 0, .slice none 0 0]) (z := .agg #[.int .i64 0, .int .i64 0, .int .i64 0, .int .i64 0, .bool false, .int .u64 0, .int .u64 0, .int .i64 0, .int .i64 0, .int .i64 0, .int .i64 0, .string ByteArray.empty, .string ByteArray.empty, .int .i64 0, .slice none 0 0, .int .u64 0, .int .i64 0, .int .i64 0, .slice none 0 0, .slice none 0 0, .slice none 0 0, .slice none 0 0]) rfl rfl rfl (by decide) rfl (by kernel_rfl) rfl ?_; clear Z a H; intro a w1 b1 H Z
 refine s_end Z [0, 1, 2, 6] rfl ?_; clear Z; intro Z
 refine p_then (wp_seq (f_region Z ?_)); clear Z; intro Z
 refine s_runk tRe Z 3 rfl rfl ?_; clear Z a; intro a Z
 refine s_ob Z (v := .agg #[.int .i64 kind, .int .i64 (max epoch 0), .int .i64 0, .int .i64 0, .bool false, .int .u64 0, .int .u64 0, .int .i64 0, .int .i64 0, .int .i64 0, .int .i64 0, .string ByteArray.empty, .string ByteArray.empty, .int .i64 0, .slice none 0 0, .int .u64 0, .int .i64 0, .int .i64 0, .slice none 0 0, .slice none 0 0, .slice none 0 0, .slice none 0 0]) rfl rfl (by decide) rfl (Ob_build (vs := [(0, .int .i64 kind), (1, .int .i64 (max epoch 0))]) rfl rfl (by go_simp <;> rfl)) ?_; clear Z a; intro a Z
 refine h_alloc Z H (cl := [.int .i64 0, .int .i64 0, .int .i64 0, .int .i64 0, .bool false, .int .u64 0, .int .u64 0, .int .i64 0, .int .i64 0, .int .i64 0, .int .i64 0, .string ByteArray.empty, .string ByteArray.empty, .int .i64 0, .slice none 0 0, .int .u64 0, .int .i64 0, .int .i64 0, .slice none 0 0, .slice none 0 0, .slice none 0 0, .slice none 0 0]) (z := .agg #[.int .i64 0, .int .i64 0, .int .i64 0, .int .i64 0, .bool false, .int .u64 0, .int .u64 0, .int .i64 0, .int .i64 0, .int .i64 0, .int .i64 0, .string ByteArray.empty, .string ByteArray.empty, .int .i64 0, .slice none 0 0, .int .u64 0, .int .i64 0, .int .i64 0, .slice none 0 0, .slice none 0 0, .slice none 0 0, .slice none 0 0]) rfl rfl rfl (by decide) rfl (by kernel_rfl) rfl ?_; clear Z a H; intro a w2 b2 H Z
 refine h_store tRe Z H 0 rfl rfl rfl rfl rfl rfl rfl rfl rfl (one_cons rfl (one_cons rfl (one_cons rfl (one_cons rfl (one_cons rfl (one_cons rfl (one_cons rfl (one_cons rfl (one_cons rfl (one_cons rfl (one_cons rfl (one_cons rfl (one_cons rfl (one_cons rfl (one_cons (slS.one slS.nil) (one_cons rfl (one_cons rfl (one_cons rfl (one_cons (slS.one slS.nil) (one_cons (slS.one slS.nil) (one_cons (slS.one slS.nil) (one_cons (slS.one slS.nil) one_nil)))))))))))))))))))))) (Nat.le_of_ble_eq_true rfl) (putCells_all rfl) ?_; clear H; intro w3 H
 dsimp only [List.eraseIdx] at H
 refine s_end Z [2, 6, 7] rfl ?_; clear Z; intro Z
 refine p_then (wp_seq ?_)
 refine wp_seq (f_region Z ?_); clear Z; intro Z
 refine s_runk tRe Z 1 rfl rfl ?_; clear Z a; intro a Z
 refine s_ob Z (v := .int .i64 2) rfl rfl (by decide) rfl (Ob_slen tRe rfl rfl rfl (slS.lit _ _ (by decide))) ?_; clear Z a; intro a Z
 refine s_runk tRe Z 1 rfl rfl ?_; clear Z a; intro a Z
 refine s_end Z [2, 6, 7, 14, 15, 16] rfl ?_; clear Z; intro Z
 refine p_then (wp_block ?_)
 refine wp_loop_rounds 3 ?_
 refine rounds_in ?_
 refine wp_seq (f_region Z ?_); clear Z; intro Z
 refine s_runk tRe Z 1 rfl rfl ?_; clear Z a; intro a Z
 refine s_end Z [2, 6, 7, 14, 15, 16, 17] rfl ?_; clear Z; intro Z
 refine p_then (wp_seq ?_)
 refine wp_cond_true (Z.ev rfl) ?_
 refine wp_skip ?_
 refine p_then (wp_seq ?_)
 refine wp_block ?_
 refine wp_seq (f_region Z ?_); clear Z; intro Z
 refine s_ob Z (v := .pointer (some ⟨b_l, 0, none⟩)) rfl rfl (by decide) rfl (Ob_idx (b := b_l) (off := 0) (m := 1) tRe (0) rfl rfl rfl rfl rfl rfl (show 0 < 2 from by decide)) ?_; clear Z a; intro a Z
 refine s_ob Z (v := .func (.func 54) #[] #[.pointer (some ⟨b_p1, 0, none⟩), .pointer (some ⟨b_p2, 0, none⟩), .pointer (some ⟨b_p3, 0, none⟩)]) rfl rfl (by decide) rfl (Ob_load tRe rfl rfl rfl ((H.bx 9 rfl).cell 0 rfl)) ?_; clear Z a; intro a Z
 refine s_runk tRe Z 1 rfl rfl ?_; clear Z a; intro a Z
 refine s_end Z [2, 6, 7, 14, 15, 16, 17, 18, 19, 9] rfl ?_; clear Z; intro Z
 refine p_then ?_
 obtain ⟨x0, hx1, hF⟩ := bnd_in hF
 refine f_region Z ?_; clear Z; intro Z
 refine s_runk tRe Z 1 rfl rfl ?_; clear Z a; intro a Z
 replace H : Hf I D w I w3 [SlC NEMember (.slice none 0 0) ([] : List EMember), BxC b2 37 [.int .i64 kind, .int .i64 (max epoch 0), .int .i64 0, .int .i64 0, .bool false, .int .u64 0, .int .u64 0, .int .i64 0, .int .i64 0, .int .i64 0, .int .i64 0, .string ByteArray.empty, .string ByteArray.empty, .int .i64 0, .slice none 0 0, .int .u64 0, .int .i64 0, .int .i64 0, .slice none 0 0, .slice none 0 0, .slice none 0 0, .slice none 0 0], BxC b1 37 [.int .i64 0, .int .i64 0, .int .i64 0, .int .i64 0, .bool false, .int .u64 0, .int .u64 0, .int .i64 0, .int .i64 0, .int .i64 0, .int .i64 0, .string ByteArray.empty, .string ByteArray.empty, .int .i64 0, .slice none 0 0, .int .u64 0, .int .i64 0, .int .i64 0, .slice none 0 0, .slice none 0 0, .slice none 0 0, .slice none 0 0], BxC b_p1 3 [.int .i64 p1], BxC b_p2 3 [.int .i64 p2], BxC b_p3 3 [.int .i64 p3], BxC b_p1_2 22 [v1_p1_2], SlC NEEntry v1_p1_2 p1_2, BxC b_p2_2 3 [.int .i64 p2_2], BxC b_p3_2 3 [.int .i64 p3_2], BxC b_l 66 [.func (.func 54) #[] #[.pointer (some ⟨b_p1, 0, none⟩), .pointer (some ⟨b_p2, 0, none⟩), .pointer (some ⟨b_p3, 0, none⟩)], .func (.func 36) #[] #[.pointer (some ⟨b_p1_2, 0, none⟩), .pointer (some ⟨b_p2_2, 0, none⟩), .pointer (some ⟨b_p3_2, 0, none⟩)]]] := H.slNil NEMember
 replace H : Hf I D w I w3 [SlC NEOp (.slice none 0 0) ([] : List EOp), SlC NEMember (.slice none 0 0) ([] : List EMember), BxC b2 37 [.int .i64 kind, .int .i64 (max epoch 0), .int .i64 0, .int .i64 0, .bool false, .int .u64 0, .int .u64 0, .int .i64 0, .int .i64 0, .int .i64 0, .int .i64 0, .string ByteArray.empty, .string ByteArray.empty, .int .i64 0, .slice none 0 0, .int .u64 0, .int .i64 0, .int .i64 0, .slice none 0 0, .slice none 0 0, .slice none 0 0, .slice none 0 0], BxC b1 37 [.int .i64 0, .int .i64 0, .int .i64 0, .int .i64 0, .bool false, .int .u64 0, .int .u64 0, .int .i64 0, .int .i64 0, .int .i64 0, .int .i64 0, .string ByteArray.empty, .string ByteArray.empty, .int .i64 0, .slice none 0 0, .int .u64 0, .int .i64 0, .int .i64 0, .slice none 0 0, .slice none 0 0, .slice none 0 0, .slice none 0 0], BxC b_p1 3 [.int .i64 p1], BxC b_p2 3 [.int .i64 p2], BxC b_p3 3 [.int .i64 p3], BxC b_p1_2 22 [v1_p1_2], SlC NEEntry v1_p1_2 p1_2, BxC b_p2_2 3 [.int .i64 p2_2], BxC b_p3_2 3 [.int .i64 p3_2], BxC b_l 66 [.func (.func 54) #[] #[.pointer (some ⟨b_p1, 0, none⟩), .pointer (some ⟨b_p2, 0, none⟩), .pointer (some ⟨b_p3, 0, none⟩)], .func (.func 36) #[] #[.pointer (some ⟨b_p1_2, 0, none⟩), .pointer (some ⟨b_p2_2, 0, none⟩), .pointer (some ⟨b_p3_2, 0, none⟩)]]] := H.slNil NEOp
 replace H : Hf I D w I w3 [SlC NEEntry (.slice none 0 0) ([] : List EEntry), SlC NEOp (.slice none 0 0) ([] : List EOp), SlC NEMember (.slice none 0 0) ([] : List EMember), BxC b2 37 [.int .i64 kind, .int .i64 (max epoch 0), .int .i64 0, .int .i64 0, .bool false, .int .u64 0, .int .u64 0, .int .i64 0, .int .i64 0, .int .i64 0, .int .i64 0, .string ByteArray.empty, .string ByteArray.empty, .int .i64 0, .slice none 0 0, .int .u64 0, .int .i64 0, .int .i64 0, .slice none 0 0, .slice none 0 0, .slice none 0 0, .slice none 0 0], BxC b1 37 [.int .i64 0, .int .i64 0, .int .i64 0, .int .i64 0, .bool false, .int .u64 0, .int .u64 0, .int .i64 0, .int .i64 0, .int .i64 0, .int .i64 0, .string ByteArray.empty, .string ByteArray.empty, .int .i64 0, .slice none 0 0, .int .u64 0, .int .i64 0, .int .i64 0, .slice none 0 0, .slice none 0 0, .slice none 0 0, .slice none 0 0], BxC b_p1 3 [.int .i64 p1], BxC b_p2 3 [.int .i64 p2], BxC b_p3 3 [.int .i64 p3], BxC b_p1_2 22 [v1_p1_2], SlC NEEntry v1_p1_2 p1_2, BxC b_p2_2 3 [.int .i64 p2_2], BxC b_p3_2 3 [.int .i64 p3_2], BxC b_l 66 [.func (.func 54) #[] #[.pointer (some ⟨b_p1, 0, none⟩), .pointer (some ⟨b_p2, 0, none⟩), .pointer (some ⟨b_p3, 0, none⟩)], .func (.func 36) #[] #[.pointer (some ⟨b_p1_2, 0, none⟩), .pointer (some ⟨b_p2_2, 0, none⟩), .pointer (some ⟨b_p3_2, 0, none⟩)]]] := H.slNil NEEntry
 replace H : Hf I D w I w3 [OwC Nu64 24 (.slice none 0 0) ([] : List Int), SlC NEEntry (.slice none 0 0) ([] : List EEntry), SlC NEOp (.slice none 0 0) ([] : List EOp), SlC NEMember (.slice none 0 0) ([] : List EMember), BxC b2 37 [.int .i64 kind, .int .i64 (max epoch 0), .int .i64 0, .int .i64 0, .bool false, .int .u64 0, .int .u64 0, .int .i64 0, .int .i64 0, .int .i64 0, .int .i64 0, .string ByteArray.empty, .string ByteArray.empty, .int .i64 0, .slice none 0 0, .int .u64 0, .int .i64 0, .int .i64 0, .slice none 0 0, .slice none 0 0, .slice none 0 0, .slice none 0 0], BxC b1 37 [.int .i64 0, .int .i64 0, .int .i64 0, .int .i64 0, .bool false, .int .u64 0, .int .u64 0, .int .i64 0, .int .i64 0, .int .i64 0, .int .i64 0, .string ByteArray.empty, .string ByteArray.empty, .int .i64 0, .slice none 0 0, .int .u64 0, .int .i64 0, .int .i64 0, .slice none 0 0, .slice none 0 0, .slice none 0 0, .slice none 0 0], BxC b_p1 3 [.int .i64 p1], BxC b_p2 3 [.int .i64 p2], BxC b_p3 3 [.int .i64 p3], BxC b_p1_2 22 [v1_p1_2], SlC NEEntry v1_p1_2 p1_2, BxC b_p2_2 3 [.int .i64 p2_2], BxC b_p3_2 3 [.int .i64 p3_2], BxC b_l 66 [.func (.func 54) #[] #[.pointer (some ⟨b_p1, 0, none⟩), .pointer (some ⟨b_p2, 0, none⟩), .pointer (some ⟨b_p3, 0, none⟩)], .func (.func 36) #[] #[.pointer (some ⟨b_p1_2, 0, none⟩), .pointer (some ⟨b_p2_2, 0, none⟩), .pointer (some ⟨b_p3_2, 0, none⟩)]]] := H.nilow Nu64 24
 replace H : Hf I D w I w3 [SlC NEPair (.slice none 0 0) ([] : List EPair), OwC Nu64 24 (.slice none 0 0) ([] : List Int), SlC NEEntry (.slice none 0 0) ([] : List EEntry), SlC NEOp (.slice none 0 0) ([] : List EOp), SlC NEMember (.slice none 0 0) ([] : List EMember), BxC b2 37 [.int .i64 kind, .int .i64 (max epoch 0), .int .i64 0, .int .i64 0, .bool false, .int .u64 0, .int .u64 0, .int .i64 0, .int .i64 0, .int .i64 0, .int .i64 0, .string ByteArray.empty, .string ByteArray.empty, .int .i64 0, .slice none 0 0, .int .u64 0, .int .i64 0, .int .i64 0, .slice none 0 0, .slice none 0 0, .slice none 0 0, .slice none 0 0], BxC b1 37 [.int .i64 0, .int .i64 0, .int .i64 0, .int .i64 0, .bool false, .int .u64 0, .int .u64 0, .int .i64 0, .int .i64 0, .int .i64 0, .int .i64 0, .string ByteArray.empty, .string ByteArray.empty, .int .i64 0, .slice none 0 0, .int .u64 0, .int .i64 0, .int .i64 0, .slice none 0 0, .slice none 0 0, .slice none 0 0, .slice none 0 0], BxC b_p1 3 [.int .i64 p1], BxC b_p2 3 [.int .i64 p2], BxC b_p3 3 [.int .i64 p3], BxC b_p1_2 22 [v1_p1_2], SlC NEEntry v1_p1_2 p1_2, BxC b_p2_2 3 [.int .i64 p2_2], BxC b_p3_2 3 [.int .i64 p3_2], BxC b_l 66 [.func (.func 54) #[] #[.pointer (some ⟨b_p1, 0, none⟩), .pointer (some ⟨b_p2, 0, none⟩), .pointer (some ⟨b_p3, 0, none⟩)], .func (.func 36) #[] #[.pointer (some ⟨b_p1_2, 0, none⟩), .pointer (some ⟨b_p2_2, 0, none⟩), .pointer (some ⟨b_p3_2, 0, none⟩)]]] := H.slNil NEPair
 replace H : Hf I D w I w3 [OEMsg b2 ({ (default : EMsg) with k := kind, epoch := max epoch 0 } : EMsg), SlC NEPair (.slice none 0 0) ([] : List EPair), SlC NEEntry (.slice none 0 0) ([] : List EEntry), SlC NEOp (.slice none 0 0) ([] : List EOp), SlC NEMember (.slice none 0 0) ([] : List EMember), BxC b1 37 [.int .i64 0, .int .i64 0, .int .i64 0, .int .i64 0, .bool false, .int .u64 0, .int .u64 0, .int .i64 0, .int .i64 0, .int .i64 0, .int .i64 0, .string ByteArray.empty, .string ByteArray.empty, .int .i64 0, .slice none 0 0, .int .u64 0, .int .i64 0, .int .i64 0, .slice none 0 0, .slice none 0 0, .slice none 0 0, .slice none 0 0], BxC b_p1 3 [.int .i64 p1], BxC b_p2 3 [.int .i64 p2], BxC b_p3 3 [.int .i64 p3], BxC b_p1_2 22 [v1_p1_2], SlC NEEntry v1_p1_2 p1_2, BxC b_p2_2 3 [.int .i64 p2_2], BxC b_p3_2 3 [.int .i64 p3_2], BxC b_l 66 [.func (.func 54) #[] #[.pointer (some ⟨b_p1, 0, none⟩), .pointer (some ⟨b_p2, 0, none⟩), .pointer (some ⟨b_p3, 0, none⟩)], .func (.func 36) #[] #[.pointer (some ⟨b_p1_2, 0, none⟩), .pointer (some ⟨b_p2_2, 0, none⟩), .pointer (some ⟨b_p3_2, 0, none⟩)]]] := H.shutX (.slice none 0 0, .slice none 0 0, .slice none 0 0, .slice none 0 0, .slice none 0 0) [(5, false), (4, true), (3, true), (2, true), (1, false), (0, true)] rfl
 refine h_call Z H (js := [(0, false), (5, false), (5, false), (5, false)]) rfl (caps := #[.pointer (some ⟨b_p1, 0, none⟩), .pointer (some ⟨b_p2, 0, none⟩), .pointer (some ⟨b_p3, 0, none⟩)]) fn_54_YRe rfl rfl rfl rfl rfl (by decide) rfl rfl (fun D1 hS => have hq := c_relay_counts_1 hx1 hS; hq) ?_; clear Z a; intro vv a w4 D2 hr hF2 Z
 obtain ⟨rfl, I1, K⟩ := hr
 have H : Hf I D w I1 w4 [OEMsg b2 x0, BxC b_p1 3 [.int .i64 p1], BxC b_p2 3 [.int .i64 p2], BxC b_p3 3 [.int .i64 p3], SlC NEPair (.slice none 0 0) ([] : List EPair), SlC NEEntry (.slice none 0 0) ([] : List EEntry), SlC NEOp (.slice none 0 0) ([] : List EOp), SlC NEMember (.slice none 0 0) ([] : List EMember), BxC b1 37 [.int .i64 0, .int .i64 0, .int .i64 0, .int .i64 0, .bool false, .int .u64 0, .int .u64 0, .int .i64 0, .int .i64 0, .int .i64 0, .int .i64 0, .string ByteArray.empty, .string ByteArray.empty, .int .i64 0, .slice none 0 0, .int .u64 0, .int .i64 0, .int .i64 0, .slice none 0 0, .slice none 0 0, .slice none 0 0, .slice none 0 0], BxC b_p1_2 22 [v1_p1_2], SlC NEEntry v1_p1_2 p1_2, BxC b_p2_2 3 [.int .i64 p2_2], BxC b_p3_2 3 [.int .i64 p3_2], BxC b_l 66 [.func (.func 54) #[] #[.pointer (some ⟨b_p1, 0, none⟩), .pointer (some ⟨b_p2, 0, none⟩), .pointer (some ⟨b_p3, 0, none⟩)], .func (.func 36) #[] #[.pointer (some ⟨b_p1_2, 0, none⟩), .pointer (some ⟨b_p2_2, 0, none⟩), .pointer (some ⟨b_p3_2, 0, none⟩)]]] := hF2 K
 clear hF2 K
 refine s_end Z [2, 6, 7, 14, 15, 16, 17, 18, 19, 9, 20] rfl ?_; clear Z; intro Z
 refine p_blk ?_
 refine p_then ?_
 refine f_region Z ?_; clear Z; intro Z
 refine s_ob Z (v := .int .i64 1) rfl rfl (by decide) rfl (Ob_add rfl rfl rfl (wrI (by decide))) ?_; clear Z a; intro a Z
 refine s_runk tRe Z 1 rfl rfl ?_; clear Z a; intro a Z
 refine s_end Z [2, 6, 7, 14, 15, 16, 17, 18, 19, 9, 20, 22] rfl ?_; clear Z; intro Z
 refine p_then ?_
 refine rounds_in ?_
 refine wp_seq (f_region Z ?_); clear Z; intro Z
 refine s_runk tRe Z 1 rfl rfl ?_; clear Z a; intro a Z
 refine s_end Z [2, 6, 7, 14, 15, 16, 17, 18, 19, 9, 20, 22] rfl ?_; clear Z; intro Z
 refine p_then (wp_seq ?_)
 refine wp_cond_true (Z.ev rfl) ?_
 refine wp_skip ?_
 refine p_then (wp_seq ?_)
 refine wp_block ?_
 refine wp_seq (f_region Z ?_); clear Z; intro Z
 refine s_ob Z (v := .pointer (some ⟨b_l, 1, none⟩)) rfl rfl (by decide) rfl (Ob_idx (b := b_l) (off := 0) (m := 1) tRe (1) rfl rfl rfl rfl rfl rfl (show 1 < 2 from by decide)) ?_; clear Z a; intro a Z
 refine s_ob Z (v := .func (.func 36) #[] #[.pointer (some ⟨b_p1_2, 0, none⟩), .pointer (some ⟨b_p2_2, 0, none⟩), .pointer (some ⟨b_p3_2, 0, none⟩)]) rfl rfl (by decide) rfl (Ob_load tRe rfl rfl rfl ((H.bx 13 rfl).cell 1 rfl)) ?_; clear Z a; intro a Z
 refine s_runk tRe Z 1 rfl rfl ?_; clear Z a; intro a Z
 refine s_end Z [2, 6, 7, 14, 15, 16, 17, 18, 19, 9, 20, 22] rfl ?_; clear Z; intro Z
 refine p_then ?_
 obtain ⟨x0_2, hx2, hF⟩ := bnd_in hF
 refine f_region Z ?_; clear Z; intro Z
 refine s_runk tRe Z 1 rfl rfl ?_; clear Z a; intro a Z
 refine h_call Z H (js := [(0, false), (8, false), (8, true), (9, false), (9, false)]) rfl (caps := #[.pointer (some ⟨b_p1_2, 0, none⟩), .pointer (some ⟨b_p2_2, 0, none⟩), .pointer (some ⟨b_p3_2, 0, none⟩)]) fn_36_YRe rfl rfl rfl rfl rfl (by decide) rfl rfl (fun D1 hS => have hq := c_relay_Ack_1 hx2 hS; hq) ?_; clear Z a; intro vv a w5 D2 hr hF2 Z
 obtain ⟨rfl, I2, K⟩ := hr
 have H : Hf I D w I2 w5 [OEMsg b2 x0_2, BxC b_p1_2 22 [v1_p1_2], BxC b_p2_2 3 [.int .i64 p2_2], BxC b_p3_2 3 [.int .i64 p3_2], BxC b_p1 3 [.int .i64 p1], BxC b_p2 3 [.int .i64 p2], BxC b_p3 3 [.int .i64 p3], SlC NEPair (.slice none 0 0) ([] : List EPair), SlC NEEntry (.slice none 0 0) ([] : List EEntry), SlC NEOp (.slice none 0 0) ([] : List EOp), SlC NEMember (.slice none 0 0) ([] : List EMember), BxC b1 37 [.int .i64 0, .int .i64 0, .int .i64 0, .int .i64 0, .bool false, .int .u64 0, .int .u64 0, .int .i64 0, .int .i64 0, .int .i64 0, .int .i64 0, .string ByteArray.empty, .string ByteArray.empty, .int .i64 0, .slice none 0 0, .int .u64 0, .int .i64 0, .int .i64 0, .slice none 0 0, .slice none 0 0, .slice none 0 0, .slice none 0 0], SlC NEEntry v1_p1_2 p1_2, BxC b_l 66 [.func (.func 54) #[] #[.pointer (some ⟨b_p1, 0, none⟩), .pointer (some ⟨b_p2, 0, none⟩), .pointer (some ⟨b_p3, 0, none⟩)], .func (.func 36) #[] #[.pointer (some ⟨b_p1_2, 0, none⟩), .pointer (some ⟨b_p2_2, 0, none⟩), .pointer (some ⟨b_p3_2, 0, none⟩)]]] := hF2 K
 clear hF2 K
 refine s_end Z [2, 6, 7, 14, 15, 16, 17, 18, 19, 9, 20, 22] rfl ?_; clear Z; intro Z
 refine p_blk ?_
 refine p_then ?_
 refine f_region Z ?_; clear Z; intro Z
 refine s_ob Z (v := .int .i64 2) rfl rfl (by decide) rfl (Ob_add rfl rfl rfl (wrI (by decide))) ?_; clear Z a; intro a Z
 refine s_runk tRe Z 1 rfl rfl ?_; clear Z a; intro a Z
 refine s_end Z [2, 6, 7, 14, 15, 16, 17, 18, 19, 9, 20, 22] rfl ?_; clear Z; intro Z
 refine p_then ?_
 refine rounds_in ?_
 refine wp_seq (f_region Z ?_); clear Z; intro Z
 refine s_runk tRe Z 1 rfl rfl ?_; clear Z a; intro a Z
 refine s_end Z [2, 6, 7, 14, 15, 16, 17, 18, 19, 9, 20, 22] rfl ?_; clear Z; intro Z
 refine p_then (wp_seq ?_)
 refine wp_cond_false (Z.ev rfl) ?_
 refine wp_exit ?_
 refine p_then_x ?_
 refine p_then_x ?_
 refine f_exit_here ?_
 refine p_then (wp_seq (f_region Z ?_)); clear Z; intro Z
 obtain ⟨⟨v2, v3, v4, v5, v6⟩, H⟩ := H.openX 0 rfl
 replace H : Hf I D w I2 w5 [BxC b2 37 (cEMsg x0_2 v2 v3 v4 v5 v6), SlC NEMember v2 x0_2.conf.members, SlC NEOp v3 x0_2.batch.ops, SlC NEEntry v4 x0_2.entries, OwC Nu64 24 v5 x0_2.stamps, SlC NEPair v6 x0_2.pairs, BxC b_p1_2 22 [v1_p1_2], BxC b_p2_2 3 [.int .i64 p2_2], BxC b_p3_2 3 [.int .i64 p3_2], BxC b_p1 3 [.int .i64 p1], BxC b_p2 3 [.int .i64 p2], BxC b_p3 3 [.int .i64 p3], SlC NEPair (.slice none 0 0) ([] : List EPair), SlC NEEntry (.slice none 0 0) ([] : List EEntry), SlC NEOp (.slice none 0 0) ([] : List EOp), SlC NEMember (.slice none 0 0) ([] : List EMember), BxC b1 37 [.int .i64 0, .int .i64 0, .int .i64 0, .int .i64 0, .bool false, .int .u64 0, .int .u64 0, .int .i64 0, .int .i64 0, .int .i64 0, .int .i64 0, .string ByteArray.empty, .string ByteArray.empty, .int .i64 0, .slice none 0 0, .int .u64 0, .int .i64 0, .int .i64 0, .slice none 0 0, .slice none 0 0, .slice none 0 0, .slice none 0 0], SlC NEEntry v1_p1_2 p1_2, BxC b_l 66 [.func (.func 54) #[] #[.pointer (some ⟨b_p1, 0, none⟩), .pointer (some ⟨b_p2, 0, none⟩), .pointer (some ⟨b_p3, 0, none⟩)], .func (.func 36) #[] #[.pointer (some ⟨b_p1_2, 0, none⟩), .pointer (some ⟨b_p2_2, 0, none⟩), .pointer (some ⟨b_p3_2, 0, none⟩)]]] := H
 refine s_ob Z (v := .agg #[.int .i64 x0_2.k, .int .i64 x0_2.epoch, .int .i64 x0_2.req, .int .i64 x0_2.serial, .bool x0_2.flag, .int .u64 x0_2.at_, .int .u64 x0_2.last, .int .i64 x0_2.n, .int .i64 x0_2.m, .int .i64 x0_2.p, .int .i64 x0_2.e, .string x0_2.key, .string x0_2.to_, .int .i64 x0_2.conf.epoch, v2, .int .u64 x0_2.conf.floor, .int .i64 x0_2.batch.client, .int .i64 x0_2.batch.req, v3, v4, v5, v6]) rfl rfl (by decide) rfl (Ob_loads tRe rfl rfl rfl ((H.bx 0 rfl).part 0 rfl)) ?_; clear Z a; intro a Z
 refine h_store tRe Z H 16 rfl rfl rfl rfl rfl rfl rfl rfl rfl (one_cons rfl (one_cons rfl (one_cons rfl (one_cons rfl (one_cons rfl (one_cons rfl (one_cons rfl (one_cons rfl (one_cons rfl (one_cons rfl (one_cons rfl (one_cons rfl (one_cons rfl (one_cons rfl (one_cons (slS.one (H.slshape 1 rfl)) (one_cons rfl (one_cons rfl (one_cons rfl (one_cons (slS.one (H.slshape 2 rfl)) (one_cons (slS.one (H.slshape 3 rfl)) (one_cons (slS.one (H.owshape 4 rfl)) (one_cons (slS.one (H.slshape 5 rfl)) one_nil)))))))))))))))))))))) (Nat.le_of_ble_eq_true rfl) (putCells_all rfl) ?_; clear H; intro w6 H
 dsimp only [List.eraseIdx] at H
 refine s_end Z [2, 6] rfl ?_; clear Z; intro Z
 refine p_then (wp_ret ?_)
 obtain ⟨I3, _, H⟩ := H.frzow 5 rfl
 replace H : Hf I D w I3 w6 [SlC Nu64 v5 x0_2.stamps, BxC b1 37 (cEMsg x0_2 v2 v3 v4 v5 v6), BxC b2 37 (cEMsg x0_2 v2 v3 v4 v5 v6), SlC NEMember v2 x0_2.conf.members, SlC NEOp v3 x0_2.batch.ops, SlC NEEntry v4 x0_2.entries, SlC NEPair v6 x0_2.pairs, BxC b_p1_2 22 [v1_p1_2], BxC b_p2_2 3 [.int .i64 p2_2], BxC b_p3_2 3 [.int .i64 p3_2], BxC b_p1 3 [.int .i64 p1], BxC b_p2 3 [.int .i64 p2], BxC b_p3 3 [.int .i64 p3], SlC NEPair (.slice none 0 0) ([] : List EPair), SlC NEEntry (.slice none 0 0) ([] : List EEntry), SlC NEOp (.slice none 0 0) ([] : List EOp), SlC NEMember (.slice none 0 0) ([] : List EMember), SlC NEEntry v1_p1_2 p1_2, BxC b_l 66 [.func (.func 54) #[] #[.pointer (some ⟨b_p1, 0, none⟩), .pointer (some ⟨b_p2, 0, none⟩), .pointer (some ⟨b_p3, 0, none⟩)], .func (.func 36) #[] #[.pointer (some ⟨b_p1_2, 0, none⟩), .pointer (some ⟨b_p2_2, 0, none⟩), .pointer (some ⟨b_p3_2, 0, none⟩)]]] := H
 obtain rfl := some_in hF
 exact f_ret Z (run_resultsC rfl Z rfl (run_loadVar_agg tRe rfl (H.bx 1 rfl).at)) ⟨v2, v3, v4, v5, v6, rfl, I3, (H.sub [(10, false), (10, false), (10, false), (7, false), (7, false), (7, false), (12, false), (3, true), (4, true), (5, true), (0, true), (6, true)] rfl).eq rfl⟩

def F_relay_Ack (epoch : Int) (good : Int) (held : Int) (from_ : Int) (l : List EEntry) : Option EMsg := (F_relay_fit good (l.length : Int)).bind fun f => ((F_relay_fit from_ f).bind fun f_2 => ((F_relay_counts f held f_2).bind fun c => ((F_relay_made__relay_Ack_1 4 epoch c.1 c.2.1 c.2.2 l f_2 f).bind fun x0 => (some x0))))

set_option maxHeartbeats 1000000 in
theorem c_relay_Ack {I D : Dm} {epoch : Int} {good : Int} {held : Int} {from_ : Int} {l : List EEntry} {v1_l : Value} {w : World} {rr : EMsg} (hF : F_relay_Ack epoch good held from_ l = some rr) (H : St I D w [SlC NEEntry v1_l l]) :
  Calls Try.prog 10 #[.int .i64 epoch, .int .i64 good, .int .i64 held, .int .i64 from_, v1_l] w (Ret fun vv w' => ∃ q1 q2 q3 q4 q5 : Value, vv = .agg #[.int .i64 rr.k, .int .i64 rr.epoch, .int .i64 rr.req, .int .i64 rr.serial, .bool rr.flag, .int .u64 rr.at_, .int .u64 rr.last, .int .i64 rr.n, .int .i64 rr.m, .int .i64 rr.p, .int .i64 rr.e, .string rr.key, .string rr.to_, .int .i64 rr.conf.epoch, q1, .int .u64 rr.conf.floor, .int .i64 rr.batch.client, .int .i64 rr.batch.req, q2, q3, q4, q5] ∧ ∃ I', Hf I D w I' w' [SlC NEMember q1 rr.conf.members, SlC NEOp q2 rr.batch.ops, SlC NEEntry q3 rr.entries, SlC Nu64 q4 rr.stamps, SlC NEPair q5 rr.pairs]) := by
 replace H := H.hf
 unfold F_relay_Ack at hF
 refine f_enter 30 Try.func10 rfl rfl (Nat.le_of_ble_eq_true rfl) fun a Z => ?_
 replace Z := Z.sub (ts := [0, 1, 2, 3, 4]) rfl
 refine wp_seq (f_region Z ?_); clear Z; intro Z
 refine h_boxv Z H (cl := [v1_l]) rfl rfl rfl (by decide) rfl rfl (slS.cells (H.slshape 0 rfl)) ?_; clear Z a H; intro a w1 b1 H Z
 refine h_alloc Z H (cl := [.int .i64 0, .int .i64 0, .int .i64 0, .int .i64 0, .bool false, .int .u64 0, .int .u64 0, .int .i64 0, .int .i64 0, .int .i64 0, .int .i64 0, .string ByteArray.empty, .string ByteArray.empty, .int .i64 0, .slice none 0 0, .int .u64 0, .int .i64 0, .int .i64 0, .slice none 0 0, .slice none 0 0, .slice none 0 0, .slice none 0 0]) (z := .agg #[.int .i64 0, .int .i64 0, .int .i64 0, .int .i64 0, .bool false, .int .u64 0, .int .u64 0, .int .i64 0, .int .i64 0, .int .i64 0, .int .i64 0, .string ByteArray.empty, .string ByteArray.empty, .int .i64 0, .slice none 0 0, .int .u64 0, .int .i64 0, .int .i64 0, .slice none 0 0, .slice none 0 0, .slice none 0 0, .slice none 0 0]) rfl rfl rfl (by decide) rfl (by kernel_rfl) rfl ?_; clear Z a H; intro a w2 b2 H Z
 refine s_end Z [0, 1, 2, 3, 9, 10] rfl ?_; clear Z; intro Z
 refine p_then (wp_seq ?_)
 obtain ⟨f, hx1, hF⟩ := bnd_in hF
 refine f_region Z ?_; clear Z; intro Z
 refine s_runk tRe Z 1 rfl rfl ?_; clear Z a; intro a Z
 refine s_ob Z (v := v1_l) rfl rfl (by decide) rfl (Ob_load tRe rfl rfl rfl ((H.bx 1 rfl).cell 0 rfl)) ?_; clear Z a; intro a Z
 refine s_ob Z (v := .int .i64 (l.length : Int)) rfl rfl (by decide) rfl (Ob_slen tRe rfl rfl rfl (H.slshape 2 rfl)) ?_; clear Z a; intro a Z
 refine h_call Z H (js := []) rfl (caps := #[]) fn_29_YRe rfl rfl rfl rfl rfl (by decide) rfl rfl (fun D1 hS => have hq := c_relay_fit hx1 hS; hq) ?_; clear Z a; intro vv a w3 D2 hr hF2 Z
 obtain ⟨rfl, I1, K⟩ := hr
 have H : Hf I D w I1 w3 [BxC b2 37 [.int .i64 0, .int .i64 0, .int .i64 0, .int .i64 0, .bool false, .int .u64 0, .int .u64 0, .int .i64 0, .int .i64 0, .int .i64 0, .int .i64 0, .string ByteArray.empty, .string ByteArray.empty, .int .i64 0, .slice none 0 0, .int .u64 0, .int .i64 0, .int .i64 0, .slice none 0 0, .slice none 0 0, .slice none 0 0, .slice none 0 0], BxC b1 22 [v1_l], SlC NEEntry v1_l l] := hF2 K
 clear hF2 K
 refine h_alloc Z H (cl := [.int .i64 0]) (z := .int .i64 0) rfl rfl rfl (by decide) rfl (by kernel_rfl) rfl ?_; clear Z a H; intro a w4 b3 H Z
 refine h_store tRe Z H 0 rfl rfl rfl rfl rfl rfl rfl rfl rfl (one_cons rfl one_nil) (Nat.le_of_ble_eq_true rfl) rfl ?_; clear H; intro w5 H
 dsimp only [List.eraseIdx] at H
 refine s_end Z [0, 2, 3, 9, 10, 11] rfl ?_; clear Z; intro Z
 refine p_then (wp_seq ?_)
 obtain ⟨f_2, hx2, hF⟩ := bnd_in hF
 refine f_region Z ?_; clear Z; intro Z
 refine s_runk tRe Z 1 rfl rfl ?_; clear Z a; intro a Z
 refine s_ob Z (v := .int .i64 f) rfl rfl (by decide) rfl (Ob_load tRe rfl rfl rfl ((H.bx 0 rfl).cell 0 rfl)) ?_; clear Z a; intro a Z
 refine h_call Z H (js := []) rfl (caps := #[]) fn_29_YRe rfl rfl rfl rfl rfl (by decide) rfl rfl (fun D1 hS => have hq := c_relay_fit hx2 hS; hq) ?_; clear Z a; intro vv a w6 D2 hr hF2 Z
 obtain ⟨rfl, I2, K⟩ := hr
 have H : Hf I D w I2 w6 [BxC b3 3 [.int .i64 f], BxC b2 37 [.int .i64 0, .int .i64 0, .int .i64 0, .int .i64 0, .bool false, .int .u64 0, .int .u64 0, .int .i64 0, .int .i64 0, .int .i64 0, .int .i64 0, .string ByteArray.empty, .string ByteArray.empty, .int .i64 0, .slice none 0 0, .int .u64 0, .int .i64 0, .int .i64 0, .slice none 0 0, .slice none 0 0, .slice none 0 0, .slice none 0 0], BxC b1 22 [v1_l], SlC NEEntry v1_l l] := hF2 K
 clear hF2 K
 refine h_alloc Z H (cl := [.int .i64 0]) (z := .int .i64 0) rfl rfl rfl (by decide) rfl (by kernel_rfl) rfl ?_; clear Z a H; intro a w7 b4 H Z
 refine h_store tRe Z H 0 rfl rfl rfl rfl rfl rfl rfl rfl rfl (one_cons rfl one_nil) (Nat.le_of_ble_eq_true rfl) rfl ?_; clear H; intro w8 H
 dsimp only [List.eraseIdx] at H
 refine s_end Z [0, 2, 9, 10, 11, 12] rfl ?_; clear Z; intro Z
 refine p_then (wp_seq (f_region Z ?_)); clear Z; intro Z
 refine s_runk tRe Z 2 rfl rfl ?_; clear Z a; intro a Z
 refine s_end Z [0, 2, 10, 11, 12, 13] rfl ?_; clear Z; intro Z
 refine p_then (wp_seq ?_)
 obtain ⟨c, hx3, hF⟩ := bnd_in hF
 obtain ⟨x0, hx4, hF⟩ := bnd_in hF
 refine f_region Z ?_; clear Z; intro Z
 refine s_runk tRe Z 1 rfl rfl ?_; clear Z a; intro a Z
 refine s_ob Z (v := .int .i64 f) rfl rfl (by decide) rfl (Ob_load tRe rfl rfl rfl ((H.bx 1 rfl).cell 0 rfl)) ?_; clear Z a; intro a Z
 refine s_runk tRe Z 1 rfl rfl ?_; clear Z a; intro a Z
 refine s_ob Z (v := .int .i64 f_2) rfl rfl (by decide) rfl (Ob_load tRe rfl rfl rfl ((H.bx 0 rfl).cell 0 rfl)) ?_; clear Z a; intro a Z
 refine h_call Z H (js := []) rfl (caps := #[]) fn_34_YRe rfl rfl rfl rfl rfl (by decide) rfl rfl (fun D1 hS => have hq := c_relay_counts hx3 hS; hq) ?_; clear Z a; intro vv a w9 D2 hr hF2 Z
 obtain ⟨g1, g2, g3, rfl, I3, K⟩ := hr
 have H : Hf I D w I3 w9 [BxC g1 3 [.int .i64 c.1], BxC g2 3 [.int .i64 c.2.1], BxC g3 3 [.int .i64 c.2.2], BxC b4 3 [.int .i64 f_2], BxC b3 3 [.int .i64 f], BxC b2 37 [.int .i64 0, .int .i64 0, .int .i64 0, .int .i64 0, .bool false, .int .u64 0, .int .u64 0, .int .i64 0, .int .i64 0, .int .i64 0, .int .i64 0, .string ByteArray.empty, .string ByteArray.empty, .int .i64 0, .slice none 0 0, .int .u64 0, .int .i64 0, .int .i64 0, .slice none 0 0, .slice none 0 0, .slice none 0 0, .slice none 0 0], BxC b1 22 [v1_l], SlC NEEntry v1_l l] := hF2 K
 clear hF2 K
 refine s_runk tRe Z 1 rfl rfl ?_; clear Z a; intro a Z
 refine h_bslice Z H (vs := [(0, .func (.func 54) #[] #[.pointer (some ⟨g1, 0, none⟩), .pointer (some ⟨g2, 0, none⟩), .pointer (some ⟨g3, 0, none⟩)]), (1, .func (.func 36) #[] #[.pointer (some ⟨b1, 0, none⟩), .pointer (some ⟨b4, 0, none⟩), .pointer (some ⟨b3, 0, none⟩)])]) (cl := [.func (.func 54) #[] #[.pointer (some ⟨g1, 0, none⟩), .pointer (some ⟨g2, 0, none⟩), .pointer (some ⟨g3, 0, none⟩)], .func (.func 36) #[] #[.pointer (some ⟨b1, 0, none⟩), .pointer (some ⟨b4, 0, none⟩), .pointer (some ⟨b3, 0, none⟩)]]) (e := 66) rfl rfl rfl (by decide) rfl rfl (fun w => run_bslice (z := .nilFunc) (m := 1) Try.underlying97 (by kernel_rfl) rfl rfl (by decide) (by simp [Instr.fill, Value.cells]) w) ?_; clear Z a H; intro a w10 b5 H Z
 refine h_call Z H (js := [(1, false), (1, false), (1, false), (4, false), (4, true), (1, false), (1, false), (0, false)]) rfl (caps := #[]) fn_33_YRe rfl rfl rfl rfl rfl (by decide) rfl rfl (fun D1 hS => have hq := c_relay_made__relay_Ack_1 hx4 hS; hq) ?_; clear Z a; intro vv a w11 D2 hr hF2 Z
 obtain ⟨q1, q2, q3, q4, q5, rfl, I4, K⟩ := hr
 have H : Hf I D w I4 w11 [BxC g1 3 [.int .i64 c.1], BxC g2 3 [.int .i64 c.2.1], BxC g3 3 [.int .i64 c.2.2], BxC b1 22 [v1_l], BxC b4 3 [.int .i64 f_2], BxC b3 3 [.int .i64 f], BxC b5 66 [.func (.func 54) #[] #[.pointer (some ⟨g1, 0, none⟩), .pointer (some ⟨g2, 0, none⟩), .pointer (some ⟨g3, 0, none⟩)], .func (.func 36) #[] #[.pointer (some ⟨b1, 0, none⟩), .pointer (some ⟨b4, 0, none⟩), .pointer (some ⟨b3, 0, none⟩)]], SlC NEMember q1 x0.conf.members, SlC NEOp q2 x0.batch.ops, SlC NEEntry q3 x0.entries, SlC Nu64 q4 x0.stamps, SlC NEPair q5 x0.pairs, BxC b2 37 [.int .i64 0, .int .i64 0, .int .i64 0, .int .i64 0, .bool false, .int .u64 0, .int .u64 0, .int .i64 0, .int .i64 0, .int .i64 0, .int .i64 0, .string ByteArray.empty, .string ByteArray.empty, .int .i64 0, .slice none 0 0, .int .u64 0, .int .i64 0, .int .i64 0, .slice none 0 0, .slice none 0 0, .slice none 0 0, .slice none 0 0], SlC NEEntry v1_l l] := hF2 K
 clear hF2 K
 refine h_store tRe Z H 12 rfl rfl rfl rfl rfl rfl rfl rfl rfl (one_cons rfl (one_cons rfl (one_cons rfl (one_cons rfl (one_cons rfl (one_cons rfl (one_cons rfl (one_cons rfl (one_cons rfl (one_cons rfl (one_cons rfl (one_cons rfl (one_cons rfl (one_cons rfl (one_cons (slS.one (H.slshape 7 rfl)) (one_cons rfl (one_cons rfl (one_cons rfl (one_cons (slS.one (H.slshape 8 rfl)) (one_cons (slS.one (H.slshape 9 rfl)) (one_cons (slS.one (H.slshape 10 rfl)) (one_cons (slS.one (H.slshape 11 rfl)) one_nil)))))))))))))))))))))) (Nat.le_of_ble_eq_true rfl) (putCells_all rfl) ?_; clear H; intro w12 H
 dsimp only [List.eraseIdx] at H
 refine s_end Z [10] rfl ?_; clear Z; intro Z
 refine p_then (wp_ret ?_)
 obtain rfl := some_in hF
 exact f_ret Z (run_resultsC rfl Z rfl (run_loadVar_agg tRe rfl (H.bx 0 rfl).at)) ⟨q1, q2, q3, q4, q5, rfl, I4, (H.sub [(8, true), (9, true), (10, true), (11, true), (12, true)] rfl).eq rfl⟩

def F_relay_Fwd_2 (x : EMsg) (p1 : Int) (p2 : Int) : Option EMsg := some ({ x with req := max p1 0, at_ := p2 } : EMsg)

set_option maxHeartbeats 1000000 in
theorem c_relay_Fwd_2 {I D : Dm} {b_x : Nat} {x : EMsg} {b_p1 : Nat} {p1 : Int} {b_p2 : Nat} {p2 : Int} {w : World} {rr : EMsg} (hF : F_relay_Fwd_2 x p1 p2 = some rr) (H : St I D w [OEMsg b_x x, BxC b_p1 3 [.int .i64 p1], BxC b_p2 24 [.int .u64 p2]]) :
  Calls Try.prog 32 #[.pointer (some ⟨b_x, 0, none⟩), .pointer (some ⟨b_p1, 0, none⟩), .pointer (some ⟨b_p2, 0, none⟩)] w (Ret fun vv w' => vv = .tuple #[] ∧ ∃ I', Hf I D w I' w' [OEMsg b_x rr, BxC b_p1 3 [.int .i64 p1], BxC b_p2 24 [.int .u64 p2]]) := by
 replace H := H.hf
 unfold F_relay_Fwd_2 at hF
 refine f_enter 13 Try.func32 rfl rfl (Nat.le_of_ble_eq_true rfl) fun a Z => ?_
 replace Z := Z.sub (ts := [0, 1, 2]) rfl
 obtain ⟨⟨v1, v2, v3, v4, v5⟩, H⟩ := H.openX 0 rfl
 replace H : Hf I D w I w [BxC b_x 37 (cEMsg x v1 v2 v3 v4 v5), SlC NEMember v1 x.conf.members, SlC NEOp v2 x.batch.ops, SlC NEEntry v3 x.entries, OwC Nu64 24 v4 x.stamps, SlC NEPair v5 x.pairs, BxC b_p1 3 [.int .i64 p1], BxC b_p2 24 [.int .u64 p2]] := H
 refine f_regionL Z (by kernel_rfl) (by kernel_rfl) (by decide) (by decide) [7, 10] [(0, 0, 0), (0, 0, 1), (0, 0, 0), (4, 0, 0), (0, 0, 1), (13, 0, 0), (45, 0, 0), (109, 0, 0), (255, 1, 1), (511, 1, 1), (1023, 1, 1)] (by kernel_rfl) (fun jj vv => match jj with | 0 => vv = .pointer (some ⟨b_x, 0, none⟩) | 1 => vv = .pointer (some ⟨b_x, 0, none⟩) | 2 => vv = .int .i64 p1 | 3 => vv = .int .i64 (max p1 0) | 4 => vv = .int .u64 p2 | 5 => vv = .pointer (some ⟨b_x, 0, none⟩) | 6 => vv = .pointer (some ⟨b_x, 2, none⟩) | 7 => True | 8 => vv = .pointer (some ⟨b_x, 0, none⟩) | 9 => vv = .pointer (some ⟨b_x, 5, none⟩) | 10 => True | _ => True) (fun ss vals1 xw => match ss with | 0 => Gx I D w I w xw [BxC b_x 37 (cEMsg x v1 v2 v3 v4 v5), SlC NEMember v1 x.conf.members, SlC NEOp v2 x.batch.ops, SlC NEEntry v3 x.entries, OwC Nu64 24 v4 x.stamps, SlC NEPair v5 x.pairs, BxC b_p1 3 [.int .i64 p1], BxC b_p2 24 [.int .u64 p2]] | 1 => Gx I D w I w xw [BxC b_x 37 [.int .i64 x.k, .int .i64 x.epoch, .int .i64 (max p1 0), .int .i64 x.serial, .bool x.flag, .int .u64 x.at_, .int .u64 x.last, .int .i64 x.n, .int .i64 x.m, .int .i64 x.p, .int .i64 x.e, .string x.key, .string x.to_, .int .i64 x.conf.epoch, v1, .int .u64 x.conf.floor, .int .i64 x.batch.client, .int .i64 x.batch.req, v2, v3, v4, v5], SlC NEMember v1 x.conf.members, SlC NEOp v2 x.batch.ops, SlC NEEntry v3 x.entries, OwC Nu64 24 v4 x.stamps, SlC NEPair v5 x.pairs, BxC b_p1 3 [.int .i64 p1], BxC b_p2 24 [.int .u64 p2]] | _ => Gx I D w I w xw [BxC b_x 37 [.int .i64 x.k, .int .i64 x.epoch, .int .i64 (max p1 0), .int .i64 x.serial, .bool x.flag, .int .u64 p2, .int .u64 x.last, .int .i64 x.n, .int .i64 x.m, .int .i64 x.p, .int .i64 x.e, .string x.key, .string x.to_, .int .i64 x.conf.epoch, v1, .int .u64 x.conf.floor, .int .i64 x.batch.client, .int .i64 x.batch.req, v2, v3, v4, v5], SlC NEMember v1 x.conf.members, SlC NEOp v2 x.batch.ops, SlC NEEntry v3 x.entries, OwC Nu64 24 v4 x.stamps, SlC NEPair v5 x.pairs, BxC b_p1 3 [.int .i64 p1], BxC b_p2 24 [.int .u64 p2]]) (fun _ => Gx.start H) ?_ ?_
 ·intro fr hfr hfe
  refine .cons (fun ss hlo hhi vals1 xw hG hV => ?_) ?_
  ·obtain rfl : ss = 0 := Nat.le_antisymm hhi hlo
   rw [← hfe]
   have hS := (hfr vals1).sub (ts := [0]) (S' := [(0, .pointer (some ⟨b_x, 0, none⟩))]) rfl
   exact L_val hS rfl (Ob_c tRe rfl) ⟨rfl, hG⟩
  refine .cons (fun ss hlo hhi vals1 xw hG hV => ?_) ?_
  ·obtain rfl | rfl : ss = 0 ∨ ss = 1 := st1 hlo hhi
   all_goals
   ·rw [← hfe]
    have hS := (hfr vals1).sub (ts := [0]) (S' := [(0, .pointer (some ⟨b_x, 0, none⟩))]) rfl
    exact L_val hS rfl (Ob_c tRe rfl) ⟨rfl, hG⟩
  refine .cons (fun ss hlo hhi vals1 xw hG hV => ?_) ?_
  ·obtain rfl : ss = 0 := Nat.le_antisymm hhi hlo
   rw [← hfe]
   have hS := (hfr vals1).sub (ts := [1]) (S' := [(1, .pointer (some ⟨b_p1, 0, none⟩))]) rfl
   obtain ⟨I2, hI2, H⟩ := Gx.ex hG
   exact L_val hS rfl (Ob_load tRe rfl rfl rfl ((H.bx 6 rfl).cell 0 rfl)) ⟨rfl, hG⟩
  refine .cons (fun ss hlo hhi vals1 xw hG hV => ?_) ?_
  ·obtain rfl : ss = 0 := Nat.le_antisymm hhi hlo
   rw [← hfe]
   have hS := (hfr vals1).sub (ts := [6]) (S' := [(6, vals1 2)]) rfl
   replace hS := hS.conv (t := 6) rfl (show (vals1 2) = .int .i64 p1 from hV 2 (by decide))
   exact L_val hS rfl (Ob_c tRe rfl) ⟨rfl, hG⟩
  refine .cons (fun ss hlo hhi vals1 xw hG hV => ?_) ?_
  ·obtain rfl | rfl : ss = 0 ∨ ss = 1 := st1 hlo hhi
   all_goals
   ·rw [← hfe]
    have hS := (hfr vals1).sub (ts := [2]) (S' := [(2, .pointer (some ⟨b_p2, 0, none⟩))]) rfl
    obtain ⟨I2, hI2, H⟩ := Gx.ex hG
    exact L_val hS rfl (Ob_load tRe rfl rfl rfl ((H.bx 7 rfl).cell 0 rfl)) ⟨rfl, hG⟩
  refine .cons (fun ss hlo hhi vals1 xw hG hV => ?_) ?_
  ·obtain rfl : ss = 0 := Nat.le_antisymm hhi hlo
   rw [← hfe]
   have hS := (hfr vals1).sub (ts := [4]) (S' := [(4, vals1 0)]) rfl
   replace hS := hS.conv (t := 4) rfl (show (vals1 0) = .pointer (some ⟨b_x, 0, none⟩) from hV 0 (by decide))
   exact L_val hS rfl (Ob_c tRe rfl) ⟨rfl, hG⟩
  refine .cons (fun ss hlo hhi vals1 xw hG hV => ?_) ?_
  ·obtain rfl : ss = 0 := Nat.le_antisymm hhi hlo
   rw [← hfe]
   have hS := (hfr vals1).sub (ts := [9]) (S' := [(9, vals1 5)]) rfl
   replace hS := hS.conv (t := 9) rfl (show (vals1 5) = .pointer (some ⟨b_x, 0, none⟩) from hV 5 (by decide))
   exact L_val hS rfl (Ob_c tRe rfl) ⟨rfl, hG⟩
  refine .cons (fun ss hlo hhi vals1 xw hG hV => ?_) ?_
  ·obtain rfl : ss = 0 := Nat.le_antisymm hhi hlo
   rw [← hfe]
   have hS := (hfr vals1).sub (ts := [10, 7]) (S' := [(10, vals1 6), (7, vals1 3)]) rfl
   replace hS := hS.conv (t := 10) rfl (show (vals1 6) = .pointer (some ⟨b_x, 2, none⟩) from hV 6 (by decide))
   replace hS := hS.conv (t := 7) rfl (show (vals1 3) = .int .i64 (max p1 0) from hV 3 (by decide))
   obtain ⟨I2, hI2, H⟩ := Gx.ex hG
   exact L_store tRe H 0 rfl hS rfl rfl rfl rfl rfl rfl rfl rfl (one_cons rfl one_nil) (Nat.le_of_ble_eq_true rfl) rfl fun yw hK H => ⟨trivial, Gx.go hG hI2 hK (fun _ h => h) H⟩
  refine .cons (fun ss hlo hhi vals1 xw hG hV => ?_) ?_
  ·obtain rfl : ss = 1 := Nat.le_antisymm hhi hlo
   rw [← hfe]
   have hS := (hfr vals1).sub (ts := [5]) (S' := [(5, vals1 1)]) rfl
   replace hS := hS.conv (t := 5) rfl (show (vals1 1) = .pointer (some ⟨b_x, 0, none⟩) from hV 1 (by decide))
   exact L_val hS rfl (Ob_c tRe rfl) ⟨rfl, hG⟩
  refine .cons (fun ss hlo hhi vals1 xw hG hV => ?_) ?_
  ·obtain rfl : ss = 1 := Nat.le_antisymm hhi hlo
   rw [← hfe]
   have hS := (hfr vals1).sub (ts := [11]) (S' := [(11, vals1 8)]) rfl
   replace hS := hS.conv (t := 11) rfl (show (vals1 8) = .pointer (some ⟨b_x, 0, none⟩) from hV 8 (by decide))
   exact L_val hS rfl (Ob_c tRe rfl) ⟨rfl, hG⟩
  refine .cons (fun ss hlo hhi vals1 xw hG hV => ?_) ?_
  ·obtain rfl : ss = 1 := Nat.le_antisymm hhi hlo
   rw [← hfe]
   have hS := (hfr vals1).sub (ts := [12, 8]) (S' := [(12, vals1 9), (8, vals1 4)]) rfl
   replace hS := hS.conv (t := 12) rfl (show (vals1 9) = .pointer (some ⟨b_x, 5, none⟩) from hV 9 (by decide))
   replace hS := hS.conv (t := 8) rfl (show (vals1 4) = .int .u64 p2 from hV 4 (by decide))
   obtain ⟨I2, hI2, H⟩ := Gx.ex hG
   exact L_store tRe H 0 rfl hS rfl rfl rfl rfl rfl rfl rfl rfl (one_cons rfl one_nil) (Nat.le_of_ble_eq_true rfl) rfl fun yw hK H => ⟨trivial, Gx.go hG hI2 hK (fun _ h => h) H⟩
  exact .nil
 ·intro vals1 a w1 Z hG hV
  replace Z := Z.sub (ts := []) (S' := []) rfl
  obtain ⟨I1, _, H⟩ := Gx.ex hG
  clear hG hV
  replace Z := Z.sub (ts := []) rfl
  replace H : Hf I D w I1 w1 [BxC b_x 37 [.int .i64 x.k, .int .i64 x.epoch, .int .i64 (max p1 0), .int .i64 x.serial, .bool x.flag, .int .u64 p2, .int .u64 x.last, .int .i64 x.n, .int .i64 x.m, .int .i64 x.p, .int .i64 x.e, .string x.key, .string x.to_, .int .i64 x.conf.epoch, v1, .int .u64 x.conf.floor, .int .i64 x.batch.client, .int .i64 x.batch.req, v2, v3, v4, v5], SlC NEMember v1 x.conf.members, SlC NEOp v2 x.batch.ops, SlC NEEntry v3 x.entries, OwC Nu64 24 v4 x.stamps, SlC NEPair v5 x.pairs, BxC b_p1 3 [.int .i64 p1], BxC b_p2 24 [.int .u64 p2]] := H
  replace H : Hf I D w I1 w1 [OEMsg b_x ({ x with req := max p1 0, at_ := p2 } : EMsg), SlC NEMember v1 x.conf.members, SlC NEOp v2 x.batch.ops, SlC NEEntry v3 x.entries, SlC NEPair v5 x.pairs, BxC b_p1 3 [.int .i64 p1], BxC b_p2 24 [.int .u64 p2]] := H.shutX (v1, v2, v3, v4, v5) [(0, false), (0, true), (1, true), (2, true), (3, false), (3, true)] rfl
  obtain rfl := some_in hF
  exact f_fall Z (run_results0 rfl) ⟨rfl, I1, (H.sub [(0, false), (4, false), (4, false)] rfl).eq rfl⟩

def F_relay_Fwd_1 (x : EMsg) (p1 : List EEntry) (p2 : Int) (p3 : Int) : Option EMsg := chk ((0 : Int) ≤ p2 ∧ p2 ≤ p3 ∧ p3 ≤ (p1.length : Int)) ((F_slices_Clone_api_Entry_api_Entry ((p1.take ((p3).toNat)).drop ((p2).toNat))).bind fun e => (some ({ x with entries := e } : EMsg)))

set_option maxHeartbeats 1000000 in
theorem c_relay_Fwd_1 {I D : Dm} {b_x : Nat} {x : EMsg} {b_p1 : Nat} {p1 : List EEntry} {v1_p1 : Value} {b_p2 : Nat} {p2 : Int} {b_p3 : Nat} {p3 : Int} {w : World} {rr : EMsg} (hF : F_relay_Fwd_1 x p1 p2 p3 = some rr) (H : St I D w [OEMsg b_x x, BxC b_p1 22 [v1_p1], SlC NEEntry v1_p1 p1, BxC b_p2 3 [.int .i64 p2], BxC b_p3 3 [.int .i64 p3]]) :
  Calls Try.prog 30 #[.pointer (some ⟨b_x, 0, none⟩), .pointer (some ⟨b_p1, 0, none⟩), .pointer (some ⟨b_p2, 0, none⟩), .pointer (some ⟨b_p3, 0, none⟩)] w (Ret fun vv w' => vv = .tuple #[] ∧ ∃ I', Hf I D w I' w' [OEMsg b_x rr, BxC b_p1 22 [v1_p1], BxC b_p2 3 [.int .i64 p2], BxC b_p3 3 [.int .i64 p3]]) := by
 replace H := H.hf
 unfold F_relay_Fwd_1 at hF
 refine f_enter 13 Try.func30 rfl rfl (Nat.le_of_ble_eq_true rfl) fun a Z => ?_
 replace Z := Z.sub (ts := [0, 1, 2, 3]) rfl
 obtain ⟨hg1, hF⟩ := chk_in hF
 obtain ⟨e, hx1, hF⟩ := bnd_in hF
 refine f_region Z ?_; clear Z; intro Z
 refine s_runk tRe Z 1 rfl rfl ?_; clear Z a; intro a Z
 refine s_ob Z (v := v1_p1) rfl rfl (by decide) rfl (Ob_load tRe rfl rfl rfl ((H.bx 1 rfl).cell 0 rfl)) ?_; clear Z a; intro a Z
 refine s_ob Z (v := .int .i64 p2) rfl rfl (by decide) rfl (Ob_load tRe rfl rfl rfl ((H.bx 3 rfl).cell 0 rfl)) ?_; clear Z a; intro a Z
 refine s_ob Z (v := .int .i64 p3) rfl rfl (by decide) rfl (Ob_load tRe rfl rfl rfl ((H.bx 4 rfl).cell 0 rfl)) ?_; clear Z a; intro a Z
 replace H : Hf I D w I w [SlC NEEntry (subV v1_p1 ((p2).toNat) ((p3).toNat) 4) ((p1.take ((p3).toNat)).drop ((p2).toNat)), OEMsg b_x x, BxC b_p1 22 [v1_p1], SlC NEEntry v1_p1 p1, BxC b_p2 3 [.int .i64 p2], BxC b_p3 3 [.int .i64 p3]] := H.slPart_of 2 rfl hg1 4 rfl
 refine s_ob Z (v := subV v1_p1 ((p2).toNat) ((p3).toNat) 4) rfl rfl (by decide) rfl (Ob_sub_of tRe rfl rfl rfl rfl rfl (H.slshape 3 rfl) hg1) ?_; clear Z a; intro a Z
 refine h_call Z H (js := [(0, true)]) rfl (caps := #[]) fn_31_YRe rfl rfl rfl rfl rfl (by decide) rfl rfl (fun D1 hS => have hq := c_slices_Clone_api_Entry_api_Entry hx1 hS; hq) ?_; clear Z a; intro vv a w1 D2 hr hF2 Z
 obtain ⟨q1, hvv, I1, K⟩ := hr; obtain rfl := hvv.symm
 have H : Hf I D w I1 w1 [OwC NEEntry 57 q1 e, SlC NEEntry (subV v1_p1 ((p2).toNat) ((p3).toNat) 4) ((p1.take ((p3).toNat)).drop ((p2).toNat)), OEMsg b_x x, BxC b_p1 22 [v1_p1], SlC NEEntry v1_p1 p1, BxC b_p2 3 [.int .i64 p2], BxC b_p3 3 [.int .i64 p3]] := hF2 K
 clear hF2 K
 refine s_runk tRe Z 2 rfl rfl ?_; clear Z a; intro a Z
 obtain ⟨⟨v2, v3, v4, v5, v6⟩, H⟩ := H.openX 2 rfl
 replace H : Hf I D w I1 w1 [BxC b_x 37 (cEMsg x v2 v3 v4 v5 v6), SlC NEMember v2 x.conf.members, SlC NEOp v3 x.batch.ops, SlC NEEntry v4 x.entries, OwC Nu64 24 v5 x.stamps, SlC NEPair v6 x.pairs, OwC NEEntry 57 q1 e, SlC NEEntry (subV v1_p1 ((p2).toNat) ((p3).toNat) 4) ((p1.take ((p3).toNat)).drop ((p2).toNat)), BxC b_p1 22 [v1_p1], SlC NEEntry v1_p1 p1, BxC b_p2 3 [.int .i64 p2], BxC b_p3 3 [.int .i64 p3]] := H
 refine h_store tRe Z H 0 rfl rfl rfl rfl rfl rfl (slS.cells (H.owshape 6 rfl)) rfl rfl (one_cons (slS.one (H.owshape 6 rfl)) one_nil) (Nat.le_of_ble_eq_true rfl) rfl ?_; clear H; intro w2 H
 dsimp only [List.eraseIdx] at H
 refine s_end Z [] rfl ?_; clear Z; intro Z
 obtain ⟨I2, _, H⟩ := H.frzow 6 rfl
 replace H : Hf I D w I2 w2 [SlC NEEntry q1 e, BxC b_x 37 [.int .i64 x.k, .int .i64 x.epoch, .int .i64 x.req, .int .i64 x.serial, .bool x.flag, .int .u64 x.at_, .int .u64 x.last, .int .i64 x.n, .int .i64 x.m, .int .i64 x.p, .int .i64 x.e, .string x.key, .string x.to_, .int .i64 x.conf.epoch, v2, .int .u64 x.conf.floor, .int .i64 x.batch.client, .int .i64 x.batch.req, v3, q1, v5, v6], SlC NEMember v2 x.conf.members, SlC NEOp v3 x.batch.ops, SlC NEEntry v4 x.entries, OwC Nu64 24 v5 x.stamps, SlC NEPair v6 x.pairs, SlC NEEntry (subV v1_p1 ((p2).toNat) ((p3).toNat) 4) ((p1.take ((p3).toNat)).drop ((p2).toNat)), BxC b_p1 22 [v1_p1], SlC NEEntry v1_p1 p1, BxC b_p2 3 [.int .i64 p2], BxC b_p3 3 [.int .i64 p3]] := H
 replace H : Hf I D w I2 w2 [OEMsg b_x ({ x with entries := e } : EMsg), SlC NEEntry q1 e, SlC NEMember v2 x.conf.members, SlC NEOp v3 x.batch.ops, SlC NEEntry v4 x.entries, SlC NEPair v6 x.pairs, SlC NEEntry (subV v1_p1 ((p2).toNat) ((p3).toNat) 4) ((p1.take ((p3).toNat)).drop ((p2).toNat)), BxC b_p1 22 [v1_p1], SlC NEEntry v1_p1 p1, BxC b_p2 3 [.int .i64 p2], BxC b_p3 3 [.int .i64 p3]] := H.shutX (v2, v3, q1, v5, v6) [(1, false), (1, true), (2, true), (0, true), (4, false), (4, true)] rfl
 obtain rfl := some_in hF
 exact f_fall Z (run_results0 rfl) ⟨rfl, I2, (H.sub [(0, false), (6, false), (7, false), (7, false)] rfl).eq rfl⟩

def F_relay_made__relay_Fwd_1 (kind : Int) (epoch : Int) (p1 : Int) (p2 : Int) (p3 : Int) (p1_2 : Int) (p2_2 : Int) (p1_3 : List EEntry) (p2_3 : Int) (p3_2 : Int) : Option EMsg := (F_relay_counts_1 ({ (default : EMsg) with k := kind, epoch := max epoch 0 } : EMsg) p1 p2 p3).bind fun x0 => ((F_relay_Fwd_2 x0 p1_2 p2_2).bind fun x0_2 => ((F_relay_Fwd_1 x0_2 p1_3 p2_3 p3_2).bind fun x0_3 => (some x0_3)))

set_option maxHeartbeats 1000000 in
theorem c_relay_made__relay_Fwd_1 {I D : Dm} {kind : Int} {epoch : Int} {b_l : Nat} {b_p1 : Nat} {p1 : Int} {b_p2 : Nat} {p2 : Int} {b_p3 : Nat} {p3 : Int} {b_p1_2 : Nat} {p1_2 : Int} {b_p2_2 : Nat} {p2_2 : Int} {b_p1_3 : Nat} {p1_3 : List EEntry} {v1_p1_3 : Value} {b_p2_3 : Nat} {p2_3 : Int} {b_p3_2 : Nat} {p3_2 : Int} {w : World} {rr : EMsg} (hF : F_relay_made__relay_Fwd_1 kind epoch p1 p2 p3 p1_2 p2_2 p1_3 p2_3 p3_2 = some rr) (H : St I D w [BxC b_p1 3 [.int .i64 p1], BxC b_p2 3 [.int .i64 p2], BxC b_p3 3 [.int .i64 p3], BxC b_p1_2 3 [.int .i64 p1_2], BxC b_p2_2 24 [.int .u64 p2_2], BxC b_p1_3 22 [v1_p1_3], SlC NEEntry v1_p1_3 p1_3, BxC b_p2_3 3 [.int .i64 p2_3], BxC b_p3_2 3 [.int .i64 p3_2], BxC b_l 66 [.func (.func 54) #[] #[.pointer (some ⟨b_p1, 0, none⟩), .pointer (some ⟨b_p2, 0, none⟩), .pointer (some ⟨b_p3, 0, none⟩)], .func (.func 32) #[] #[.pointer (some ⟨b_p1_2, 0, none⟩), .pointer (some ⟨b_p2_2, 0, none⟩)], .func (.func 30) #[] #[.pointer (some ⟨b_p1_3, 0, none⟩), .pointer (some ⟨b_p2_3, 0, none⟩), .pointer (some ⟨b_p3_2, 0, none⟩)]]]) :
  Calls Try.prog 33 #[.int .i64 kind, .int .i64 epoch, .slice (some ⟨b_l, 0, none⟩) 3 3] w (Ret fun vv w' => ∃ q1 q2 q3 q4 q5 : Value, vv = .agg #[.int .i64 rr.k, .int .i64 rr.epoch, .int .i64 rr.req, .int .i64 rr.serial, .bool rr.flag, .int .u64 rr.at_, .int .u64 rr.last, .int .i64 rr.n, .int .i64 rr.m, .int .i64 rr.p, .int .i64 rr.e, .string rr.key, .string rr.to_, .int .i64 rr.conf.epoch, q1, .int .u64 rr.conf.floor, .int .i64 rr.batch.client, .int .i64 rr.batch.req, q2, q3, q4, q5] ∧ ∃ I', Hf I D w I' w' [BxC b_p1 3 [.int .i64 p1], BxC b_p2 3 [.int .i64 p2], BxC b_p3 3 [.int .i64 p3], BxC b_p1_2 3 [.int .i64 p1_2], BxC b_p2_2 24 [.int .u64 p2_2], BxC b_p1_3 22 [v1_p1_3], BxC b_p2_3 3 [.int .i64 p2_3], BxC b_p3_2 3 [.int .i64 p3_2], BxC b_l 66 [.func (.func 54) #[] #[.pointer (some ⟨b_p1, 0, none⟩), .pointer (some ⟨b_p2, 0, none⟩), .pointer (some ⟨b_p3, 0, none⟩)], .func (.func 32) #[] #[.pointer (some ⟨b_p1_2, 0, none⟩), .pointer (some ⟨b_p2_2, 0, none⟩)], .func (.func 30) #[] #[.pointer (some ⟨b_p1_3, 0, none⟩), .pointer (some ⟨b_p2_3, 0, none⟩), .pointer (some ⟨b_p3_2, 0, none⟩)]], SlC NEMember q1 rr.conf.members, SlC NEOp q2 rr.batch.ops, SlC NEEntry q3 rr.entries, SlC Nu64 q4 rr.stamps, SlC NEPair q5 rr.pairs]) := by
 replace H := H.hf
 unfold F_relay_made__relay_Fwd_1 at hF
 refine f_enter 24 Try.func33 rfl rfl (Nat.le_of_ble_eq_true rfl) fun a Z => ?_
 replace Z := Z.sub (ts := [0, 1, 2]) rfl
 refine wp_seq (f_region Z ?_); clear Z; intro Z
 refine h_alloc Z H (cl := [.int .i64 0, .int .i64 0, .int .i64 0, .int .i64 0, .bool false, .int .u64 0, .int .u64 0, .int .i64 0, .int .i64 0, .int .i64 0, .int .i64 0, .string ByteArray.empty, .string ByteArray.empty, .int .i64 0, .slice none 0 0, .int .u64 0, .int .i64 0, .int .i64 0, .slice none 0 0, .slice none 0 0, .slice none 0 0, .slice none 0 0]) (z := .agg #[.int .i64 0, .int .i64 0, .int .i64 0, .int .i64 0, .bool false, .int .u64 0, .int .u64 0, .int .i64 0, .int .i64 0, .int .i64 0, .int .i64 0, .string ByteArray.empty, .string ByteArray.empty, .int .i64 0, .slice none 0 0, .int .u64 0, .int .i64 0, .int .i64 0, .slice none 0 0, .slice none 0 0, .slice none 0 0, .slice none 0 0]) rfl rfl rfl (by decide) rfl (by kernel_rfl) rfl ?_; clear Z a H; intro a w1 b1 H Z
 refine s_end Z [0, 1, 2, 6] rfl ?_; clear Z; intro Z
 refine p_then (wp_seq (f_region Z ?_)); clear Z; intro Z
 refine s_runk tRe Z 3 rfl rfl ?_; clear Z a; intro a Z
 refine s_ob Z (v := .agg #[.int .i64 kind, .int .i64 (max epoch 0), .int .i64 0, .int .i64 0, .bool false, .int .u64 0, .int .u64 0, .int .i64 0, .int .i64 0, .int .i64 0, .int .i64 0, .string ByteArray.empty, .string ByteArray.empty, .int .i64 0, .slice none 0 0, .int .u64 0, .int .i64 0, .int .i64 0, .slice none 0 0, .slice none 0 0, .slice none 0 0, .slice none 0 0]) rfl rfl (by decide) rfl (Ob_build (vs := [(0, .int .i64 kind), (1, .int .i64 (max epoch 0))]) rfl rfl (by go_simp <;> rfl)) ?_; clear Z a; intro a Z
 refine h_alloc Z H (cl := [.int .i64 0, .int .i64 0, .int .i64 0, .int .i64 0, .bool false, .int .u64 0, .int .u64 0, .int .i64 0, .int .i64 0, .int .i64 0, .int .i64 0, .string ByteArray.empty, .string ByteArray.empty, .int .i64 0, .slice none 0 0, .int .u64 0, .int .i64 0, .int .i64 0, .slice none 0 0, .slice none 0 0, .slice none 0 0, .slice none 0 0]) (z := .agg #[.int .i64 0, .int .i64 0, .int .i64 0, .int .i64 0, .bool false, .int .u64 0, .int .u64 0, .int .i64 0, .int .i64 0, .int .i64 0, .int .i64 0, .string ByteArray.empty, .string ByteArray.empty, .int .i64 0, .slice none 0 0, .int .u64 0, .int .i64 0, .int .i64 0, .slice none 0 0, .slice none 0 0, .slice none 0 0, .slice none 0 0]) rfl rfl rfl (by decide) rfl (by kernel_rfl) rfl ?_; clear Z a H; intro a w2 b2 H Z
 refine h_store tRe Z H 0 rfl rfl rfl rfl rfl rfl rfl rfl rfl (one_cons rfl (one_cons rfl (one_cons rfl (one_cons rfl (one_cons rfl (one_cons rfl (one_cons rfl (one_cons rfl (one_cons rfl (one_cons rfl (one_cons rfl (one_cons rfl (one_cons rfl (one_cons rfl (one_cons (slS.one slS.nil) (one_cons rfl (one_cons rfl (one_cons rfl (one_cons (slS.one slS.nil) (one_cons (slS.one slS.nil) (one_cons (slS.one slS.nil) (one_cons (slS.one slS.nil) one_nil)))))))))))))))))))))) (Nat.le_of_ble_eq_true rfl) (putCells_all rfl) ?_; clear H; intro w3 H
 dsimp only [List.eraseIdx] at H
 refine s_end Z [2, 6, 7] rfl ?_; clear Z; intro Z
 refine p_then (wp_seq ?_)
 refine wp_seq (f_region Z ?_); clear Z; intro Z
 refine s_runk tRe Z 1 rfl rfl ?_; clear Z a; intro a Z
 refine s_ob Z (v := .int .i64 3) rfl rfl (by decide) rfl (Ob_slen tRe rfl rfl rfl (slS.lit _ _ (by decide))) ?_; clear Z a; intro a Z
 refine s_runk tRe Z 1 rfl rfl ?_; clear Z a; intro a Z
 refine s_end Z [2, 6, 7, 14, 15, 16] rfl ?_; clear Z; intro Z
 refine p_then (wp_block ?_)
 refine wp_loop_rounds 4 ?_
 refine rounds_in ?_
 refine wp_seq (f_region Z ?_); clear Z; intro Z
 refine s_runk tRe Z 1 rfl rfl ?_; clear Z a; intro a Z
 refine s_end Z [2, 6, 7, 14, 15, 16, 17] rfl ?_; clear Z; intro Z
 refine p_then (wp_seq ?_)
 refine wp_cond_true (Z.ev rfl) ?_
 refine wp_skip ?_
 refine p_then (wp_seq ?_)
 refine wp_block ?_
 refine wp_seq (f_region Z ?_); clear Z; intro Z
 refine s_ob Z (v := .pointer (some ⟨b_l, 0, none⟩)) rfl rfl (by decide) rfl (Ob_idx (b := b_l) (off := 0) (m := 1) tRe (0) rfl rfl rfl rfl rfl rfl (show 0 < 3 from by decide)) ?_; clear Z a; intro a Z
 refine s_ob Z (v := .func (.func 54) #[] #[.pointer (some ⟨b_p1, 0, none⟩), .pointer (some ⟨b_p2, 0, none⟩), .pointer (some ⟨b_p3, 0, none⟩)]) rfl rfl (by decide) rfl (Ob_load tRe rfl rfl rfl ((H.bx 11 rfl).cell 0 rfl)) ?_; clear Z a; intro a Z
 refine s_runk tRe Z 1 rfl rfl ?_; clear Z a; intro a Z
 refine s_end Z [2, 6, 7, 14, 15, 16, 17, 18, 19, 9] rfl ?_; clear Z; intro Z
 refine p_then ?_
 obtain ⟨x0, hx1, hF⟩ := bnd_in hF
 refine f_region Z ?_; clear Z; intro Z
 refine s_runk tRe Z 1 rfl rfl ?_; clear Z a; intro a Z
 replace H : Hf I D w I w3 [SlC NEMember (.slice none 0 0) ([] : List EMember), BxC b2 37 [.int .i64 kind, .int .i64 (max epoch 0), .int .i64 0, .int .i64 0, .bool false, .int .u64 0, .int .u64 0, .int .i64 0, .int .i64 0, .int .i64 0, .int .i64 0, .string ByteArray.empty, .string ByteArray.empty, .int .i64 0, .slice none 0 0, .int .u64 0, .int .i64 0, .int .i64 0, .slice none 0 0, .slice none 0 0, .slice none 0 0, .slice none 0 0], BxC b1 37 [.int .i64 0, .int .i64 0, .int .i64 0, .int .i64 0, .bool false, .int .u64 0, .int .u64 0, .int .i64 0, .int .i64 0, .int .i64 0, .int .i64 0, .string ByteArray.empty, .string ByteArray.empty, .int .i64 0, .slice none 0 0, .int .u64 0, .int .i64 0, .int .i64 0, .slice none 0 0, .slice none 0 0, .slice none 0 0, .slice none 0 0], BxC b_p1 3 [.int .i64 p1], BxC b_p2 3 [.int .i64 p2], BxC b_p3 3 [.int .i64 p3], BxC b_p1_2 3 [.int .i64 p1_2], BxC b_p2_2 24 [.int .u64 p2_2], BxC b_p1_3 22 [v1_p1_3], SlC NEEntry v1_p1_3 p1_3, BxC b_p2_3 3 [.int .i64 p2_3], BxC b_p3_2 3 [.int .i64 p3_2], BxC b_l 66 [.func (.func 54) #[] #[.pointer (some ⟨b_p1, 0, none⟩), .pointer (some ⟨b_p2, 0, none⟩), .pointer (some ⟨b_p3, 0, none⟩)], .func (.func 32) #[] #[.pointer (some ⟨b_p1_2, 0, none⟩), .pointer (some ⟨b_p2_2, 0, none⟩)], .func (.func 30) #[] #[.pointer (some ⟨b_p1_3, 0, none⟩), .pointer (some ⟨b_p2_3, 0, none⟩), .pointer (some ⟨b_p3_2, 0, none⟩)]]] := H.slNil NEMember
 replace H : Hf I D w I w3 [SlC NEOp (.slice none 0 0) ([] : List EOp), SlC NEMember (.slice none 0 0) ([] : List EMember), BxC b2 37 [.int .i64 kind, .int .i64 (max epoch 0), .int .i64 0, .int .i64 0, .bool false, .int .u64 0, .int .u64 0, .int .i64 0, .int .i64 0, .int .i64 0, .int .i64 0, .string ByteArray.empty, .string ByteArray.empty, .int .i64 0, .slice none 0 0, .int .u64 0, .int .i64 0, .int .i64 0, .slice none 0 0, .slice none 0 0, .slice none 0 0, .slice none 0 0], BxC b1 37 [.int .i64 0, .int .i64 0, .int .i64 0, .int .i64 0, .bool false, .int .u64 0, .int .u64 0, .int .i64 0, .int .i64 0, .int .i64 0, .int .i64 0, .string ByteArray.empty, .string ByteArray.empty, .int .i64 0, .slice none 0 0, .int .u64 0, .int .i64 0, .int .i64 0, .slice none 0 0, .slice none 0 0, .slice none 0 0, .slice none 0 0], BxC b_p1 3 [.int .i64 p1], BxC b_p2 3 [.int .i64 p2], BxC b_p3 3 [.int .i64 p3], BxC b_p1_2 3 [.int .i64 p1_2], BxC b_p2_2 24 [.int .u64 p2_2], BxC b_p1_3 22 [v1_p1_3], SlC NEEntry v1_p1_3 p1_3, BxC b_p2_3 3 [.int .i64 p2_3], BxC b_p3_2 3 [.int .i64 p3_2], BxC b_l 66 [.func (.func 54) #[] #[.pointer (some ⟨b_p1, 0, none⟩), .pointer (some ⟨b_p2, 0, none⟩), .pointer (some ⟨b_p3, 0, none⟩)], .func (.func 32) #[] #[.pointer (some ⟨b_p1_2, 0, none⟩), .pointer (some ⟨b_p2_2, 0, none⟩)], .func (.func 30) #[] #[.pointer (some ⟨b_p1_3, 0, none⟩), .pointer (some ⟨b_p2_3, 0, none⟩), .pointer (some ⟨b_p3_2, 0, none⟩)]]] := H.slNil NEOp
 replace H : Hf I D w I w3 [SlC NEEntry (.slice none 0 0) ([] : List EEntry), SlC NEOp (.slice none 0 0) ([] : List EOp), SlC NEMember (.slice none 0 0) ([] : List EMember), BxC b2 37 [.int .i64 kind, .int .i64 (max epoch 0), .int .i64 0, .int .i64 0, .bool false, .int .u64 0, .int .u64 0, .int .i64 0, .int .i64 0, .int .i64 0, .int .i64 0, .string ByteArray.empty, .string ByteArray.empty, .int .i64 0, .slice none 0 0, .int .u64 0, .int .i64 0, .int .i64 0, .slice none 0 0, .slice none 0 0, .slice none 0 0, .slice none 0 0], BxC b1 37 [.int .i64 0, .int .i64 0, .int .i64 0, .int .i64 0, .bool false, .int .u64 0, .int .u64 0, .int .i64 0, .int .i64 0, .int .i64 0, .int .i64 0, .string ByteArray.empty, .string ByteArray.empty, .int .i64 0, .slice none 0 0, .int .u64 0, .int .i64 0, .int .i64 0, .slice none 0 0, .slice none 0 0, .slice none 0 0, .slice none 0 0], BxC b_p1 3 [.int .i64 p1], BxC b_p2 3 [.int .i64 p2], BxC b_p3 3 [.int .i64 p3], BxC b_p1_2 3 [.int .i64 p1_2], BxC b_p2_2 24 [.int .u64 p2_2], BxC b_p1_3 22 [v1_p1_3], SlC NEEntry v1_p1_3 p1_3, BxC b_p2_3 3 [.int .i64 p2_3], BxC b_p3_2 3 [.int .i64 p3_2], BxC b_l 66 [.func (.func 54) #[] #[.pointer (some ⟨b_p1, 0, none⟩), .pointer (some ⟨b_p2, 0, none⟩), .pointer (some ⟨b_p3, 0, none⟩)], .func (.func 32) #[] #[.pointer (some ⟨b_p1_2, 0, none⟩), .pointer (some ⟨b_p2_2, 0, none⟩)], .func (.func 30) #[] #[.pointer (some ⟨b_p1_3, 0, none⟩), .pointer (some ⟨b_p2_3, 0, none⟩), .pointer (some ⟨b_p3_2, 0, none⟩)]]] := H.slNil NEEntry
 replace H : Hf I D w I w3 [OwC Nu64 24 (.slice none 0 0) ([] : List Int), SlC NEEntry (.slice none 0 0) ([] : List EEntry), SlC NEOp (.slice none 0 0) ([] : List EOp), SlC NEMember (.slice none 0 0) ([] : List EMember), BxC b2 37 [.int .i64 kind, .int .i64 (max epoch 0), .int .i64 0, .int .i64 0, .bool false, .int .u64 0, .int .u64 0, .int .i64 0, .int .i64 0, .int .i64 0, .int .i64 0, .string ByteArray.empty, .string ByteArray.empty, .int .i64 0, .slice none 0 0, .int .u64 0, .int .i64 0, .int .i64 0, .slice none 0 0, .slice none 0 0, .slice none 0 0, .slice none 0 0], BxC b1 37 [.int .i64 0, .int .i64 0, .int .i64 0, .int .i64 0, .bool false, .int .u64 0, .int .u64 0, .int .i64 0, .int .i64 0, .int .i64 0, .int .i64 0, .string ByteArray.empty, .string ByteArray.empty, .int .i64 0, .slice none 0 0, .int .u64 0, .int .i64 0, .int .i64 0, .slice none 0 0, .slice none 0 0, .slice none 0 0, .slice none 0 0], BxC b_p1 3 [.int .i64 p1], BxC b_p2 3 [.int .i64 p2], BxC b_p3 3 [.int .i64 p3], BxC b_p1_2 3 [.int .i64 p1_2], BxC b_p2_2 24 [.int .u64 p2_2], BxC b_p1_3 22 [v1_p1_3], SlC NEEntry v1_p1_3 p1_3, BxC b_p2_3 3 [.int .i64 p2_3], BxC b_p3_2 3 [.int .i64 p3_2], BxC b_l 66 [.func (.func 54) #[] #[.pointer (some ⟨b_p1, 0, none⟩), .pointer (some ⟨b_p2, 0, none⟩), .pointer (some ⟨b_p3, 0, none⟩)], .func (.func 32) #[] #[.pointer (some ⟨b_p1_2, 0, none⟩), .pointer (some ⟨b_p2_2, 0, none⟩)], .func (.func 30) #[] #[.pointer (some ⟨b_p1_3, 0, none⟩), .pointer (some ⟨b_p2_3, 0, none⟩), .pointer (some ⟨b_p3_2, 0, none⟩)]]] := H.nilow Nu64 24
 replace H : Hf I D w I w3 [SlC NEPair (.slice none 0 0) ([] : List EPair), OwC Nu64 24 (.slice none 0 0) ([] : List Int), SlC NEEntry (.slice none 0 0) ([] : List EEntry), SlC NEOp (.slice none 0 0) ([] : List EOp), SlC NEMember (.slice none 0 0) ([] : List EMember), BxC b2 37 [.int .i64 kind, .int .i64 (max epoch 0), .int .i64 0, .int .i64 0, .bool false, .int .u64 0, .int .u64 0, .int .i64 0, .int .i64 0, .int .i64 0, .int .i64 0, .string ByteArray.empty, .string ByteArray.empty, .int .i64 0, .slice none 0 0, .int .u64 0, .int .i64 0, .int .i64 0, .slice none 0 0, .slice none 0 0, .slice none 0 0, .slice none 0 0], BxC b1 37 [.int .i64 0, .int .i64 0, .int .i64 0, .int .i64 0, .bool false, .int .u64 0, .int .u64 0, .int .i64 0, .int .i64 0, .int .i64 0, .int .i64 0, .string ByteArray.empty, .string ByteArray.empty, .int .i64 0, .slice none 0 0, .int .u64 0, .int .i64 0, .int .i64 0, .slice none 0 0, .slice none 0 0, .slice none 0 0, .slice none 0 0], BxC b_p1 3 [.int .i64 p1], BxC b_p2 3 [.int .i64 p2], BxC b_p3 3 [.int .i64 p3], BxC b_p1_2 3 [.int .i64 p1_2], BxC b_p2_2 24 [.int .u64 p2_2], BxC b_p1_3 22 [v1_p1_3], SlC NEEntry v1_p1_3 p1_3, BxC b_p2_3 3 [.int .i64 p2_3], BxC b_p3_2 3 [.int .i64 p3_2], BxC b_l 66 [.func (.func 54) #[] #[.pointer (some ⟨b_p1, 0, none⟩), .pointer (some ⟨b_p2, 0, none⟩), .pointer (some ⟨b_p3, 0, none⟩)], .func (.func 32) #[] #[.pointer (some ⟨b_p1_2, 0, none⟩), .pointer (some ⟨b_p2_2, 0, none⟩)], .func (.func 30) #[] #[.pointer (some ⟨b_p1_3, 0, none⟩), .pointer (some ⟨b_p2_3, 0, none⟩), .pointer (some ⟨b_p3_2, 0, none⟩)]]] := H.slNil NEPair
 replace H : Hf I D w I w3 [OEMsg b2 ({ (default : EMsg) with k := kind, epoch := max epoch 0 } : EMsg), SlC NEPair (.slice none 0 0) ([] : List EPair), SlC NEEntry (.slice none 0 0) ([] : List EEntry), SlC NEOp (.slice none 0 0) ([] : List EOp), SlC NEMember (.slice none 0 0) ([] : List EMember), BxC b1 37 [.int .i64 0, .int .i64 0, .int .i64 0, .int .i64 0, .bool false, .int .u64 0, .int .u64 0, .int .i64 0, .int .i64 0, .int .i64 0, .int .i64 0, .string ByteArray.empty, .string ByteArray.empty, .int .i64 0, .slice none 0 0, .int .u64 0, .int .i64 0, .int .i64 0, .slice none 0 0, .slice none 0 0, .slice none 0 0, .slice none 0 0], BxC b_p1 3 [.int .i64 p1], BxC b_p2 3 [.int .i64 p2], BxC b_p3 3 [.int .i64 p3], BxC b_p1_2 3 [.int .i64 p1_2], BxC b_p2_2 24 [.int .u64 p2_2], BxC b_p1_3 22 [v1_p1_3], SlC NEEntry v1_p1_3 p1_3, BxC b_p2_3 3 [.int .i64 p2_3], BxC b_p3_2 3 [.int .i64 p3_2], BxC b_l 66 [.func (.func 54) #[] #[.pointer (some ⟨b_p1, 0, none⟩), .pointer (some ⟨b_p2, 0, none⟩), .pointer (some ⟨b_p3, 0, none⟩)], .func (.func 32) #[] #[.pointer (some ⟨b_p1_2, 0, none⟩), .pointer (some ⟨b_p2_2, 0, none⟩)], .func (.func 30) #[] #[.pointer (some ⟨b_p1_3, 0, none⟩), .pointer (some ⟨b_p2_3, 0, none⟩), .pointer (some ⟨b_p3_2, 0, none⟩)]]] := H.shutX (.slice none 0 0, .slice none 0 0, .slice none 0 0, .slice none 0 0, .slice none 0 0) [(5, false), (4, true), (3, true), (2, true), (1, false), (0, true)] rfl
 refine h_call Z H (js := [(0, false), (5, false), (5, false), (5, false)]) rfl (caps := #[.pointer (some ⟨b_p1, 0, none⟩), .pointer (some ⟨b_p2, 0, none⟩), .pointer (some ⟨b_p3, 0, none⟩)]) fn_54_YRe rfl rfl rfl rfl rfl (by decide) rfl rfl (fun D1 hS => have hq := c_relay_counts_1 hx1 hS; hq) ?_; clear Z a; intro vv a w4 D2 hr hF2 Z
 obtain ⟨rfl, I1, K⟩ := hr
 have H : Hf I D w I1 w4 [OEMsg b2 x0, BxC b_p1 3 [.int .i64 p1], BxC b_p2 3 [.int .i64 p2], BxC b_p3 3 [.int .i64 p3], SlC NEPair (.slice none 0 0) ([] : List EPair), SlC NEEntry (.slice none 0 0) ([] : List EEntry), SlC NEOp (.slice none 0 0) ([] : List EOp), SlC NEMember (.slice none 0 0) ([] : List EMember), BxC b1 37 [.int .i64 0, .int .i64 0, .int .i64 0, .int .i64 0, .bool false, .int .u64 0, .int .u64 0, .int .i64 0, .int .i64 0, .int .i64 0, .int .i64 0, .string ByteArray.empty, .string ByteArray.empty, .int .i64 0, .slice none 0 0, .int .u64 0, .int .i64 0, .int .i64 0, .slice none 0 0, .slice none 0 0, .slice none 0 0, .slice none 0 0], BxC b_p1_2 3 [.int .i64 p1_2], BxC b_p2_2 24 [.int .u64 p2_2], BxC b_p1_3 22 [v1_p1_3], SlC NEEntry v1_p1_3 p1_3, BxC b_p2_3 3 [.int .i64 p2_3], BxC b_p3_2 3 [.int .i64 p3_2], BxC b_l 66 [.func (.func 54) #[] #[.pointer (some ⟨b_p1, 0, none⟩), .pointer (some ⟨b_p2, 0, none⟩), .pointer (some ⟨b_p3, 0, none⟩)], .func (.func 32) #[] #[.pointer (some ⟨b_p1_2, 0, none⟩), .pointer (some ⟨b_p2_2, 0, none⟩)], .func (.func 30) #[] #[.pointer (some ⟨b_p1_3, 0, none⟩), .pointer (some ⟨b_p2_3, 0, none⟩), .pointer (some ⟨b_p3_2, 0, none⟩)]]] := hF2 K
 clear hF2 K
 refine s_end Z [2, 6, 7, 14, 15, 16, 17, 18, 19, 9, 20] rfl ?_; clear Z; intro Z
 refine p_blk ?_
 refine p_then ?_
 refine f_region Z ?_; clear Z; intro Z
 refine s_ob Z (v := .int .i64 1) rfl rfl (by decide) rfl (Ob_add rfl rfl rfl (wrI (by decide))) ?_; clear Z a; intro a Z
 refine s_runk tRe Z 1 rfl rfl ?_; clear Z a; intro a Z
 refine s_end Z [2, 6, 7, 14, 15, 16, 17, 18, 19, 9, 20, 22] rfl ?_; clear Z; intro Z
 refine p_then ?_
 refine rounds_in ?_
 refine wp_seq (f_region Z ?_); clear Z; intro Z
 refine s_runk tRe Z 1 rfl rfl ?_; clear Z a; intro a Z
 refine s_end Z [2, 6, 7, 14, 15, 16, 17, 18, 19, 9, 20, 22] rfl ?_; clear Z; intro Z
 refine p_then (wp_seq ?_)
 refine wp_cond_true (Z.ev rfl) ?_
 refine wp_skip ?_
 refine p_then (wp_seq ?_)
 refine wp_block ?_
 refine wp_seq (f_region Z ?_); clear Z; intro Z
 refine s_ob Z (v := .pointer (some ⟨b_l, 1, none⟩)) rfl rfl (by decide) rfl (Ob_idx (b := b_l) (off := 0) (m := 1) tRe (1) rfl rfl rfl rfl rfl rfl (show 1 < 3 from by decide)) ?_; clear Z a; intro a Z
 refine s_ob Z (v := .func (.func 32) #[] #[.pointer (some ⟨b_p1_2, 0, none⟩), .pointer (some ⟨b_p2_2, 0, none⟩)]) rfl rfl (by decide) rfl (Ob_load tRe rfl rfl rfl ((H.bx 15 rfl).cell 1 rfl)) ?_; clear Z a; intro a Z
 refine s_runk tRe Z 1 rfl rfl ?_; clear Z a; intro a Z
 refine s_end Z [2, 6, 7, 14, 15, 16, 17, 18, 19, 9, 20, 22] rfl ?_; clear Z; intro Z
 refine p_then ?_
 obtain ⟨x0_2, hx2, hF⟩ := bnd_in hF
 refine f_region Z ?_; clear Z; intro Z
 refine s_runk tRe Z 1 rfl rfl ?_; clear Z a; intro a Z
 refine h_call Z H (js := [(0, false), (8, false), (8, false)]) rfl (caps := #[.pointer (some ⟨b_p1_2, 0, none⟩), .pointer (some ⟨b_p2_2, 0, none⟩)]) fn_32_YRe rfl rfl rfl rfl rfl (by decide) rfl rfl (fun D1 hS => have hq := c_relay_Fwd_2 hx2 hS; hq) ?_; clear Z a; intro vv a w5 D2 hr hF2 Z
 obtain ⟨rfl, I2, K⟩ := hr
 have H : Hf I D w I2 w5 [OEMsg b2 x0_2, BxC b_p1_2 3 [.int .i64 p1_2], BxC b_p2_2 24 [.int .u64 p2_2], BxC b_p1 3 [.int .i64 p1], BxC b_p2 3 [.int .i64 p2], BxC b_p3 3 [.int .i64 p3], SlC NEPair (.slice none 0 0) ([] : List EPair), SlC NEEntry (.slice none 0 0) ([] : List EEntry), SlC NEOp (.slice none 0 0) ([] : List EOp), SlC NEMember (.slice none 0 0) ([] : List EMember), BxC b1 37 [.int .i64 0, .int .i64 0, .int .i64 0, .int .i64 0, .bool false, .int .u64 0, .int .u64 0, .int .i64 0, .int .i64 0, .int .i64 0, .int .i64 0, .string ByteArray.empty, .string ByteArray.empty, .int .i64 0, .slice none 0 0, .int .u64 0, .int .i64 0, .int .i64 0, .slice none 0 0, .slice none 0 0, .slice none 0 0, .slice none 0 0], BxC b_p1_3 22 [v1_p1_3], SlC NEEntry v1_p1_3 p1_3, BxC b_p2_3 3 [.int .i64 p2_3], BxC b_p3_2 3 [.int .i64 p3_2], BxC b_l 66 [.func (.func 54) #[] #[.pointer (some ⟨b_p1, 0, none⟩), .pointer (some ⟨b_p2, 0, none⟩), .pointer (some ⟨b_p3, 0, none⟩)], .func (.func 32) #[] #[.pointer (some ⟨b_p1_2, 0, none⟩), .pointer (some ⟨b_p2_2, 0, none⟩)], .func (.func 30) #[] #[.pointer (some ⟨b_p1_3, 0, none⟩), .pointer (some ⟨b_p2_3, 0, none⟩), .pointer (some ⟨b_p3_2, 0, none⟩)]]] := hF2 K
 clear hF2 K
 refine s_end Z [2, 6, 7, 14, 15, 16, 17, 18, 19, 9, 20, 22] rfl ?_; clear Z; intro Z
 refine p_blk ?_
 refine p_then ?_
 refine f_region Z ?_; clear Z; intro Z
 refine s_ob Z (v := .int .i64 2) rfl rfl (by decide) rfl (Ob_add rfl rfl rfl (wrI (by decide))) ?_; clear Z a; intro a Z
 refine s_runk tRe Z 1 rfl rfl ?_; clear Z a; intro a Z
 refine s_end Z [2, 6, 7, 14, 15, 16, 17, 18, 19, 9, 20, 22] rfl ?_; clear Z; intro Z
 refine p_then ?_
 refine rounds_in ?_
 refine wp_seq (f_region Z ?_); clear Z; intro Z
 refine s_runk tRe Z 1 rfl rfl ?_; clear Z a; intro a Z
 refine s_end Z [2, 6, 7, 14, 15, 16, 17, 18, 19, 9, 20, 22] rfl ?_; clear Z; intro Z
 refine p_then (wp_seq ?_)
 refine wp_cond_true (Z.ev rfl) ?_
 refine wp_skip ?_
 refine p_then (wp_seq ?_)
 refine wp_block ?_
 refine wp_seq (f_region Z ?_); clear Z; intro Z
 refine s_ob Z (v := .pointer (some ⟨b_l, 2, none⟩)) rfl rfl (by decide) rfl (Ob_idx (b := b_l) (off := 0) (m := 1) tRe (2) rfl rfl rfl rfl rfl rfl (show 2 < 3 from by decide)) ?_; clear Z a; intro a Z
 refine s_ob Z (v := .func (.func 30) #[] #[.pointer (some ⟨b_p1_3, 0, none⟩), .pointer (some ⟨b_p2_3, 0, none⟩), .pointer (some ⟨b_p3_2, 0, none⟩)]) rfl rfl (by decide) rfl (Ob_load tRe rfl rfl rfl ((H.bx 15 rfl).cell 2 rfl)) ?_; clear Z a; intro a Z
 refine s_runk tRe Z 1 rfl rfl ?_; clear Z a; intro a Z
 refine s_end Z [2, 6, 7, 14, 15, 16, 17, 18, 19, 9, 20, 22] rfl ?_; clear Z; intro Z
 refine p_then ?_
 obtain ⟨x0_3, hx3, hF⟩ := bnd_in hF
 refine f_region Z ?_; clear Z; intro Z
 refine s_runk tRe Z 1 rfl rfl ?_; clear Z a; intro a Z
 refine h_call Z H (js := [(0, false), (10, false), (10, true), (11, false), (11, false)]) rfl (caps := #[.pointer (some ⟨b_p1_3, 0, none⟩), .pointer (some ⟨b_p2_3, 0, none⟩), .pointer (some ⟨b_p3_2, 0, none⟩)]) fn_30_YRe rfl rfl rfl rfl rfl (by decide) rfl rfl (fun D1 hS => have hq := c_relay_Fwd_1 hx3 hS; hq) ?_; clear Z a; intro vv a w6 D2 hr hF2 Z
 obtain ⟨rfl, I3, K⟩ := hr
 have H : Hf I D w I3 w6 [OEMsg b2 x0_3, BxC b_p1_3 22 [v1_p1_3], BxC b_p2_3 3 [.int .i64 p2_3], BxC b_p3_2 3 [.int .i64 p3_2], BxC b_p1_2 3 [.int .i64 p1_2], BxC b_p2_2 24 [.int .u64 p2_2], BxC b_p1 3 [.int .i64 p1], BxC b_p2 3 [.int .i64 p2], BxC b_p3 3 [.int .i64 p3], SlC NEPair (.slice none 0 0) ([] : List EPair), SlC NEEntry (.slice none 0 0) ([] : List EEntry), SlC NEOp (.slice none 0 0) ([] : List EOp), SlC NEMember (.slice none 0 0) ([] : List EMember), BxC b1 37 [.int .i64 0, .int .i64 0, .int .i64 0, .int .i64 0, .bool false, .int .u64 0, .int .u64 0, .int .i64 0, .int .i64 0, .int .i64 0, .int .i64 0, .string ByteArray.empty, .string ByteArray.empty, .int .i64 0, .slice none 0 0, .int .u64 0, .int .i64 0, .int .i64 0, .slice none 0 0, .slice none 0 0, .slice none 0 0, .slice none 0 0], SlC NEEntry v1_p1_3 p1_3, BxC b_l 66 [.func (.func 54) #[] #[.pointer (some ⟨b_p1, 0, none⟩), .pointer (some ⟨b_p2, 0, none⟩), .pointer (some ⟨b_p3, 0, none⟩)], .func (.func 32) #[] #[.pointer (some ⟨b_p1_2, 0, none⟩), .pointer (some ⟨b_p2_2, 0, none⟩)], .func (.func 30) #[] #[.pointer (some ⟨b_p1_3, 0, none⟩), .pointer (some ⟨b_p2_3, 0, none⟩), .pointer (some ⟨b_p3_2, 0, none⟩)]]] := hF2 K
 clear hF2 K
 refine s_end Z [2, 6, 7, 14, 15, 16, 17, 18, 19, 9, 20, 22] rfl ?_; clear Z; intro Z
 refine p_blk ?_
 refine p_then ?_
 refine f_region Z ?_; clear Z; intro Z
 refine s_ob Z (v := .int .i64 3) rfl rfl (by decide) rfl (Ob_add rfl rfl rfl (wrI (by decide))) ?_; clear Z a; intro a Z
 refine s_runk tRe Z 1 rfl rfl ?_; clear Z a; intro a Z
 refine s_end Z [2, 6, 7, 14, 15, 16, 17, 18, 19, 9, 20, 22] rfl ?_; clear Z; intro Z
 refine p_then ?_
 refine rounds_in ?_
 refine wp_seq (f_region Z ?_); clear Z; intro Z
 refine s_runk tRe Z 1 rfl rfl ?_; clear Z a; intro a Z
 refine s_end Z [2, 6, 7, 14, 15, 16, 17, 18, 19, 9, 20, 22] rfl ?_; clear Z; intro Z
 refine p_then (wp_seq ?_)
 refine wp_cond_false (Z.ev rfl) ?_
 refine wp_exit ?_
 refine p_then_x ?_
 refine p_then_x ?_
 refine f_exit_here ?_
 refine p_then (wp_seq (f_region Z ?_)); clear Z; intro Z
 obtain ⟨⟨v2, v3, v4, v5, v6⟩, H⟩ := H.openX 0 rfl
 replace H : Hf I D w I3 w6 [BxC b2 37 (cEMsg x0_3 v2 v3 v4 v5 v6), SlC NEMember v2 x0_3.conf.members, SlC NEOp v3 x0_3.batch.ops, SlC NEEntry v4 x0_3.entries, OwC Nu64 24 v5 x0_3.stamps, SlC NEPair v6 x0_3.pairs, BxC b_p1_3 22 [v1_p1_3], BxC b_p2_3 3 [.int .i64 p2_3], BxC b_p3_2 3 [.int .i64 p3_2], BxC b_p1_2 3 [.int .i64 p1_2], BxC b_p2_2 24 [.int .u64 p2_2], BxC b_p1 3 [.int .i64 p1], BxC b_p2 3 [.int .i64 p2], BxC b_p3 3 [.int .i64 p3], SlC NEPair (.slice none 0 0) ([] : List EPair), SlC NEEntry (.slice none 0 0) ([] : List EEntry), SlC NEOp (.slice none 0 0) ([] : List EOp), SlC NEMember (.slice none 0 0) ([] : List EMember), BxC b1 37 [.int .i64 0, .int .i64 0, .int .i64 0, .int .i64 0, .bool false, .int .u64 0, .int .u64 0, .int .i64 0, .int .i64 0, .int .i64 0, .int .i64 0, .string ByteArray.empty, .string ByteArray.empty, .int .i64 0, .slice none 0 0, .int .u64 0, .int .i64 0, .int .i64 0, .slice none 0 0, .slice none 0 0, .slice none 0 0, .slice none 0 0], SlC NEEntry v1_p1_3 p1_3, BxC b_l 66 [.func (.func 54) #[] #[.pointer (some ⟨b_p1, 0, none⟩), .pointer (some ⟨b_p2, 0, none⟩), .pointer (some ⟨b_p3, 0, none⟩)], .func (.func 32) #[] #[.pointer (some ⟨b_p1_2, 0, none⟩), .pointer (some ⟨b_p2_2, 0, none⟩)], .func (.func 30) #[] #[.pointer (some ⟨b_p1_3, 0, none⟩), .pointer (some ⟨b_p2_3, 0, none⟩), .pointer (some ⟨b_p3_2, 0, none⟩)]]] := H
 refine s_ob Z (v := .agg #[.int .i64 x0_3.k, .int .i64 x0_3.epoch, .int .i64 x0_3.req, .int .i64 x0_3.serial, .bool x0_3.flag, .int .u64 x0_3.at_, .int .u64 x0_3.last, .int .i64 x0_3.n, .int .i64 x0_3.m, .int .i64 x0_3.p, .int .i64 x0_3.e, .string x0_3.key, .string x0_3.to_, .int .i64 x0_3.conf.epoch, v2, .int .u64 x0_3.conf.floor, .int .i64 x0_3.batch.client, .int .i64 x0_3.batch.req, v3, v4, v5, v6]) rfl rfl (by decide) rfl (Ob_loads tRe rfl rfl rfl ((H.bx 0 rfl).part 0 rfl)) ?_; clear Z a; intro a Z
 refine h_store tRe Z H 18 rfl rfl rfl rfl rfl rfl rfl rfl rfl (one_cons rfl (one_cons rfl (one_cons rfl (one_cons rfl (one_cons rfl (one_cons rfl (one_cons rfl (one_cons rfl (one_cons rfl (one_cons rfl (one_cons rfl (one_cons rfl (one_cons rfl (one_cons rfl (one_cons (slS.one (H.slshape 1 rfl)) (one_cons rfl (one_cons rfl (one_cons rfl (one_cons (slS.one (H.slshape 2 rfl)) (one_cons (slS.one (H.slshape 3 rfl)) (one_cons (slS.one (H.owshape 4 rfl)) (one_cons (slS.one (H.slshape 5 rfl)) one_nil)))))))))))))))))))))) (Nat.le_of_ble_eq_true rfl) (putCells_all rfl) ?_; clear H; intro w7 H
 dsimp only [List.eraseIdx] at H
 refine s_end Z [2, 6] rfl ?_; clear Z; intro Z
 refine p_then (wp_ret ?_)
 obtain ⟨I4, _, H⟩ := H.frzow 5 rfl
 replace H : Hf I D w I4 w7 [SlC Nu64 v5 x0_3.stamps, BxC b1 37 (cEMsg x0_3 v2 v3 v4 v5 v6), BxC b2 37 (cEMsg x0_3 v2 v3 v4 v5 v6), SlC NEMember v2 x0_3.conf.members, SlC NEOp v3 x0_3.batch.ops, SlC NEEntry v4 x0_3.entries, SlC NEPair v6 x0_3.pairs, BxC b_p1_3 22 [v1_p1_3], BxC b_p2_3 3 [.int .i64 p2_3], BxC b_p3_2 3 [.int .i64 p3_2], BxC b_p1_2 3 [.int .i64 p1_2], BxC b_p2_2 24 [.int .u64 p2_2], BxC b_p1 3 [.int .i64 p1], BxC b_p2 3 [.int .i64 p2], BxC b_p3 3 [.int .i64 p3], SlC NEPair (.slice none 0 0) ([] : List EPair), SlC NEEntry (.slice none 0 0) ([] : List EEntry), SlC NEOp (.slice none 0 0) ([] : List EOp), SlC NEMember (.slice none 0 0) ([] : List EMember), SlC NEEntry v1_p1_3 p1_3, BxC b_l 66 [.func (.func 54) #[] #[.pointer (some ⟨b_p1, 0, none⟩), .pointer (some ⟨b_p2, 0, none⟩), .pointer (some ⟨b_p3, 0, none⟩)], .func (.func 32) #[] #[.pointer (some ⟨b_p1_2, 0, none⟩), .pointer (some ⟨b_p2_2, 0, none⟩)], .func (.func 30) #[] #[.pointer (some ⟨b_p1_3, 0, none⟩), .pointer (some ⟨b_p2_3, 0, none⟩), .pointer (some ⟨b_p3_2, 0, none⟩)]]] := H
 obtain rfl := some_in hF
 exact f_ret Z (run_resultsC rfl Z rfl (run_loadVar_agg tRe rfl (H.bx 1 rfl).at)) ⟨v2, v3, v4, v5, v6, rfl, I4, (H.sub [(12, false), (12, false), (12, false), (10, false), (10, false), (7, false), (7, false), (7, false), (12, false), (3, true), (4, true), (5, true), (0, true), (6, true)] rfl).eq rfl⟩

def F_relay_Fwd (epoch : Int) (base : Int) (from_ : Int) (stable : Int) (horizon : Int) (l : List EEntry) (good : Int) : Option EMsg := (F_relay_fit good (l.length : Int)).bind fun f => ((F_relay_fit from_ f).bind fun f_2 => (chk (inI (f_2 + 4)) ((F_item_Stamped l).bind fun s0 => ((F_relay_counts base f_2 (min s0 f)).bind fun c => ((F_relay_made__relay_Fwd_1 3 epoch c.1 c.2.1 c.2.2 stable horizon l f_2 (min f (f_2 + 4))).bind fun x0 => (some x0))))))

set_option maxHeartbeats 1000000 in
theorem c_relay_Fwd {I D : Dm} {epoch : Int} {base : Int} {from_ : Int} {stable : Int} {horizon : Int} {l : List EEntry} {v1_l : Value} {good : Int} {w : World} {rr : EMsg} (hF : F_relay_Fwd epoch base from_ stable horizon l good = some rr) (H : St I D w [SlC NEEntry v1_l l]) :
  Calls Try.prog 9 #[.int .i64 epoch, .int .i64 base, .int .i64 from_, .int .i64 stable, .int .u64 horizon, v1_l, .int .i64 good] w (Ret fun vv w' => ∃ q1 q2 q3 q4 q5 : Value, vv = .agg #[.int .i64 rr.k, .int .i64 rr.epoch, .int .i64 rr.req, .int .i64 rr.serial, .bool rr.flag, .int .u64 rr.at_, .int .u64 rr.last, .int .i64 rr.n, .int .i64 rr.m, .int .i64 rr.p, .int .i64 rr.e, .string rr.key, .string rr.to_, .int .i64 rr.conf.epoch, q1, .int .u64 rr.conf.floor, .int .i64 rr.batch.client, .int .i64 rr.batch.req, q2, q3, q4, q5] ∧ ∃ I', Hf I D w I' w' [SlC NEMember q1 rr.conf.members, SlC NEOp q2 rr.batch.ops, SlC NEEntry q3 rr.entries, SlC Nu64 q4 rr.stamps, SlC NEPair q5 rr.pairs]) := by
 replace H := H.hf
 unfold F_relay_Fwd at hF
 refine f_enter 45 Try.func9 rfl rfl (Nat.le_of_ble_eq_true rfl) fun a Z => ?_
 replace Z := Z.sub (ts := [0, 1, 2, 3, 4, 5, 6]) rfl
 refine wp_seq (f_region Z ?_); clear Z; intro Z
 refine h_boxv Z H (cl := [.int .i64 stable]) rfl rfl rfl (by decide) rfl rfl rfl ?_; clear Z a H; intro a w1 b1 H Z
 refine h_boxv Z H (cl := [.int .u64 horizon]) rfl rfl rfl (by decide) rfl rfl rfl ?_; clear Z a H; intro a w2 b2 H Z
 refine h_boxv Z H (cl := [v1_l]) rfl rfl rfl (by decide) rfl rfl (slS.cells (H.slshape 2 rfl)) ?_; clear Z a H; intro a w3 b3 H Z
 refine h_alloc Z H (cl := [.int .i64 0, .int .i64 0, .int .i64 0, .int .i64 0, .bool false, .int .u64 0, .int .u64 0, .int .i64 0, .int .i64 0, .int .i64 0, .int .i64 0, .string ByteArray.empty, .string ByteArray.empty, .int .i64 0, .slice none 0 0, .int .u64 0, .int .i64 0, .int .i64 0, .slice none 0 0, .slice none 0 0, .slice none 0 0, .slice none 0 0]) (z := .agg #[.int .i64 0, .int .i64 0, .int .i64 0, .int .i64 0, .bool false, .int .u64 0, .int .u64 0, .int .i64 0, .int .i64 0, .int .i64 0, .int .i64 0, .string ByteArray.empty, .string ByteArray.empty, .int .i64 0, .slice none 0 0, .int .u64 0, .int .i64 0, .int .i64 0, .slice none 0 0, .slice none 0 0, .slice none 0 0, .slice none 0 0]) rfl rfl rfl (by decide) rfl (by kernel_rfl) rfl ?_; clear Z a H; intro a w4 b4 H Z
 refine s_end Z [0, 1, 2, 6, 10, 11, 12, 14] rfl ?_; clear Z; intro Z
 refine p_then (wp_seq ?_)
 obtain ⟨f, hx1, hF⟩ := bnd_in hF
 refine f_region Z ?_; clear Z; intro Z
 refine s_runk tRe Z 1 rfl rfl ?_; clear Z a; intro a Z
 refine s_ob Z (v := v1_l) rfl rfl (by decide) rfl (Ob_load tRe rfl rfl rfl ((H.bx 1 rfl).cell 0 rfl)) ?_; clear Z a; intro a Z
 refine s_ob Z (v := .int .i64 (l.length : Int)) rfl rfl (by decide) rfl (Ob_slen tRe rfl rfl rfl (H.slshape 4 rfl)) ?_; clear Z a; intro a Z
 refine h_call Z H (js := []) rfl (caps := #[]) fn_29_YRe rfl rfl rfl rfl rfl (by decide) rfl rfl (fun D1 hS => have hq := c_relay_fit hx1 hS; hq) ?_; clear Z a; intro vv a w5 D2 hr hF2 Z
 obtain ⟨rfl, I1, K⟩ := hr
 have H : Hf I D w I1 w5 [BxC b4 37 [.int .i64 0, .int .i64 0, .int .i64 0, .int .i64 0, .bool false, .int .u64 0, .int .u64 0, .int .i64 0, .int .i64 0, .int .i64 0, .int .i64 0, .string ByteArray.empty, .string ByteArray.empty, .int .i64 0, .slice none 0 0, .int .u64 0, .int .i64 0, .int .i64 0, .slice none 0 0, .slice none 0 0, .slice none 0 0, .slice none 0 0], BxC b3 22 [v1_l], BxC b2 24 [.int .u64 horizon], BxC b1 3 [.int .i64 stable], SlC NEEntry v1_l l] := hF2 K
 clear hF2 K
 refine s_runk tRe Z 1 rfl rfl ?_; clear Z a; intro a Z
 refine s_end Z [0, 1, 2, 10, 11, 12, 14, 15] rfl ?_; clear Z; intro Z
 refine p_then (wp_seq ?_)
 obtain ⟨f_2, hx2, hF⟩ := bnd_in hF
 refine f_region Z ?_; clear Z; intro Z
 refine s_runk tRe Z 2 rfl rfl ?_; clear Z a; intro a Z
 refine h_call Z H (js := []) rfl (caps := #[]) fn_29_YRe rfl rfl rfl rfl rfl (by decide) rfl rfl (fun D1 hS => have hq := c_relay_fit hx2 hS; hq) ?_; clear Z a; intro vv a w6 D2 hr hF2 Z
 obtain ⟨rfl, I2, K⟩ := hr
 have H : Hf I D w I2 w6 [BxC b4 37 [.int .i64 0, .int .i64 0, .int .i64 0, .int .i64 0, .bool false, .int .u64 0, .int .u64 0, .int .i64 0, .int .i64 0, .int .i64 0, .int .i64 0, .string ByteArray.empty, .string ByteArray.empty, .int .i64 0, .slice none 0 0, .int .u64 0, .int .i64 0, .int .i64 0, .slice none 0 0, .slice none 0 0, .slice none 0 0, .slice none 0 0], BxC b3 22 [v1_l], BxC b2 24 [.int .u64 horizon], BxC b1 3 [.int .i64 stable], SlC NEEntry v1_l l] := hF2 K
 clear hF2 K
 refine h_alloc Z H (cl := [.int .i64 0]) (z := .int .i64 0) rfl rfl rfl (by decide) rfl (by kernel_rfl) rfl ?_; clear Z a H; intro a w7 b5 H Z
 refine h_store tRe Z H 0 rfl rfl rfl rfl rfl rfl rfl rfl rfl (one_cons rfl one_nil) (Nat.le_of_ble_eq_true rfl) rfl ?_; clear H; intro w8 H
 dsimp only [List.eraseIdx] at H
 refine s_end Z [0, 1, 10, 11, 12, 14, 15, 16] rfl ?_; clear Z; intro Z
 refine p_then (wp_seq ?_)
 obtain ⟨hg1, hF⟩ := chk_in hF
 refine f_region Z ?_; clear Z; intro Z
 refine s_runk tRe Z 1 rfl rfl ?_; clear Z a; intro a Z
 refine s_ob Z (v := .int .i64 f_2) rfl rfl (by decide) rfl (Ob_load tRe rfl rfl rfl ((H.bx 0 rfl).cell 0 rfl)) ?_; clear Z a; intro a Z
 refine s_ob Z (v := .int .i64 (f_2 + 4)) rfl rfl (by decide) rfl (Ob_add rfl rfl rfl (wrI hg1)) ?_; clear Z a; intro a Z
 refine s_runk tRe Z 1 rfl rfl ?_; clear Z a; intro a Z
 refine h_alloc Z H (cl := [.int .i64 0]) (z := .int .i64 0) rfl rfl rfl (by decide) rfl (by kernel_rfl) rfl ?_; clear Z a H; intro a w9 b6 H Z
 refine h_store tRe Z H 0 rfl rfl rfl rfl rfl rfl rfl rfl rfl (one_cons rfl one_nil) (Nat.le_of_ble_eq_true rfl) rfl ?_; clear H; intro w10 H
 dsimp only [List.eraseIdx] at H
 refine s_end Z [0, 1, 10, 11, 12, 14, 15, 16, 17] rfl ?_; clear Z; intro Z
 refine p_then (wp_seq (f_region Z ?_)); clear Z; intro Z
 refine s_runk tRe Z 2 rfl rfl ?_; clear Z a; intro a Z
 refine s_end Z [0, 1, 10, 11, 12, 14, 15, 16, 18] rfl ?_; clear Z; intro Z
 refine p_then (wp_seq (f_region Z ?_)); clear Z; intro Z
 refine s_runk tRe Z 2 rfl rfl ?_; clear Z a; intro a Z
 refine s_end Z [0, 1, 12, 14, 15, 16, 18, 19] rfl ?_; clear Z; intro Z
 refine p_then (wp_seq ?_)
 obtain ⟨s0, hx3, hF⟩ := bnd_in hF
 obtain ⟨c, hx4, hF⟩ := bnd_in hF
 obtain ⟨x0, hx5, hF⟩ := bnd_in hF
 refine f_regionL Z (by kernel_rfl) (by kernel_rfl) (by decide) (by decide) [7, 10, 11, 12] [(0, 0, 2), (0, 0, 0), (0, 0, 0), (0, 0, 0), (8, 0, 0), (0, 0, 0), (56, 0, 0), (126, 0, 0), (0, 0, 1), (0, 0, 1), (1022, 1, 1), (2047, 2, 2), (4095, 3, 3)] (by kernel_rfl) (fun jj vv => cond (Nat.blt jj 6) (cond (Nat.blt jj 3) (cond (Nat.blt jj 1) (vv = .int .i64 epoch) (cond (Nat.blt jj 2) (vv = .int .i64 base) (vv = .int .i64 f_2))) (cond (Nat.blt jj 4) (vv = v1_l) (cond (Nat.blt jj 5) (vv = .int .i64 s0) (vv = .int .i64 f)))) (cond (Nat.blt jj 9) (cond (Nat.blt jj 7) (vv = .int .i64 (min s0 f)) (cond (Nat.blt jj 8) (vv = .func (.func 54) #[] #[.pointer (some ⟨(capBlk vv 0), 0, none⟩), .pointer (some ⟨(capBlk vv 1), 0, none⟩), .pointer (some ⟨(capBlk vv 2), 0, none⟩)]) (vv = .func (.func 32) #[] #[.pointer (some ⟨b1, 0, none⟩), .pointer (some ⟨b2, 0, none⟩)]))) (cond (Nat.blt jj 11) (cond (Nat.blt jj 10) (vv = .func (.func 30) #[] #[.pointer (some ⟨b3, 0, none⟩), .pointer (some ⟨b5, 0, none⟩), .pointer (some ⟨b6, 0, none⟩)]) (vv = .slice (some ⟨blkOf vv, 0, none⟩) 3 3)) (cond (Nat.blt jj 12) (vv = .agg #[.int .i64 x0.k, .int .i64 x0.epoch, .int .i64 x0.req, .int .i64 x0.serial, .bool x0.flag, .int .u64 x0.at_, .int .u64 x0.last, .int .i64 x0.n, .int .i64 x0.m, .int .i64 x0.p, .int .i64 x0.e, .string x0.key, .string x0.to_, .int .i64 x0.conf.epoch, (aggAt vv 14), .int .u64 x0.conf.floor, .int .i64 x0.batch.client, .int .i64 x0.batch.req, (aggAt vv 18), (aggAt vv 19), (aggAt vv 20), (aggAt vv 21)]) (True))))) (fun ss vals1 xw => match ss with | 0 => Gx I D w I2 w10 xw [BxC b6 3 [.int .i64 (min f (f_2 + 4))], BxC b5 3 [.int .i64 f_2], BxC b4 37 [.int .i64 0, .int .i64 0, .int .i64 0, .int .i64 0, .bool false, .int .u64 0, .int .u64 0, .int .i64 0, .int .i64 0, .int .i64 0, .int .i64 0, .string ByteArray.empty, .string ByteArray.empty, .int .i64 0, .slice none 0 0, .int .u64 0, .int .i64 0, .int .i64 0, .slice none 0 0, .slice none 0 0, .slice none 0 0, .slice none 0 0], BxC b3 22 [v1_l], BxC b2 24 [.int .u64 horizon], BxC b1 3 [.int .i64 stable], SlC NEEntry v1_l l] | 1 => Gx I D w I2 w10 xw [BxC (capBlk (vals1 7) 0) 3 [.int .i64 c.1], BxC (capBlk (vals1 7) 1) 3 [.int .i64 c.2.1], BxC (capBlk (vals1 7) 2) 3 [.int .i64 c.2.2], BxC b6 3 [.int .i64 (min f (f_2 + 4))], BxC b5 3 [.int .i64 f_2], BxC b4 37 [.int .i64 0, .int .i64 0, .int .i64 0, .int .i64 0, .bool false, .int .u64 0, .int .u64 0, .int .i64 0, .int .i64 0, .int .i64 0, .int .i64 0, .string ByteArray.empty, .string ByteArray.empty, .int .i64 0, .slice none 0 0, .int .u64 0, .int .i64 0, .int .i64 0, .slice none 0 0, .slice none 0 0, .slice none 0 0, .slice none 0 0], BxC b3 22 [v1_l], BxC b2 24 [.int .u64 horizon], BxC b1 3 [.int .i64 stable], SlC NEEntry v1_l l] | 2 => Gx I D w I2 w10 xw [BxC (blkOf (vals1 10)) 66 [.func (.func 54) #[] #[.pointer (some ⟨(capBlk (vals1 7) 0), 0, none⟩), .pointer (some ⟨(capBlk (vals1 7) 1), 0, none⟩), .pointer (some ⟨(capBlk (vals1 7) 2), 0, none⟩)], .func (.func 32) #[] #[.pointer (some ⟨b1, 0, none⟩), .pointer (some ⟨b2, 0, none⟩)], .func (.func 30) #[] #[.pointer (some ⟨b3, 0, none⟩), .pointer (some ⟨b5, 0, none⟩), .pointer (some ⟨b6, 0, none⟩)]], BxC (capBlk (vals1 7) 0) 3 [.int .i64 c.1], BxC (capBlk (vals1 7) 1) 3 [.int .i64 c.2.1], BxC (capBlk (vals1 7) 2) 3 [.int .i64 c.2.2], BxC b6 3 [.int .i64 (min f (f_2 + 4))], BxC b5 3 [.int .i64 f_2], BxC b4 37 [.int .i64 0, .int .i64 0, .int .i64 0, .int .i64 0, .bool false, .int .u64 0, .int .u64 0, .int .i64 0, .int .i64 0, .int .i64 0, .int .i64 0, .string ByteArray.empty, .string ByteArray.empty, .int .i64 0, .slice none 0 0, .int .u64 0, .int .i64 0, .int .i64 0, .slice none 0 0, .slice none 0 0, .slice none 0 0, .slice none 0 0], BxC b3 22 [v1_l], BxC b2 24 [.int .u64 horizon], BxC b1 3 [.int .i64 stable], SlC NEEntry v1_l l] | 3 => Gx I D w I2 w10 xw [BxC (capBlk (vals1 7) 0) 3 [.int .i64 c.1], BxC (capBlk (vals1 7) 1) 3 [.int .i64 c.2.1], BxC (capBlk (vals1 7) 2) 3 [.int .i64 c.2.2], BxC b1 3 [.int .i64 stable], BxC b2 24 [.int .u64 horizon], BxC b3 22 [v1_l], BxC b5 3 [.int .i64 f_2], BxC b6 3 [.int .i64 (min f (f_2 + 4))], BxC (blkOf (vals1 10)) 66 [.func (.func 54) #[] #[.pointer (some ⟨(capBlk (vals1 7) 0), 0, none⟩), .pointer (some ⟨(capBlk (vals1 7) 1), 0, none⟩), .pointer (some ⟨(capBlk (vals1 7) 2), 0, none⟩)], .func (.func 32) #[] #[.pointer (some ⟨b1, 0, none⟩), .pointer (some ⟨b2, 0, none⟩)], .func (.func 30) #[] #[.pointer (some ⟨b3, 0, none⟩), .pointer (some ⟨b5, 0, none⟩), .pointer (some ⟨b6, 0, none⟩)]], SlC NEMember (aggAt (vals1 11) 14) x0.conf.members, SlC NEOp (aggAt (vals1 11) 18) x0.batch.ops, SlC NEEntry (aggAt (vals1 11) 19) x0.entries, SlC Nu64 (aggAt (vals1 11) 20) x0.stamps, SlC NEPair (aggAt (vals1 11) 21) x0.pairs, BxC b4 37 [.int .i64 0, .int .i64 0, .int .i64 0, .int .i64 0, .bool false, .int .u64 0, .int .u64 0, .int .i64 0, .int .i64 0, .int .i64 0, .int .i64 0, .string ByteArray.empty, .string ByteArray.empty, .int .i64 0, .slice none 0 0, .int .u64 0, .int .i64 0, .int .i64 0, .slice none 0 0, .slice none 0 0, .slice none 0 0, .slice none 0 0], SlC NEEntry v1_l l] | _ => Gx I D w I2 w10 xw [BxC b4 37 (cEMsg x0 (aggAt (vals1 11) 14) (aggAt (vals1 11) 18) (aggAt (vals1 11) 19) (aggAt (vals1 11) 20) (aggAt (vals1 11) 21)), BxC (capBlk (vals1 7) 0) 3 [.int .i64 c.1], BxC (capBlk (vals1 7) 1) 3 [.int .i64 c.2.1], BxC (capBlk (vals1 7) 2) 3 [.int .i64 c.2.2], BxC b1 3 [.int .i64 stable], BxC b2 24 [.int .u64 horizon], BxC b3 22 [v1_l], BxC b5 3 [.int .i64 f_2], BxC b6 3 [.int .i64 (min f (f_2 + 4))], BxC (blkOf (vals1 10)) 66 [.func (.func 54) #[] #[.pointer (some ⟨(capBlk (vals1 7) 0), 0, none⟩), .pointer (some ⟨(capBlk (vals1 7) 1), 0, none⟩), .pointer (some ⟨(capBlk (vals1 7) 2), 0, none⟩)], .func (.func 32) #[] #[.pointer (some ⟨b1, 0, none⟩), .pointer (some ⟨b2, 0, none⟩)], .func (.func 30) #[] #[.pointer (some ⟨b3, 0, none⟩), .pointer (some ⟨b5, 0, none⟩), .pointer (some ⟨b6, 0, none⟩)]], SlC NEMember (aggAt (vals1 11) 14) x0.conf.members, SlC NEOp (aggAt (vals1 11) 18) x0.batch.ops, SlC NEEntry (aggAt (vals1 11) 19) x0.entries, SlC Nu64 (aggAt (vals1 11) 20) x0.stamps, SlC NEPair (aggAt (vals1 11) 21) x0.pairs, SlC NEEntry v1_l l]) (fun _ => Gx.start H) ?_ ?_
 ·intro fr hfr hfe
  refine .cons (fun ss hlo hhi vals1 xw hG hV => ?_) ?_
  ·obtain rfl | rfl | rfl : ss = 0 ∨ ss = 1 ∨ ss = 2 := st2 hlo hhi
   all_goals
   ·rw [← hfe]
    have hS := (hfr vals1).sub (ts := [0]) (S' := [(0, .int .i64 epoch)]) rfl
    exact L_val hS rfl (Ob_c tRe rfl) ⟨rfl, hG⟩
  refine .cons (fun ss hlo hhi vals1 xw hG hV => ?_) ?_
  ·obtain rfl : ss = 0 := Nat.le_antisymm hhi hlo
   rw [← hfe]
   have hS := (hfr vals1).sub (ts := [1]) (S' := [(1, .int .i64 base)]) rfl
   exact L_val hS rfl (Ob_c tRe rfl) ⟨rfl, hG⟩
  refine .cons (fun ss hlo hhi vals1 xw hG hV => ?_) ?_
  ·obtain rfl : ss = 0 := Nat.le_antisymm hhi hlo
   rw [← hfe]
   have hS := (hfr vals1).sub (ts := [16]) (S' := [(16, .pointer (some ⟨b5, 0, none⟩))]) rfl
   obtain ⟨I2, hI2, H⟩ := Gx.ex hG
   exact L_val hS rfl (Ob_load tRe rfl rfl rfl ((H.bx 1 rfl).cell 0 rfl)) ⟨rfl, hG⟩
  refine .cons (fun ss hlo hhi vals1 xw hG hV => ?_) ?_
  ·obtain rfl : ss = 0 := Nat.le_antisymm hhi hlo
   rw [← hfe]
   have hS := (hfr vals1).sub (ts := [12]) (S' := [(12, .pointer (some ⟨b3, 0, none⟩))]) rfl
   obtain ⟨I2, hI2, H⟩ := Gx.ex hG
   exact L_val hS rfl (Ob_load tRe rfl rfl rfl ((H.bx 3 rfl).cell 0 rfl)) ⟨rfl, hG⟩
  refine .cons (fun ss hlo hhi vals1 xw hG hV => ?_) ?_
  ·obtain rfl : ss = 0 := Nat.le_antisymm hhi hlo
   rw [← hfe]
   have hS := (hfr vals1).sub (ts := [36]) (S' := [(36, vals1 3)]) rfl
   replace hS := hS.conv (t := 36) rfl (show (vals1 3) = v1_l from hV 3 (by decide))
   obtain ⟨I2, hI2, H⟩ := Gx.ex hG
   refine L_call (caps := #[]) hS fn_35_YRe rfl rfl rfl rfl rfl ((have hq := c_item_Stamped hx3 ((H).pick0 (js := [(6, true)]) rfl rfl); plainC hq)) fun r yw hr => ?_
   obtain ⟨rfl, hb⟩ := hr
   exact ⟨rfl, Gx.blw hG hb⟩
  refine .cons (fun ss hlo hhi vals1 xw hG hV => ?_) ?_
  ·obtain rfl : ss = 0 := Nat.le_antisymm hhi hlo
   rw [← hfe]
   have hS := (hfr vals1).sub (ts := [15]) (S' := [(15, .int .i64 f)]) rfl
   exact L_val hS rfl (Ob_c tRe rfl) ⟨rfl, hG⟩
  refine .cons (fun ss hlo hhi vals1 xw hG hV => ?_) ?_
  ·obtain rfl : ss = 0 := Nat.le_antisymm hhi hlo
   rw [← hfe]
   have hS := (hfr vals1).sub (ts := [37, 38]) (S' := [(37, vals1 4), (38, vals1 5)]) rfl
   replace hS := hS.conv (t := 37) rfl (show (vals1 4) = .int .i64 s0 from hV 4 (by decide))
   replace hS := hS.conv (t := 38) rfl (show (vals1 5) = .int .i64 f from hV 5 (by decide))
   exact L_val hS rfl (Ob_c tRe rfl) ⟨rfl, hG⟩
  refine .cons (fun ss hlo hhi vals1 xw hG hV => ?_) ?_
  ·obtain rfl : ss = 0 := Nat.le_antisymm hhi hlo
   rw [← hfe]
   have hS := (hfr vals1).sub (ts := [34, 35, 39]) (S' := [(34, vals1 1), (35, vals1 2), (39, vals1 6)]) rfl
   replace hS := hS.conv (t := 34) rfl (show (vals1 1) = .int .i64 base from hV 1 (by decide))
   replace hS := hS.conv (t := 35) rfl (show (vals1 2) = .int .i64 f_2 from hV 2 (by decide))
   replace hS := hS.conv (t := 39) rfl (show (vals1 6) = .int .i64 (min s0 f) from hV 6 (by decide))
   obtain ⟨I2, hI2, H⟩ := Gx.ex hG
   refine L_hcall H (js := []) rfl (caps := #[]) hS fn_34_YRe rfl rfl rfl rfl rfl (fun D1 hS => have hq := c_relay_counts hx4 hS; hq) fun _ yw D1 hr hF2 => ?_
   obtain ⟨g0_, g1_, g2_, rfl, I3, K⟩ := hr
   obtain ⟨hK, H2⟩ := hF2 K
   exact ⟨rfl, Gx.go hG hI2 hK K.imm H2⟩
  refine .cons (fun ss hlo hhi vals1 xw hG hV => ?_) ?_
  ·obtain rfl | rfl : ss = 0 ∨ ss = 1 := st1 hlo hhi
   all_goals
   ·rw [← hfe]
    have hS := (hfr vals1).sub (ts := [19]) (S' := [(19, .func (.func 32) #[] #[.pointer (some ⟨b1, 0, none⟩), .pointer (some ⟨b2, 0, none⟩)])]) rfl
    exact L_val hS rfl (Ob_c tRe rfl) ⟨rfl, hG⟩
  refine .cons (fun ss hlo hhi vals1 xw hG hV => ?_) ?_
  ·obtain rfl | rfl : ss = 0 ∨ ss = 1 := st1 hlo hhi
   all_goals
   ·rw [← hfe]
    have hS := (hfr vals1).sub (ts := [18]) (S' := [(18, .func (.func 30) #[] #[.pointer (some ⟨b3, 0, none⟩), .pointer (some ⟨b5, 0, none⟩), .pointer (some ⟨b6, 0, none⟩)])]) rfl
    exact L_val hS rfl (Ob_c tRe rfl) ⟨rfl, hG⟩
  refine .cons (fun ss hlo hhi vals1 xw hG hV => ?_) ?_
  ·obtain rfl : ss = 1 := Nat.le_antisymm hhi hlo
   rw [← hfe]
   have hS := (hfr vals1).sub (ts := [40, 41, 42]) (S' := [(40, vals1 7), (41, vals1 8), (42, vals1 9)]) rfl
   replace hS := hS.conv (t := 40) rfl (show (vals1 7) = .func (.func 54) #[] #[.pointer (some ⟨(capBlk (vals1 7) 0), 0, none⟩), .pointer (some ⟨(capBlk (vals1 7) 1), 0, none⟩), .pointer (some ⟨(capBlk (vals1 7) 2), 0, none⟩)] from hV 7 (by decide))
   replace hS := hS.conv (t := 41) rfl (show (vals1 8) = .func (.func 32) #[] #[.pointer (some ⟨b1, 0, none⟩), .pointer (some ⟨b2, 0, none⟩)] from hV 8 (by decide))
   replace hS := hS.conv (t := 42) rfl (show (vals1 9) = .func (.func 30) #[] #[.pointer (some ⟨b3, 0, none⟩), .pointer (some ⟨b5, 0, none⟩), .pointer (some ⟨b6, 0, none⟩)] from hV 9 (by decide))
   obtain ⟨I2, hI2, H⟩ := Gx.ex hG
   exact L_bslice H (vs := [(0, .func (.func 54) #[] #[.pointer (some ⟨(capBlk (vals1 7) 0), 0, none⟩), .pointer (some ⟨(capBlk (vals1 7) 1), 0, none⟩), .pointer (some ⟨(capBlk (vals1 7) 2), 0, none⟩)]), (1, .func (.func 32) #[] #[.pointer (some ⟨b1, 0, none⟩), .pointer (some ⟨b2, 0, none⟩)]), (2, .func (.func 30) #[] #[.pointer (some ⟨b3, 0, none⟩), .pointer (some ⟨b5, 0, none⟩), .pointer (some ⟨b6, 0, none⟩)])]) (cl := [.func (.func 54) #[] #[.pointer (some ⟨(capBlk (vals1 7) 0), 0, none⟩), .pointer (some ⟨(capBlk (vals1 7) 1), 0, none⟩), .pointer (some ⟨(capBlk (vals1 7) 2), 0, none⟩)], .func (.func 32) #[] #[.pointer (some ⟨b1, 0, none⟩), .pointer (some ⟨b2, 0, none⟩)], .func (.func 30) #[] #[.pointer (some ⟨b3, 0, none⟩), .pointer (some ⟨b5, 0, none⟩), .pointer (some ⟨b6, 0, none⟩)]]) (e := 66) hS rfl rfl rfl (fun w => run_bslice (z := .nilFunc) (m := 1) Try.underlying97 (by kernel_rfl) rfl rfl (by decide) (by simp [Instr.fill, Value.cells]) w) fun yw b hK H => ⟨rfl, Gx.go hG hI2 hK (fun _ h => h) H⟩
  refine .cons (fun ss hlo hhi vals1 xw hG hV => ?_) ?_
  ·obtain rfl : ss = 2 := Nat.le_antisymm hhi hlo
   rw [← hfe]
   have hS := (hfr vals1).sub (ts := [33, 43]) (S' := [(33, vals1 0), (43, vals1 10)]) rfl
   replace hS := hS.conv (t := 33) rfl (show (vals1 0) = .int .i64 epoch from hV 0 (by decide))
   replace hS := hS.conv (t := 43) rfl (show (vals1 10) = .slice (some ⟨blkOf (vals1 10), 0, none⟩) 3 3 from hV 10 (by decide))
   obtain ⟨I2, hI2, H⟩ := Gx.ex hG
   refine L_hcall H (js := [(1, false), (1, false), (1, false), (6, false), (5, false), (4, false), (4, true), (2, false), (1, false), (0, false)]) rfl (caps := #[]) hS fn_33_YRe rfl rfl rfl rfl rfl (fun D1 hS => have hq := c_relay_made__relay_Fwd_1 hx5 hS; hq) fun _ yw D1 hr hF2 => ?_
   obtain ⟨q0_, q1_, q2_, q3_, q4_, rfl, I3, K⟩ := hr
   obtain ⟨hK, H2⟩ := hF2 K
   exact ⟨rfl, Gx.go hG hI2 hK K.imm H2⟩
  refine .cons (fun ss hlo hhi vals1 xw hG hV => ?_) ?_
  ·obtain rfl : ss = 3 := Nat.le_antisymm hhi hlo
   rw [← hfe]
   have hS := (hfr vals1).sub (ts := [44, 14]) (S' := [(44, vals1 11), (14, .pointer (some ⟨b4, 0, none⟩))]) rfl
   replace hS := hS.conv (t := 44) rfl (show (vals1 11) = .agg #[.int .i64 x0.k, .int .i64 x0.epoch, .int .i64 x0.req, .int .i64 x0.serial, .bool x0.flag, .int .u64 x0.at_, .int .u64 x0.last, .int .i64 x0.n, .int .i64 x0.m, .int .i64 x0.p, .int .i64 x0.e, .string x0.key, .string x0.to_, .int .i64 x0.conf.epoch, (aggAt (vals1 11) 14), .int .u64 x0.conf.floor, .int .i64 x0.batch.client, .int .i64 x0.batch.req, (aggAt (vals1 11) 18), (aggAt (vals1 11) 19), (aggAt (vals1 11) 20), (aggAt (vals1 11) 21)] from hV 11 (by decide))
   obtain ⟨I2, hI2, H⟩ := Gx.ex hG
   exact L_store tRe H 14 rfl hS rfl rfl rfl rfl rfl rfl rfl rfl (one_cons rfl (one_cons rfl (one_cons rfl (one_cons rfl (one_cons rfl (one_cons rfl (one_cons rfl (one_cons rfl (one_cons rfl (one_cons rfl (one_cons rfl (one_cons rfl (one_cons rfl (one_cons rfl (one_cons (slS.one (H.slshape 9 rfl)) (one_cons rfl (one_cons rfl (one_cons rfl (one_cons (slS.one (H.slshape 10 rfl)) (one_cons (slS.one (H.slshape 11 rfl)) (one_cons (slS.one (H.slshape 12 rfl)) (one_cons (slS.one (H.slshape 13 rfl)) one_nil)))))))))))))))))))))) (Nat.le_of_ble_eq_true rfl) (putCells_all rfl) fun yw hK H => ⟨trivial, Gx.go hG hI2 hK (fun _ h => h) H⟩
  exact .nil
 ·intro vals1 a w11 Z hG hV
  replace Z := Z.sub (ts := [14]) (S' := [(14, .pointer (some ⟨b4, 0, none⟩))]) rfl
  obtain ⟨I3, _, H⟩ := Gx.ex hG
  clear hG hV
  replace Z := Z.sub (ts := [14]) rfl
  replace H : Hf I D w I3 w11 [BxC b4 37 (cEMsg x0 (aggAt (vals1 11) 14) (aggAt (vals1 11) 18) (aggAt (vals1 11) 19) (aggAt (vals1 11) 20) (aggAt (vals1 11) 21)), BxC (capBlk (vals1 7) 0) 3 [.int .i64 c.1], BxC (capBlk (vals1 7) 1) 3 [.int .i64 c.2.1], BxC (capBlk (vals1 7) 2) 3 [.int .i64 c.2.2], BxC b1 3 [.int .i64 stable], BxC b2 24 [.int .u64 horizon], BxC b3 22 [v1_l], BxC b5 3 [.int .i64 f_2], BxC b6 3 [.int .i64 (min f (f_2 + 4))], BxC (blkOf (vals1 10)) 66 [.func (.func 54) #[] #[.pointer (some ⟨(capBlk (vals1 7) 0), 0, none⟩), .pointer (some ⟨(capBlk (vals1 7) 1), 0, none⟩), .pointer (some ⟨(capBlk (vals1 7) 2), 0, none⟩)], .func (.func 32) #[] #[.pointer (some ⟨b1, 0, none⟩), .pointer (some ⟨b2, 0, none⟩)], .func (.func 30) #[] #[.pointer (some ⟨b3, 0, none⟩), .pointer (some ⟨b5, 0, none⟩), .pointer (some ⟨b6, 0, none⟩)]], SlC NEMember (aggAt (vals1 11) 14) x0.conf.members, SlC NEOp (aggAt (vals1 11) 18) x0.batch.ops, SlC NEEntry (aggAt (vals1 11) 19) x0.entries, SlC Nu64 (aggAt (vals1 11) 20) x0.stamps, SlC NEPair (aggAt (vals1 11) 21) x0.pairs, SlC NEEntry v1_l l] := H
  refine p_then (wp_ret ?_)
  obtain rfl := some_in hF
  exact f_ret Z (run_resultsC rfl Z rfl (run_loadVar_agg tRe rfl (H.bx 0 rfl).at)) ⟨(aggAt (vals1 11) 14), (aggAt (vals1 11) 18), (aggAt (vals1 11) 19), (aggAt (vals1 11) 20), (aggAt (vals1 11) 21), rfl, I3, (H.sub [(10, true), (11, true), (12, true), (13, true), (14, true)] rfl).eq rfl⟩

end Go.Proofs.Ytmdoimpeacndaaa
