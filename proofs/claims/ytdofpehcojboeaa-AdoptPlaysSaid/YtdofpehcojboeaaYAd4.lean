/- What is adopted: the document's. -/
import Derived.Test.YtdofpehcojboeaaYAd2
namespace Go.Proofs.Ytdofpehcojboeaa
open Go.RowKit
def tAd4L : TabL := ⟨[(34817, 3), (65536, 0)], [], [], [(22, (34, 4)), (25, (54, 18))], [(22, (1, false)), (32, (1, false)), (34, (4, true)), (64, (1, true))]⟩

def tAd4 : Tab Try.prog := ⟨tAd4L, by kernel_rfl⟩

theorem fn_13_YAd4 : IsFn Try.prog 13 := ⟨_, Try.func13, by kernel_rfl, by kernel_rfl⟩

theorem fn_17_YAd4 : IsFn Try.prog 17 := ⟨_, Try.func17, by kernel_rfl, by kernel_rfl⟩

theorem fn_19_YAd4 : IsFn Try.prog 19 := ⟨_, Try.func19, by kernel_rfl, by kernel_rfl⟩

theorem fn_23_YAd4 : IsFn Try.prog 23 := ⟨_, Try.func23, by kernel_rfl, by kernel_rfl⟩

theorem fn_24_YAd4 : IsFn Try.prog 24 := ⟨_, Try.func24, by kernel_rfl, by kernel_rfl⟩

theorem fn_28_YAd4 : IsFn Try.prog 28 := ⟨_, Try.func28, by kernel_rfl, by kernel_rfl⟩

theorem E_25_YAd4 : Elem Try.prog 25 54 18 192 := ⟨Try.underlying25, by
 have h : (Try.prog.info? 54).map (fun i => (i.zero, i.size, i.bytes)) = some (some (.agg #[.int .i64 0, .int .i64 0, .int .u64 0, .int .i64 0, .slice none 0 0, .int .u64 0, .slice none 0 0, .int .i64 0, .int .i64 0, .slice none 0 0, .int .u64 0, .int .i64 0, .int .u64 0, .int .i64 0, .int .i64 0, .int .i64 0, .int .i64 0, .int .i64 0]), 18, 192) := by kernel_rfl
 obtain ⟨i, hi, h1⟩ := Option.map_eq_some_iff.1 h
 simp only [Prod.mk.injEq] at h1
 exact ⟨i, _, hi, h1.1, h1.2.1, h1.2.2, by rfl⟩, by decide⟩

def F_ref18_One_k1 (own : List EEntry) (i : Int) (x_ts : Int) : Option EEntry := some ({ batch := ({ client := ((own.getD (i).toNat default).batch).client, req := ((own.getD (i).toNat default).batch).req, ops := ((own.getD (i).toNat default).batch).ops } : EBatch), ts := x_ts } : EEntry)

def F_ref18_One (own : List EEntry) (i : Int) (e : EEntry) : Option EEntry := chk ((!((decide (i < 0)) || (decide (i ≥ (own.length : Int))))) = true → (0 : Int) ≤ i ∧ i < (own.length : Int)) ((gif (!((decide (i < 0)) || (decide (i ≥ (own.length : Int))))) (F_ref08_Twins ({ (own.getD (i).toNat default) with batch := ({ client := ((own.getD (i).toNat default).batch).client, req := ((own.getD (i).toNat default).batch).req, ops := ((own.getD (i).toNat default).batch).ops } : EBatch) } : EEntry) e) default).bind fun t => (if (((decide (i < 0)) || (decide (i ≥ (own.length : Int)))) || (!t)) = true then (some e) else (chk ((0 : Int) ≤ i ∧ i < (own.length : Int)) (if (e.ts != 0) = true then (F_ref18_One_k1 own i e.ts) else (F_ref18_One_k1 own i ((own.getD (i).toNat default).ts))))))

set_option maxHeartbeats 1000000 in
theorem c_ref18_One {I D : Dm} {own : List EEntry} {v1_own : Value} {i : Int} {e : EEntry} {v2_e : Value} {w : World} {rr : EEntry} (hF : F_ref18_One own i e = some rr) (H : St I D w [SlC NEEntry v1_own own, SlC NEOp v2_e e.batch.ops]) :
  Calls Try.prog 13 #[v1_own, .int .i64 i, .agg #[.int .i64 e.batch.client, .int .i64 e.batch.req, v2_e, .int .u64 e.ts]] w (Ret fun vv w' => ∃ q1 : Value, vv = .agg #[.int .i64 rr.batch.client, .int .i64 rr.batch.req, q1, .int .u64 rr.ts] ∧ ∃ I', Hf I D w I' w' [SlC NEOp q1 rr.batch.ops]) := by
 replace H := H.hf
 unfold F_ref18_One at hF
 refine f_enter 37 Try.func13 rfl rfl (Nat.le_of_ble_eq_true rfl) fun a Z => ?_
 replace Z := Z.sub (ts := [0, 1, 2]) rfl
 refine wp_seq (f_region Z ?_); clear Z; intro Z
 refine h_boxv Z H (cl := [.int .i64 e.batch.client, .int .i64 e.batch.req, v2_e, .int .u64 e.ts]) rfl rfl rfl (by decide) rfl rfl rfl ?_; clear Z a H; intro a w1 b1 H Z
 refine h_alloc Z H (cl := [.int .i64 0, .int .i64 0, .slice none 0 0, .int .u64 0]) (z := .agg #[.int .i64 0, .int .i64 0, .slice none 0 0, .int .u64 0]) rfl rfl rfl (by decide) rfl (by kernel_rfl) rfl ?_; clear Z a H; intro a w2 b2 H Z
 refine s_end Z [0, 1, 5, 6] rfl ?_; clear Z; intro Z
 refine p_then (wp_seq ?_)
 refine wp_seq ?_
 obtain ⟨hg1, hF⟩ := chk_in hF
 obtain ⟨_, ⟨u1, rfl, L1⟩, H⟩ := H.elG 2 rfl (i) (NEEntry.dft _ _)
 replace H := H.addsl L1
 replace H : Hf I D w I w2 [SlC NEOp u1 (((own.getD (i).toNat default).batch).ops), AtG ((0 : Int) ≤ i ∧ i < (own.length : Int)) (blkOf v1_own) (oofOf v1_own + (i).toNat * 4) [.int .i64 (((own.getD (i).toNat default).batch).client), .int .i64 (((own.getD (i).toNat default).batch).req), u1, .int .u64 ((own.getD (i).toNat default).ts)], BxC b2 34 [.int .i64 0, .int .i64 0, .slice none 0 0, .int .u64 0], BxC b1 34 (cEEntry e v2_e), SlC NEEntry v1_own own, SlC NEOp v2_e e.batch.ops] := H
 obtain ⟨t, hx1, hF⟩ := bnd_in hF
 refine f_quietd (by kernel_rfl) (by kernel_rfl) Z ?_; clear Z; intro Z
 refine q_runk tAd4 Z 3 rfl rfl ?_; clear Z a; intro a Z
 refine gq_ob Z (p := (!(decide (i < 0)))) (v := .int .i64 i) (S' := [(1, .int .i64 i)]) rfl rfl rfl (wantB_f _) rfl (by decide) (fun hp hS => hS.sub (ts := [1]) rfl) (fun hp _ hw => Ob_c tAd4 rfl) ?_; clear Z a; intro a Z
 refine gq_ob Z (p := (!(decide (i < 0)))) (v := v1_own) (S' := [(0, v1_own)]) rfl rfl rfl (wantB_f _) rfl (by decide) (fun hp hS => hS.sub (ts := [0]) rfl) (fun hp _ hw => Ob_c tAd4 rfl) ?_; clear Z a; intro a Z
 refine gq_ob Z (p := (!(decide (i < 0)))) (v := .int .i64 (own.length : Int)) (S' := [(12, v1_own)]) rfl rfl rfl (wantB_f _) rfl (by decide) (fun hp hS => (hS.conv (t := 12) rfl (cond_t hp)).sub (ts := [12]) rfl) (fun hp _ hw => Ob_slen tAd4 rfl rfl rfl ((H.blw hw).slshape 4 rfl)) ?_; clear Z a; intro a Z
 refine gq_ob Z (p := (!(decide (i < 0)))) (v := .bool (decide (i ≥ (own.length : Int)))) (S' := [(11, .int .i64 i), (13, .int .i64 (own.length : Int))]) rfl rfl rfl (wantB_f _) rfl (by decide) (fun hp hS => ((hS.conv (t := 11) rfl (cond_t hp)).conv (t := 13) rfl (cond_t hp)).sub (ts := [11, 13]) rfl) (fun hp _ hw => Ob_c tAd4 rfl) ?_; clear Z a; intro a Z
 refine q_ob Z (v := .bool ((decide (i < 0)) || (decide (i ≥ (own.length : Int))))) rfl rfl (by decide) rfl (fun _ hw => Ob_pick rfl rfl rfl rfl (pick_or _ _)) ?_; clear Z a; intro a Z
 refine q_runk tAd4 Z 1 rfl rfl ?_; clear Z a; intro a Z
 refine gq_ob Z (p := (!((decide (i < 0)) || (decide (i ≥ (own.length : Int)))))) (v := v1_own) (S' := [(0, v1_own)]) rfl rfl rfl (wantB_f _) rfl (by decide) (fun hp hS => hS.sub (ts := [0]) rfl) (fun hp _ hw => Ob_c tAd4 rfl) ?_; clear Z a; intro a Z
 refine gq_ob Z (p := (!((decide (i < 0)) || (decide (i ≥ (own.length : Int)))))) (v := .int .i64 i) (S' := [(1, .int .i64 i)]) rfl rfl rfl (wantB_f _) rfl (by decide) (fun hp hS => hS.sub (ts := [1]) rfl) (fun hp _ hw => Ob_c tAd4 rfl) ?_; clear Z a; intro a Z
 refine gq_ob Z (p := (!((decide (i < 0)) || (decide (i ≥ (own.length : Int)))))) (v := .pointer (some ⟨blkOf v1_own, oofOf v1_own + (i).toNat * 4, none⟩)) (S' := [(17, v1_own), (18, .int .i64 i)]) rfl rfl rfl (wantB_f _) rfl (by decide) (fun hp hS => ((hS.conv (t := 17) rfl (cond_t hp)).conv (t := 18) rfl (cond_t hp)).sub (ts := [17, 18]) rfl) (fun hp _ hw => Ob_sidx tAd4 rfl rfl rfl rfl (slPl ((H.blw hw).sl 4 rfl) (hg1 hp)) (hg1 hp)) ?_; clear Z a; intro a Z
 refine gq_ob Z (p := (!((decide (i < 0)) || (decide (i ≥ (own.length : Int)))))) (v := .agg #[.int .i64 (((own.getD (i).toNat default).batch).client), .int .i64 (((own.getD (i).toNat default).batch).req), u1, .int .u64 ((own.getD (i).toNat default).ts)]) (S' := [(19, .pointer (some ⟨blkOf v1_own, oofOf v1_own + (i).toNat * 4, none⟩))]) rfl rfl rfl (wantB_f _) rfl (by decide) (fun hp hS => (hS.conv (t := 19) rfl (cond_t hp)).sub (ts := [19]) rfl) (fun hp _ hw => Ob_loads tAd4 rfl rfl rfl (((H.blw hw).atg 1 rfl (hg1 hp)).part 0 rfl)) ?_; clear Z a; intro a Z
 refine gq_ob Z (p := (!((decide (i < 0)) || (decide (i ≥ (own.length : Int)))))) (v := .agg #[.int .i64 e.batch.client, .int .i64 e.batch.req, v2_e, .int .u64 e.ts]) (S' := [(5, .pointer (some ⟨b1, 0, none⟩))]) rfl rfl rfl (wantB_f _) rfl (by decide) (fun hp hS => hS.sub (ts := [5]) rfl) (fun hp _ hw => Ob_loads tAd4 rfl rfl rfl (((H.blw hw).bx 3 rfl).part 0 rfl)) ?_; clear Z a; intro a Z
 refine gq_call Z (p := (!((decide (i < 0)) || (decide (i ≥ (own.length : Int)))))) (v := .bool t) (S' := [(20, .agg #[.int .i64 (((own.getD (i).toNat default).batch).client), .int .i64 (((own.getD (i).toNat default).batch).req), u1, .int .u64 ((own.getD (i).toNat default).ts)]), (21, .agg #[.int .i64 e.batch.client, .int .i64 e.batch.req, v2_e, .int .u64 e.ts])]) (caps := #[]) fn_19_YAd4 rfl rfl rfl (wantB_f _) rfl (by decide) (fun hp hS => ((hS.conv (t := 20) rfl (cond_t hp)).conv (t := 21) rfl (cond_t hp)).sub (ts := [20, 21]) rfl) rfl rfl rfl rfl (fun hp _ hw => (have hq := c_ref08_Twins (gif_in hx1 hp) (((H.blw hw)).pick0 (js := [(0, true), (5, true)]) rfl rfl); plainC hq)) ?_; clear Z a; intro a Z
 refine gq_ob Z (p := (!((decide (i < 0)) || (decide (i ≥ (own.length : Int)))))) (v := .bool (!t)) (S' := [(22, .bool t)]) rfl rfl rfl (wantB_f _) rfl (by decide) (fun hp hS => (hS.conv (t := 22) rfl (cond_t hp)).sub (ts := [22]) rfl) (fun hp _ hw => Ob_c tAd4 rfl) ?_; clear Z a; intro a Z
 refine q_ob Z (v := .bool (((decide (i < 0)) || (decide (i ≥ (own.length : Int)))) || (!t))) rfl rfl (by decide) rfl (fun _ hw => Ob_pick rfl rfl rfl rfl (pick_or _ _)) ?_; clear Z a; intro a Z
 refine q_end Z [0, 1, 5, 6, 24] rfl ?_; clear Z; intro w3 hb Z
 replace H : Hf I D w I w3 [SlC NEOp u1 (((own.getD (i).toNat default).batch).ops), AtG ((0 : Int) ≤ i ∧ i < (own.length : Int)) (blkOf v1_own) (oofOf v1_own + (i).toNat * 4) [.int .i64 (((own.getD (i).toNat default).batch).client), .int .i64 (((own.getD (i).toNat default).batch).req), u1, .int .u64 ((own.getD (i).toNat default).ts)], BxC b2 34 [.int .i64 0, .int .i64 0, .slice none 0 0, .int .u64 0], BxC b1 34 (cEEntry e v2_e), SlC NEEntry v1_own own, SlC NEOp v2_e e.batch.ops] := H.blw hb
 clear hb
 refine p_then ?_
 refine f_cond Z rfl (fun hc1 => ?_) (fun hc1 => ?_)
 ·replace hF := ite_t hc1 hF
  refine wp_seq (f_region Z ?_); clear Z; intro Z
  refine s_ob Z (v := .agg #[.int .i64 e.batch.client, .int .i64 e.batch.req, v2_e, .int .u64 e.ts]) rfl rfl (by decide) rfl (Ob_loads tAd4 rfl rfl rfl ((H.bx 3 rfl).part 0 rfl)) ?_; clear Z a; intro a Z
  refine h_store tAd4 Z H 2 rfl rfl rfl rfl rfl rfl rfl rfl rfl (one_cons rfl (one_cons rfl (one_cons (slS.one (H.slshape 5 rfl)) (one_cons rfl one_nil)))) (Nat.le_of_ble_eq_true rfl) rfl ?_; clear H; intro w4 H
  dsimp only [List.eraseIdx] at H
  refine s_end Z [0, 1, 5, 6] rfl ?_; clear Z; intro Z
  refine p_then (wp_ret ?_)
  refine p_then_r ?_
  obtain rfl := some_in hF
  exact f_ret Z (run_resultsC rfl Z rfl (run_loadVar_agg tAd4 rfl (H.bx 0 rfl).at)) ⟨v2_e, rfl, I, (H.sub [(5, true)] rfl).eq rfl⟩
 ·replace hF := ite_f hc1 hF
  refine wp_skip ?_
  refine p_then (wp_seq ?_)
  obtain ⟨hg2, hF⟩ := chk_in hF
  refine f_region Z ?_; clear Z; intro Z
  refine s_runk tAd4 Z 2 rfl rfl ?_; clear Z a; intro a Z
  refine s_ob Z (v := .pointer (some ⟨blkOf v1_own, oofOf v1_own + (i).toNat * 4, none⟩)) rfl rfl (by decide) rfl (Ob_sidx tAd4 rfl rfl rfl rfl (slPl (H.sl 4 rfl) hg2) hg2) ?_; clear Z a; intro a Z
  obtain ⟨_, ⟨u2, rfl, L2⟩, H⟩ := H.elG 4 rfl (i) (NEEntry.dft _ _)
  replace H := H.addsl L2
  replace H : Hf I D w I w3 [SlC NEOp u2 (((own.getD (i).toNat default).batch).ops), AtG ((0 : Int) ≤ i ∧ i < (own.length : Int)) (blkOf v1_own) (oofOf v1_own + (i).toNat * 4) [.int .i64 (((own.getD (i).toNat default).batch).client), .int .i64 (((own.getD (i).toNat default).batch).req), u2, .int .u64 ((own.getD (i).toNat default).ts)], SlC NEOp u1 (((own.getD (i).toNat default).batch).ops), AtG ((0 : Int) ≤ i ∧ i < (own.length : Int)) (blkOf v1_own) (oofOf v1_own + (i).toNat * 4) [.int .i64 (((own.getD (i).toNat default).batch).client), .int .i64 (((own.getD (i).toNat default).batch).req), u1, .int .u64 ((own.getD (i).toNat default).ts)], BxC b2 34 [.int .i64 0, .int .i64 0, .slice none 0 0, .int .u64 0], BxC b1 34 (cEEntry e v2_e), SlC NEEntry v1_own own, SlC NEOp v2_e e.batch.ops] := H
  refine s_ob Z (v := .agg #[.int .i64 (((own.getD (i).toNat default).batch).client), .int .i64 (((own.getD (i).toNat default).batch).req), u2, .int .u64 ((own.getD (i).toNat default).ts)]) rfl rfl (by decide) rfl (Ob_loads tAd4 rfl rfl rfl ((H.atg 1 rfl hg2).part 0 rfl)) ?_; clear Z a; intro a Z
  refine h_alloc Z H (cl := [.int .i64 0, .int .i64 0, .slice none 0 0, .int .u64 0]) (z := .agg #[.int .i64 0, .int .i64 0, .slice none 0 0, .int .u64 0]) rfl rfl rfl (by decide) rfl (by kernel_rfl) rfl ?_; clear Z a H; intro a w5 b3 H Z
  refine h_store tAd4 Z H 0 rfl rfl rfl rfl rfl rfl rfl rfl rfl (one_cons rfl (one_cons rfl (one_cons (slS.one (H.slshape 1 rfl)) (one_cons rfl one_nil)))) (Nat.le_of_ble_eq_true rfl) rfl ?_; clear H; intro w6 H
  dsimp only [List.eraseIdx] at H
  refine s_end Z [5, 6, 7] rfl ?_; clear Z; intro Z
  refine p_then ?_
  refine f_cut (fun a' w' => ∃ (x_ts : Int), Sl 37 [(6, .pointer (some ⟨b2, 0, none⟩)), (7, .pointer (some ⟨b3, 0, none⟩))] a' ∧ (∃ I2, Hf I D w I2 w' [BxC b2 34 [.int .i64 0, .int .i64 0, .slice none 0 0, .int .u64 0], BxC b3 34 [.int .i64 (((own.getD (i).toNat default).batch).client), .int .i64 (((own.getD (i).toNat default).batch).req), u2, .int .u64 x_ts], SlC NEOp u2 (((own.getD (i).toNat default).batch).ops)]) ∧ F_ref18_One_k1 own i x_ts = some rr) ?_ ?_
  ·rintro a w7 ⟨x_ts, Z, ⟨I1, H⟩, hF⟩
   unfold F_ref18_One_k1 at hF
   try dsimp only at hF
   refine wp_seq (f_region Z ?_); clear Z; intro Z
   refine s_ob Z (v := .agg #[.int .i64 (((own.getD (i).toNat default).batch).client), .int .i64 (((own.getD (i).toNat default).batch).req), u2, .int .u64 x_ts]) rfl rfl (by decide) rfl (Ob_loads tAd4 rfl rfl rfl ((H.bx 1 rfl).part 0 rfl)) ?_; clear Z a; intro a Z
   refine h_store tAd4 Z H 0 rfl rfl rfl rfl rfl rfl rfl rfl rfl (one_cons rfl (one_cons rfl (one_cons (slS.one (H.slshape 2 rfl)) (one_cons rfl one_nil)))) (Nat.le_of_ble_eq_true rfl) rfl ?_; clear H; intro w8 H
   dsimp only [List.eraseIdx] at H
   refine s_end Z [6] rfl ?_; clear Z; intro Z
   refine p_then (wp_ret ?_)
   obtain rfl := some_in hF
   exact f_ret Z (run_resultsC rfl Z rfl (run_loadVar_agg tAd4 rfl (H.bx 0 rfl).at)) ⟨u2, rfl, I1, (H.sub [(2, true)] rfl).eq rfl⟩
  ·skip
   refine wp_seq (f_region Z ?_); clear Z; intro Z
   refine s_runk tAd4 Z 1 rfl rfl ?_; clear Z a; intro a Z
   refine s_ob Z (v := .int .u64 e.ts) rfl rfl (by decide) rfl (Ob_load tAd4 rfl rfl rfl ((H.bx 6 rfl).cell 3 rfl)) ?_; clear Z a; intro a Z
   refine s_runk tAd4 Z 1 rfl rfl ?_; clear Z a; intro a Z
   refine s_end Z [5, 6, 7, 32] rfl ?_; clear Z; intro Z
   refine p_then ?_
   refine f_cond Z rfl (fun hc2 => ?_) (fun hc2 => ?_)
   ·replace hF := ite_t hc2 hF
    refine f_region Z ?_; clear Z; intro Z
    refine s_runk tAd4 Z 1 rfl rfl ?_; clear Z a; intro a Z
    refine s_ob Z (v := .int .u64 e.ts) rfl rfl (by decide) rfl (Ob_load tAd4 rfl rfl rfl ((H.bx 6 rfl).cell 3 rfl)) ?_; clear Z a; intro a Z
    refine s_runk tAd4 Z 1 rfl rfl ?_; clear Z a; intro a Z
    refine h_store tAd4 Z H 0 rfl rfl rfl rfl rfl rfl rfl rfl rfl (one_cons rfl one_nil) (Nat.le_of_ble_eq_true rfl) rfl ?_; clear H; intro w9 H
    dsimp only [List.eraseIdx] at H
    refine s_end Z [6, 7] rfl ?_; clear Z; intro Z
    refine p_then ?_
    exact ⟨e.ts, Z.sub (ts := [6, 7]) rfl, ⟨I, (H.sub [(5, false), (0, false), (0, true)] rfl).eq rfl⟩, hF⟩
   ·replace hF := ite_f hc2 hF
    refine wp_skip ?_
    refine p_then ?_
    exact ⟨(own.getD (i).toNat default).ts, Z.sub (ts := [6, 7]) rfl, ⟨I, (H.sub [(5, false), (0, false), (0, true)] rfl).eq rfl⟩, hF⟩

def F_ref18_One_own_k1 (own : List EEntry) (i : Int) (x_ts : Int) : Option EEntry := some ({ batch := ({ client := ((own.getD (i).toNat default).batch).client, req := ((own.getD (i).toNat default).batch).req, ops := ((own.getD (i).toNat default).batch).ops } : EBatch), ts := x_ts } : EEntry)

def F_ref18_One_own (own : List EEntry) (i : Int) (e : EEntry) : Option EEntry := chk ((!((decide (i < 0)) || (decide (i ≥ (own.length : Int))))) = true → (0 : Int) ≤ i ∧ i < (own.length : Int)) ((gif (!((decide (i < 0)) || (decide (i ≥ (own.length : Int))))) (F_ref08_Twins ({ (own.getD (i).toNat default) with batch := ({ client := ((own.getD (i).toNat default).batch).client, req := ((own.getD (i).toNat default).batch).req, ops := ((own.getD (i).toNat default).batch).ops } : EBatch) } : EEntry) e) default).bind fun t => (if (((decide (i < 0)) || (decide (i ≥ (own.length : Int)))) || (!t)) = true then (some e) else (chk ((0 : Int) ≤ i ∧ i < (own.length : Int)) (if (e.ts != 0) = true then (F_ref18_One_own_k1 own i e.ts) else (F_ref18_One_own_k1 own i ((own.getD (i).toNat default).ts))))))

set_option maxHeartbeats 1000000 in
theorem c_ref18_One_own {I D : Dm} {own : List EEntry} {v1_own : Value} {i : Int} {e : EEntry} {v2_e : Value} {w : World} {rr : EEntry} (hF : F_ref18_One_own own i e = some rr) (H : St I D w [OwC NEEntry 34 v1_own own, SlC NEOp v2_e e.batch.ops]) :
  Calls Try.prog 13 #[v1_own, .int .i64 i, .agg #[.int .i64 e.batch.client, .int .i64 e.batch.req, v2_e, .int .u64 e.ts]] w (Ret fun vv w' => ∃ q1 : Value, vv = .agg #[.int .i64 rr.batch.client, .int .i64 rr.batch.req, q1, .int .u64 rr.ts] ∧ ∃ I', Hf I D w I' w' [OwC NEEntry 34 v1_own own, SlC NEOp q1 rr.batch.ops]) := by
 replace H := H.hf
 unfold F_ref18_One_own at hF
 refine f_enter 37 Try.func13 rfl rfl (Nat.le_of_ble_eq_true rfl) fun a Z => ?_
 replace Z := Z.sub (ts := [0, 1, 2]) rfl
 refine wp_seq (f_region Z ?_); clear Z; intro Z
 refine h_boxv Z H (cl := [.int .i64 e.batch.client, .int .i64 e.batch.req, v2_e, .int .u64 e.ts]) rfl rfl rfl (by decide) rfl rfl rfl ?_; clear Z a H; intro a w1 b1 H Z
 refine h_alloc Z H (cl := [.int .i64 0, .int .i64 0, .slice none 0 0, .int .u64 0]) (z := .agg #[.int .i64 0, .int .i64 0, .slice none 0 0, .int .u64 0]) rfl rfl rfl (by decide) rfl (by kernel_rfl) rfl ?_; clear Z a H; intro a w2 b2 H Z
 refine s_end Z [0, 1, 5, 6] rfl ?_; clear Z; intro Z
 refine p_then (wp_seq ?_)
 refine wp_seq ?_
 obtain ⟨hg1, hF⟩ := chk_in hF
 obtain ⟨_, ⟨u1, rfl, L1⟩, hat1⟩ := H.owElG 2 rfl (i) (NEEntry.dft _ _)
 replace H : Hf I D w I w2 [SlC NEOp u1 (((own.getD (i).toNat default).batch).ops), BxC b2 34 [.int .i64 0, .int .i64 0, .slice none 0 0, .int .u64 0], BxC b1 34 (cEEntry e v2_e), OwC NEEntry 34 v1_own own, SlC NEOp v2_e e.batch.ops] := H.addsl L1
 obtain ⟨t, hx1, hF⟩ := bnd_in hF
 refine f_quietd (by kernel_rfl) (by kernel_rfl) Z ?_; clear Z; intro Z
 refine q_runk tAd4 Z 3 rfl rfl ?_; clear Z a; intro a Z
 refine gq_ob Z (p := (!(decide (i < 0)))) (v := .int .i64 i) (S' := [(1, .int .i64 i)]) rfl rfl rfl (wantB_f _) rfl (by decide) (fun hp hS => hS.sub (ts := [1]) rfl) (fun hp _ hw => Ob_c tAd4 rfl) ?_; clear Z a; intro a Z
 refine gq_ob Z (p := (!(decide (i < 0)))) (v := v1_own) (S' := [(0, v1_own)]) rfl rfl rfl (wantB_f _) rfl (by decide) (fun hp hS => hS.sub (ts := [0]) rfl) (fun hp _ hw => Ob_c tAd4 rfl) ?_; clear Z a; intro a Z
 refine gq_ob Z (p := (!(decide (i < 0)))) (v := .int .i64 (own.length : Int)) (S' := [(12, v1_own)]) rfl rfl rfl (wantB_f _) rfl (by decide) (fun hp hS => (hS.conv (t := 12) rfl (cond_t hp)).sub (ts := [12]) rfl) (fun hp _ hw => Ob_slen tAd4 rfl rfl rfl ((H.blw hw).owshape 3 rfl)) ?_; clear Z a; intro a Z
 refine gq_ob Z (p := (!(decide (i < 0)))) (v := .bool (decide (i ≥ (own.length : Int)))) (S' := [(11, .int .i64 i), (13, .int .i64 (own.length : Int))]) rfl rfl rfl (wantB_f _) rfl (by decide) (fun hp hS => ((hS.conv (t := 11) rfl (cond_t hp)).conv (t := 13) rfl (cond_t hp)).sub (ts := [11, 13]) rfl) (fun hp _ hw => Ob_c tAd4 rfl) ?_; clear Z a; intro a Z
 refine q_ob Z (v := .bool ((decide (i < 0)) || (decide (i ≥ (own.length : Int))))) rfl rfl (by decide) rfl (fun _ hw => Ob_pick rfl rfl rfl rfl (pick_or _ _)) ?_; clear Z a; intro a Z
 refine q_runk tAd4 Z 1 rfl rfl ?_; clear Z a; intro a Z
 refine gq_ob Z (p := (!((decide (i < 0)) || (decide (i ≥ (own.length : Int)))))) (v := v1_own) (S' := [(0, v1_own)]) rfl rfl rfl (wantB_f _) rfl (by decide) (fun hp hS => hS.sub (ts := [0]) rfl) (fun hp _ hw => Ob_c tAd4 rfl) ?_; clear Z a; intro a Z
 refine gq_ob Z (p := (!((decide (i < 0)) || (decide (i ≥ (own.length : Int)))))) (v := .int .i64 i) (S' := [(1, .int .i64 i)]) rfl rfl rfl (wantB_f _) rfl (by decide) (fun hp hS => hS.sub (ts := [1]) rfl) (fun hp _ hw => Ob_c tAd4 rfl) ?_; clear Z a; intro a Z
 refine gq_ob Z (p := (!((decide (i < 0)) || (decide (i ≥ (own.length : Int)))))) (v := .pointer (some ⟨blkOf v1_own, oofOf v1_own + (i).toNat * 4, none⟩)) (S' := [(17, v1_own), (18, .int .i64 i)]) rfl rfl rfl (wantB_f _) rfl (by decide) (fun hp hS => ((hS.conv (t := 17) rfl (cond_t hp)).conv (t := 18) rfl (cond_t hp)).sub (ts := [17, 18]) rfl) (fun hp _ hw => Ob_sidx tAd4 rfl rfl rfl rfl (slPl ((H.blw hw).owA 3 rfl) (hg1 hp)) (hg1 hp)) ?_; clear Z a; intro a Z
 refine gq_ob Z (p := (!((decide (i < 0)) || (decide (i ≥ (own.length : Int)))))) (v := .agg #[.int .i64 (((own.getD (i).toNat default).batch).client), .int .i64 (((own.getD (i).toNat default).batch).req), u1, .int .u64 ((own.getD (i).toNat default).ts)]) (S' := [(19, .pointer (some ⟨blkOf v1_own, oofOf v1_own + (i).toNat * 4, none⟩))]) rfl rfl rfl (wantB_f _) rfl (by decide) (fun hp hS => (hS.conv (t := 19) rfl (cond_t hp)).sub (ts := [19]) rfl) (fun hp _ hw => Ob_loads tAd4 rfl rfl rfl (((hat1 (hg1 hp)).blw hw).part 0 rfl)) ?_; clear Z a; intro a Z
 refine gq_ob Z (p := (!((decide (i < 0)) || (decide (i ≥ (own.length : Int)))))) (v := .agg #[.int .i64 e.batch.client, .int .i64 e.batch.req, v2_e, .int .u64 e.ts]) (S' := [(5, .pointer (some ⟨b1, 0, none⟩))]) rfl rfl rfl (wantB_f _) rfl (by decide) (fun hp hS => hS.sub (ts := [5]) rfl) (fun hp _ hw => Ob_loads tAd4 rfl rfl rfl (((H.blw hw).bx 2 rfl).part 0 rfl)) ?_; clear Z a; intro a Z
 refine gq_call Z (p := (!((decide (i < 0)) || (decide (i ≥ (own.length : Int)))))) (v := .bool t) (S' := [(20, .agg #[.int .i64 (((own.getD (i).toNat default).batch).client), .int .i64 (((own.getD (i).toNat default).batch).req), u1, .int .u64 ((own.getD (i).toNat default).ts)]), (21, .agg #[.int .i64 e.batch.client, .int .i64 e.batch.req, v2_e, .int .u64 e.ts])]) (caps := #[]) fn_19_YAd4 rfl rfl rfl (wantB_f _) rfl (by decide) (fun hp hS => ((hS.conv (t := 20) rfl (cond_t hp)).conv (t := 21) rfl (cond_t hp)).sub (ts := [20, 21]) rfl) rfl rfl rfl rfl (fun hp _ hw => (have hq := c_ref08_Twins (gif_in hx1 hp) (((H.blw hw)).pick0 (js := [(0, true), (4, true)]) rfl rfl); plainC hq)) ?_; clear Z a; intro a Z
 refine gq_ob Z (p := (!((decide (i < 0)) || (decide (i ≥ (own.length : Int)))))) (v := .bool (!t)) (S' := [(22, .bool t)]) rfl rfl rfl (wantB_f _) rfl (by decide) (fun hp hS => (hS.conv (t := 22) rfl (cond_t hp)).sub (ts := [22]) rfl) (fun hp _ hw => Ob_c tAd4 rfl) ?_; clear Z a; intro a Z
 refine q_ob Z (v := .bool (((decide (i < 0)) || (decide (i ≥ (own.length : Int)))) || (!t))) rfl rfl (by decide) rfl (fun _ hw => Ob_pick rfl rfl rfl rfl (pick_or _ _)) ?_; clear Z a; intro a Z
 refine q_end Z [0, 1, 5, 6, 24] rfl ?_; clear Z; intro w3 hb Z
 replace H : Hf I D w I w3 [SlC NEOp u1 (((own.getD (i).toNat default).batch).ops), BxC b2 34 [.int .i64 0, .int .i64 0, .slice none 0 0, .int .u64 0], BxC b1 34 (cEEntry e v2_e), OwC NEEntry 34 v1_own own, SlC NEOp v2_e e.batch.ops] := H.blw hb
 clear hb
 refine p_then ?_
 refine f_cond Z rfl (fun hc1 => ?_) (fun hc1 => ?_)
 ·replace hF := ite_t hc1 hF
  refine wp_seq (f_region Z ?_); clear Z; intro Z
  refine s_ob Z (v := .agg #[.int .i64 e.batch.client, .int .i64 e.batch.req, v2_e, .int .u64 e.ts]) rfl rfl (by decide) rfl (Ob_loads tAd4 rfl rfl rfl ((H.bx 2 rfl).part 0 rfl)) ?_; clear Z a; intro a Z
  refine h_store tAd4 Z H 1 rfl rfl rfl rfl rfl rfl rfl rfl rfl (one_cons rfl (one_cons rfl (one_cons (slS.one (H.slshape 4 rfl)) (one_cons rfl one_nil)))) (Nat.le_of_ble_eq_true rfl) rfl ?_; clear H; intro w4 H
  dsimp only [List.eraseIdx] at H
  refine s_end Z [0, 1, 5, 6] rfl ?_; clear Z; intro Z
  refine p_then (wp_ret ?_)
  refine p_then_r ?_
  obtain rfl := some_in hF
  exact f_ret Z (run_resultsC rfl Z rfl (run_loadVar_agg tAd4 rfl (H.bx 0 rfl).at)) ⟨v2_e, rfl, I, (H.sub [(3, false), (3, true)] rfl).eq rfl⟩
 ·replace hF := ite_f hc1 hF
  refine wp_skip ?_
  refine p_then (wp_seq ?_)
  obtain ⟨hg2, hF⟩ := chk_in hF
  refine f_region Z ?_; clear Z; intro Z
  refine s_runk tAd4 Z 2 rfl rfl ?_; clear Z a; intro a Z
  refine s_ob Z (v := .pointer (some ⟨blkOf v1_own, oofOf v1_own + (i).toNat * 4, none⟩)) rfl rfl (by decide) rfl (Ob_sidx tAd4 rfl rfl rfl rfl (slPl (H.owA 3 rfl) hg2) hg2) ?_; clear Z a; intro a Z
  obtain ⟨_, ⟨u2, rfl, L2⟩, hat2⟩ := H.owEl 3 rfl hg2
  replace H : Hf I D w I w3 [SlC NEOp u2 (((own.getD (i).toNat default).batch).ops), SlC NEOp u1 (((own.getD (i).toNat default).batch).ops), BxC b2 34 [.int .i64 0, .int .i64 0, .slice none 0 0, .int .u64 0], BxC b1 34 (cEEntry e v2_e), OwC NEEntry 34 v1_own own, SlC NEOp v2_e e.batch.ops] := H.addsl L2
  refine s_ob Z (v := .agg #[.int .i64 (((own.getD (i).toNat default).batch).client), .int .i64 (((own.getD (i).toNat default).batch).req), u2, .int .u64 ((own.getD (i).toNat default).ts)]) rfl rfl (by decide) rfl (Ob_loads tAd4 rfl rfl rfl (hat2.part 0 rfl)) ?_; clear Z a; intro a Z
  refine h_alloc Z H (cl := [.int .i64 0, .int .i64 0, .slice none 0 0, .int .u64 0]) (z := .agg #[.int .i64 0, .int .i64 0, .slice none 0 0, .int .u64 0]) rfl rfl rfl (by decide) rfl (by kernel_rfl) rfl ?_; clear Z a H; intro a w5 b3 H Z
  refine h_store tAd4 Z H 0 rfl rfl rfl rfl rfl rfl rfl rfl rfl (one_cons rfl (one_cons rfl (one_cons (slS.one (H.slshape 1 rfl)) (one_cons rfl one_nil)))) (Nat.le_of_ble_eq_true rfl) rfl ?_; clear H; intro w6 H
  dsimp only [List.eraseIdx] at H
  refine s_end Z [0, 5, 6, 7] rfl ?_; clear Z; intro Z
  refine p_then ?_
  refine f_cut (fun a' w' => ∃ (x_ts : Int), Sl 37 [(0, v1_own), (6, .pointer (some ⟨b2, 0, none⟩)), (7, .pointer (some ⟨b3, 0, none⟩))] a' ∧ (∃ I2, Hf I D w I2 w' [BxC b2 34 [.int .i64 0, .int .i64 0, .slice none 0 0, .int .u64 0], BxC b3 34 [.int .i64 (((own.getD (i).toNat default).batch).client), .int .i64 (((own.getD (i).toNat default).batch).req), u2, .int .u64 x_ts], SlC NEOp u2 (((own.getD (i).toNat default).batch).ops), OwC NEEntry 34 v1_own own]) ∧ F_ref18_One_own_k1 own i x_ts = some rr) ?_ ?_
  ·rintro a w7 ⟨x_ts, Z, ⟨I1, H⟩, hF⟩
   unfold F_ref18_One_own_k1 at hF
   try dsimp only at hF
   refine wp_seq (f_region Z ?_); clear Z; intro Z
   refine s_ob Z (v := .agg #[.int .i64 (((own.getD (i).toNat default).batch).client), .int .i64 (((own.getD (i).toNat default).batch).req), u2, .int .u64 x_ts]) rfl rfl (by decide) rfl (Ob_loads tAd4 rfl rfl rfl ((H.bx 1 rfl).part 0 rfl)) ?_; clear Z a; intro a Z
   refine h_store tAd4 Z H 0 rfl rfl rfl rfl rfl rfl rfl rfl rfl (one_cons rfl (one_cons rfl (one_cons (slS.one (H.slshape 2 rfl)) (one_cons rfl one_nil)))) (Nat.le_of_ble_eq_true rfl) rfl ?_; clear H; intro w8 H
   dsimp only [List.eraseIdx] at H
   refine s_end Z [0, 6] rfl ?_; clear Z; intro Z
   refine p_then (wp_ret ?_)
   obtain rfl := some_in hF
   exact f_ret Z (run_resultsC rfl Z rfl (run_loadVar_agg tAd4 rfl (H.bx 0 rfl).at)) ⟨u2, rfl, I1, (H.sub [(3, false), (2, true)] rfl).eq rfl⟩
  ·skip
   refine wp_seq (f_region Z ?_); clear Z; intro Z
   refine s_runk tAd4 Z 1 rfl rfl ?_; clear Z a; intro a Z
   refine s_ob Z (v := .int .u64 e.ts) rfl rfl (by decide) rfl (Ob_load tAd4 rfl rfl rfl ((H.bx 4 rfl).cell 3 rfl)) ?_; clear Z a; intro a Z
   refine s_runk tAd4 Z 1 rfl rfl ?_; clear Z a; intro a Z
   refine s_end Z [0, 5, 6, 7, 32] rfl ?_; clear Z; intro Z
   refine p_then ?_
   refine f_cond Z rfl (fun hc2 => ?_) (fun hc2 => ?_)
   ·replace hF := ite_t hc2 hF
    refine f_region Z ?_; clear Z; intro Z
    refine s_runk tAd4 Z 1 rfl rfl ?_; clear Z a; intro a Z
    refine s_ob Z (v := .int .u64 e.ts) rfl rfl (by decide) rfl (Ob_load tAd4 rfl rfl rfl ((H.bx 4 rfl).cell 3 rfl)) ?_; clear Z a; intro a Z
    refine s_runk tAd4 Z 1 rfl rfl ?_; clear Z a; intro a Z
    refine h_store tAd4 Z H 0 rfl rfl rfl rfl rfl rfl rfl rfl rfl (one_cons rfl one_nil) (Nat.le_of_ble_eq_true rfl) rfl ?_; clear H; intro w9 H
    dsimp only [List.eraseIdx] at H
    refine s_end Z [0, 6, 7] rfl ?_; clear Z; intro Z
    refine p_then ?_
    exact ⟨e.ts, Z.sub (ts := [0, 6, 7]) rfl, ⟨I, (H.sub [(3, false), (0, false), (0, true), (3, false)] rfl).eq rfl⟩, hF⟩
   ·replace hF := ite_f hc2 hF
    refine wp_skip ?_
    refine p_then ?_
    exact ⟨(own.getD (i).toNat default).ts, Z.sub (ts := [0, 6, 7]) rfl, ⟨I, (H.sub [(3, false), (0, false), (0, true), (3, false)] rfl).eq rfl⟩, hF⟩

def F_ref08_Right_l2 (l : List EEntry) (i : Int) (rc : Int → Option Int) (rc_2 : Int → Option Int) (sg : Int) : Option Int := match sg with | k => if (decide (k < i)) = true then (chk ((0 : Int) ≤ k ∧ k < (l.length : Int)) (chk ((0 : Int) ≤ i ∧ i < (l.length : Int)) ((F_ref08_Twins ({ (l.getD (k).toNat default) with batch := ({ client := ((l.getD (k).toNat default).batch).client, req := ((l.getD (k).toNat default).batch).req, ops := ((l.getD (k).toNat default).batch).ops } : EBatch) } : EEntry) ({ (l.getD (i).toNat default) with batch := ({ client := ((l.getD (i).toNat default).batch).client, req := ((l.getD (i).toNat default).batch).req, ops := ((l.getD (i).toNat default).batch).ops } : EBatch) } : EEntry)).bind fun t => (if (t) = true then (some 18) else (chk (inI (k + 1)) (rc_2 (k + 1))))))) else (chk ((decide (i > 0)) = true → (0 : Int) ≤ i ∧ i < (l.length : Int)) (chk (((decide (i > 0)) && (((l.getD (i).toNat default).ts) != 0)) = true → inI (i - 1)) (chk (((decide (i > 0)) && (((l.getD (i).toNat default).ts) != 0)) = true → (0 : Int) ≤ i - 1 ∧ i - 1 < (l.length : Int)) (chk ((((decide (i > 0)) && (((l.getD (i).toNat default).ts) != 0)) && (!(((l.getD (i - 1).toNat default).ts) == 0))) = true → inI (i - 1)) (chk ((((decide (i > 0)) && (((l.getD (i).toNat default).ts) != 0)) && (!(((l.getD (i - 1).toNat default).ts) == 0))) = true → (0 : Int) ≤ i - 1 ∧ i - 1 < (l.length : Int)) (chk ((((decide (i > 0)) && (((l.getD (i).toNat default).ts) != 0)) && (!(((l.getD (i - 1).toNat default).ts) == 0))) = true → (0 : Int) ≤ i ∧ i < (l.length : Int)) (if (((decide (i > 0)) && (((l.getD (i).toNat default).ts) != 0)) && ((((l.getD (i - 1).toNat default).ts) == 0) || (decide ((l.getD (i - 1).toNat default).ts ≥ (l.getD (i).toNat default).ts)))) = true then (some 18) else (chk (inI (i + 1)) (rc (i + 1))))))))))

def F_ref08_Right_l1 (l : List EEntry) (rc : Int → Option Int) (sg : Int) : Option Int := match sg with | i => if (decide (i < (l.length : Int))) = true then (chk ((0 : Int) ≤ i ∧ i < (l.length : Int)) ((F_ref08_Check ({ (l.getD (i).toNat default) with batch := ({ client := ((l.getD (i).toNat default).batch).client, req := ((l.getD (i).toNat default).batch).req, ops := ((l.getD (i).toNat default).batch).ops } : EBatch) } : EEntry)).bind fun c => (if (c != 0) = true then (some c) else (iter (F_ref08_Right_l2 l i rc) FU 0)))) else (some 0)

def F_ref08_Right (l : List EEntry) : Option Int := iter (F_ref08_Right_l1 l) FU 0

set_option maxHeartbeats 1000000 in
theorem c_ref08_Right {I D : Dm} {l : List EEntry} {v1_l : Value} {w : World} {rr : Int} (hF : F_ref08_Right l = some rr) (H : St I D w [SlC NEEntry v1_l l]) :
  Calls Try.prog 17 #[v1_l] w (Ret fun vv w' => vv = .int .i64 rr ∧ ∃ I', Hf I D w I' w' []) := by
 replace H := H.hf
 unfold F_ref08_Right at hF
 refine f_enter 67 Try.func17 rfl rfl (Nat.le_of_ble_eq_true rfl) fun a Z => ?_
 replace Z := Z.sub (ts := [0]) rfl
 refine wp_seq (f_region Z ?_); clear Z; intro Z
 refine s_runk tAd4 Z 1 rfl rfl ?_; clear Z a; intro a Z
 refine s_end Z [0, 2] rfl ?_; clear Z; intro Z
 refine p_then (wp_seq ?_)
 refine wp_seq (f_region Z ?_); clear Z; intro Z
 refine s_runk tAd4 Z 1 rfl rfl ?_; clear Z a; intro a Z
 refine s_end Z [0, 2, 3] rfl ?_; clear Z; intro Z
 refine p_then (wp_block ?_)
 refine f_iter hF (fun sg a' w' => match sg with | i => Sl 67 [(0, v1_l), (2, .int .i64 0), (3, .int .i64 i)] a' ∧ ∃ I2, Hf I D w I2 w' [SlC NEEntry v1_l l]) ⟨Z.sub (ts := [0, 2, 3]) rfl, ⟨I, (H.sub [(0, true)] rfl).eq rfl⟩⟩ ?_
 clear Z H hF a
 rintro rc i a w1 ⟨Z, I1, H⟩ hF
 unfold F_ref08_Right_l1 at hF
 try dsimp only at hF
 refine wp_seq ?_
 refine wp_seq (f_region Z ?_); clear Z; intro Z
 refine s_runk tAd4 Z 2 rfl rfl ?_; clear Z a; intro a Z
 refine s_ob Z (v := .int .i64 (l.length : Int)) rfl rfl (by decide) rfl (Ob_slen tAd4 rfl rfl rfl (H.slshape 0 rfl)) ?_; clear Z a; intro a Z
 refine s_runk tAd4 Z 1 rfl rfl ?_; clear Z a; intro a Z
 refine s_end Z [0, 2, 3, 6, 7, 8, 9] rfl ?_; clear Z; intro Z
 refine p_then ?_
 refine f_cond Z rfl (fun hc1 => ?_) (fun hc1 => ?_)
 ·replace hF := ite_t hc1 hF
  refine wp_skip ?_
  refine p_then (wp_seq ?_)
  refine wp_block ?_
  refine wp_seq ?_
  refine wp_seq ?_
  obtain ⟨hg1, hF⟩ := chk_in hF
  obtain ⟨c, hx1, hF⟩ := bnd_in hF
  refine f_region Z ?_; clear Z; intro Z
  refine s_runk tAd4 Z 2 rfl rfl ?_; clear Z a; intro a Z
  refine s_ob Z (v := .pointer (some ⟨blkOf v1_l, oofOf v1_l + (i).toNat * 4, none⟩)) rfl rfl (by decide) rfl (Ob_sidx tAd4 rfl rfl rfl rfl (slPl (H.sl 0 rfl) hg1) hg1) ?_; clear Z a; intro a Z
  obtain ⟨_, ⟨u1, rfl, L1⟩, H⟩ := H.elG 0 rfl (i) (NEEntry.dft _ _)
  replace H := H.addsl L1
  replace H : Hf I D w I1 w1 [SlC NEOp u1 (((l.getD (i).toNat default).batch).ops), AtG ((0 : Int) ≤ i ∧ i < (l.length : Int)) (blkOf v1_l) (oofOf v1_l + (i).toNat * 4) [.int .i64 (((l.getD (i).toNat default).batch).client), .int .i64 (((l.getD (i).toNat default).batch).req), u1, .int .u64 ((l.getD (i).toNat default).ts)], SlC NEEntry v1_l l] := H
  refine s_ob Z (v := .agg #[.int .i64 (((l.getD (i).toNat default).batch).client), .int .i64 (((l.getD (i).toNat default).batch).req), u1, .int .u64 ((l.getD (i).toNat default).ts)]) rfl rfl (by decide) rfl (Ob_loads tAd4 rfl rfl rfl ((H.atg 1 rfl hg1).part 0 rfl)) ?_; clear Z a; intro a Z
  refine h_call Z H (js := [(0, true)]) rfl (caps := #[]) fn_28_YAd4 rfl rfl rfl rfl rfl (by decide) rfl rfl (fun D1 hS => have hq := c_ref08_Check hx1 hS; hq) ?_; clear Z a; intro vv a w2 D2 hr hF2 Z
  obtain ⟨rfl, I2, K⟩ := hr
  have H : Hf I D w I2 w2 [SlC NEOp u1 (((l.getD (i).toNat default).batch).ops), AtG ((0 : Int) ≤ i ∧ i < (l.length : Int)) (blkOf v1_l) (oofOf v1_l + (i).toNat * 4) [.int .i64 (((l.getD (i).toNat default).batch).client), .int .i64 (((l.getD (i).toNat default).batch).req), u1, .int .u64 ((l.getD (i).toNat default).ts)], SlC NEEntry v1_l l] := hF2 K
  clear hF2 K
  refine s_runk tAd4 Z 1 rfl rfl ?_; clear Z a; intro a Z
  refine s_end Z [0, 2, 3, 6, 7, 8, 9, 12, 13, 14, 15, 16, 4] rfl ?_; clear Z; intro Z
  refine p_then (wp_seq (f_region Z ?_)); clear Z; intro Z
  refine s_runk tAd4 Z 2 rfl rfl ?_; clear Z a; intro a Z
  refine s_end Z [0, 2, 3, 6, 7, 8, 9, 12, 13, 14, 15, 16, 4, 17, 18] rfl ?_; clear Z; intro Z
  refine p_then ?_
  refine f_cond Z rfl (fun hc2 => ?_) (fun hc2 => ?_)
  ·replace hF := ite_t hc2 hF
   refine wp_seq (f_region Z ?_); clear Z; intro Z
   refine s_runk tAd4 Z 2 rfl rfl ?_; clear Z a; intro a Z
   refine s_end Z [0, 2, 3, 6, 7, 8, 9, 12, 13, 14, 15, 16, 4, 17, 18, 19] rfl ?_; clear Z; intro Z
   refine p_then (wp_ret ?_)
   refine p_then_r ?_
   refine p_blk_r ?_
   refine p_then_r ?_
   refine p_then_r ?_
   refine p_blk_r ?_
   refine p_then_r ?_
   obtain rfl := some_in hF
   exact f_ret Z (run_results1 rfl Z rfl) ⟨rfl, I2, (H.sub [] rfl).eq rfl⟩
  ·replace hF := ite_f hc2 hF
   refine wp_skip ?_
   refine p_then (wp_seq ?_)
   refine wp_seq (f_region Z ?_); clear Z; intro Z
   refine s_runk tAd4 Z 1 rfl rfl ?_; clear Z a; intro a Z
   refine s_end Z [0, 2, 3, 6, 7, 8, 9, 12, 13, 14, 15, 16, 4, 17, 18, 5] rfl ?_; clear Z; intro Z
   refine p_then (wp_block ?_)
   refine f_iter hF (fun sg a' w' => match sg with | k => Sl 67 [(0, v1_l), (2, .int .i64 0), (3, .int .i64 i), (4, .int .i64 c), (5, .int .i64 k), (6, .int .i64 i), (7, v1_l), (8, .int .i64 (l.length : Int)), (9, .bool (decide (i < (l.length : Int)))), (12, v1_l), (13, .int .i64 i), (14, .pointer (some ⟨blkOf v1_l, oofOf v1_l + (i).toNat * 4, none⟩)), (15, .agg #[.int .i64 (((l.getD (i).toNat default).batch).client), .int .i64 (((l.getD (i).toNat default).batch).req), u1, .int .u64 ((l.getD (i).toNat default).ts)]), (16, .int .i64 c), (17, .int .i64 c), (18, .bool (c != 0))] a' ∧ ∃ I2, Hf I D w I2 w' [SlC NEOp u1 (((l.getD (i).toNat default).batch).ops), SlC NEEntry v1_l l]) ⟨Z.sub (ts := [0, 2, 3, 4, 5, 6, 7, 8, 9, 12, 13, 14, 15, 16, 17, 18]) rfl, ⟨I2, (H.sub [(0, true), (2, true)] rfl).eq rfl⟩⟩ ?_
   clear Z H hF a
   rintro rc_2 k a w3 ⟨Z, I3, H⟩ hF
   unfold F_ref08_Right_l2 at hF
   try dsimp only at hF
   refine wp_seq ?_
   refine wp_seq (f_region Z ?_); clear Z; intro Z
   refine s_runk tAd4 Z 3 rfl rfl ?_; clear Z a; intro a Z
   refine s_end Z [0, 2, 3, 4, 5, 6, 7, 8, 9, 12, 13, 14, 15, 16, 17, 18, 20, 21, 22] rfl ?_; clear Z; intro Z
   refine p_then ?_
   refine f_cond Z rfl (fun hc3 => ?_) (fun hc3 => ?_)
   ·replace hF := ite_t hc3 hF
    refine wp_skip ?_
    refine p_then (wp_seq ?_)
    refine wp_block ?_
    refine wp_seq ?_
    obtain ⟨hg2, hF⟩ := chk_in hF
    obtain ⟨_, ⟨u2, rfl, L2⟩, H⟩ := H.elG 1 rfl (k) (NEEntry.dft _ _)
    replace H := H.addsl L2
    replace H : Hf I D w I3 w3 [SlC NEOp u2 (((l.getD (k).toNat default).batch).ops), AtG ((0 : Int) ≤ k ∧ k < (l.length : Int)) (blkOf v1_l) (oofOf v1_l + (k).toNat * 4) [.int .i64 (((l.getD (k).toNat default).batch).client), .int .i64 (((l.getD (k).toNat default).batch).req), u2, .int .u64 ((l.getD (k).toNat default).ts)], SlC NEOp u1 (((l.getD (i).toNat default).batch).ops), SlC NEEntry v1_l l] := H
    obtain ⟨hg3, hF⟩ := chk_in hF
    obtain ⟨_, ⟨u3, rfl, L3⟩, H⟩ := H.elG 3 rfl (i) (NEEntry.dft _ _)
    replace H := H.addsl L3
    replace H : Hf I D w I3 w3 [SlC NEOp u3 (((l.getD (i).toNat default).batch).ops), AtG ((0 : Int) ≤ i ∧ i < (l.length : Int)) (blkOf v1_l) (oofOf v1_l + (i).toNat * 4) [.int .i64 (((l.getD (i).toNat default).batch).client), .int .i64 (((l.getD (i).toNat default).batch).req), u3, .int .u64 ((l.getD (i).toNat default).ts)], SlC NEOp u2 (((l.getD (k).toNat default).batch).ops), AtG ((0 : Int) ≤ k ∧ k < (l.length : Int)) (blkOf v1_l) (oofOf v1_l + (k).toNat * 4) [.int .i64 (((l.getD (k).toNat default).batch).client), .int .i64 (((l.getD (k).toNat default).batch).req), u2, .int .u64 ((l.getD (k).toNat default).ts)], SlC NEOp u1 (((l.getD (i).toNat default).batch).ops), SlC NEEntry v1_l l] := H
    obtain ⟨t, hx2, hF⟩ := bnd_in hF
    refine f_quietd (by kernel_rfl) (by kernel_rfl) Z ?_; clear Z; intro Z
    refine q_runk tAd4 Z 2 rfl rfl ?_; clear Z a; intro a Z
    refine q_ob Z (v := .pointer (some ⟨blkOf v1_l, oofOf v1_l + (k).toNat * 4, none⟩)) rfl rfl (by decide) rfl (fun _ hw => Ob_sidx tAd4 rfl rfl rfl rfl (slPl ((H.blw hw).sl 5 rfl) hg2) hg2) ?_; clear Z a; intro a Z
    refine q_ob Z (v := .agg #[.int .i64 (((l.getD (k).toNat default).batch).client), .int .i64 (((l.getD (k).toNat default).batch).req), u2, .int .u64 ((l.getD (k).toNat default).ts)]) rfl rfl (by decide) rfl (fun _ hw => Ob_loads tAd4 rfl rfl rfl (((H.blw hw).atg 3 rfl hg2).part 0 rfl)) ?_; clear Z a; intro a Z
    refine q_runk tAd4 Z 2 rfl rfl ?_; clear Z a; intro a Z
    refine q_ob Z (v := .pointer (some ⟨blkOf v1_l, oofOf v1_l + (i).toNat * 4, none⟩)) rfl rfl (by decide) rfl (fun _ hw => Ob_sidx tAd4 rfl rfl rfl rfl (slPl ((H.blw hw).sl 5 rfl) hg3) hg3) ?_; clear Z a; intro a Z
    refine q_ob Z (v := .agg #[.int .i64 (((l.getD (i).toNat default).batch).client), .int .i64 (((l.getD (i).toNat default).batch).req), u3, .int .u64 ((l.getD (i).toNat default).ts)]) rfl rfl (by decide) rfl (fun _ hw => Ob_loads tAd4 rfl rfl rfl (((H.blw hw).atg 1 rfl hg3).part 0 rfl)) ?_; clear Z a; intro a Z
    refine q_call Z (caps := #[]) fn_19_YAd4 rfl rfl rfl rfl rfl (by decide) rfl rfl (fun _ hw => (have hq := c_ref08_Twins hx2 (((H.blw hw)).pick0 (js := [(2, true), (0, true)]) rfl rfl); plainC hq)) ?_; clear Z a; intro a Z
    refine q_end Z [0, 2, 3, 4, 5, 6, 7, 8, 9, 12, 13, 14, 15, 16, 17, 18, 20, 21, 22, 25, 26, 27, 28, 29, 30, 31, 32, 33] rfl ?_; clear Z; intro w4 hb Z
    replace H : Hf I D w I3 w4 [SlC NEOp u3 (((l.getD (i).toNat default).batch).ops), AtG ((0 : Int) ≤ i ∧ i < (l.length : Int)) (blkOf v1_l) (oofOf v1_l + (i).toNat * 4) [.int .i64 (((l.getD (i).toNat default).batch).client), .int .i64 (((l.getD (i).toNat default).batch).req), u3, .int .u64 ((l.getD (i).toNat default).ts)], SlC NEOp u2 (((l.getD (k).toNat default).batch).ops), AtG ((0 : Int) ≤ k ∧ k < (l.length : Int)) (blkOf v1_l) (oofOf v1_l + (k).toNat * 4) [.int .i64 (((l.getD (k).toNat default).batch).client), .int .i64 (((l.getD (k).toNat default).batch).req), u2, .int .u64 ((l.getD (k).toNat default).ts)], SlC NEOp u1 (((l.getD (i).toNat default).batch).ops), SlC NEEntry v1_l l] := H.blw hb
    clear hb
    refine p_then ?_
    refine f_cond Z rfl (fun hc4 => ?_) (fun hc4 => ?_)
    ·replace hF := ite_t hc4 hF
     refine wp_seq (f_region Z ?_); clear Z; intro Z
     refine s_runk tAd4 Z 1 rfl rfl ?_; clear Z a; intro a Z
     refine s_end Z [0, 2, 3, 4, 5, 6, 7, 8, 9, 12, 13, 14, 15, 16, 17, 18, 20, 21, 22, 25, 26, 27, 28, 29, 30, 31, 32, 33] rfl ?_; clear Z; intro Z
     refine p_then (wp_ret ?_)
     refine p_blk_r ?_
     refine p_then_r ?_
     refine p_then_r ?_
     refine p_blk_r ?_
     refine p_then_r ?_
     refine p_blk_r ?_
     refine p_then_r ?_
     refine p_then_r ?_
     refine p_blk_r ?_
     refine p_then_r ?_
     obtain rfl := some_in hF
     exact f_ret Z (run_results1 rfl Z rfl) ⟨rfl, I3, (H.sub [] rfl).eq rfl⟩
    ·replace hF := ite_f hc4 hF
     refine wp_skip ?_
     refine p_blk ?_
     refine p_then ?_
     obtain ⟨hg4, hF⟩ := chk_in hF
     refine f_region Z ?_; clear Z; intro Z
     refine s_runk tAd4 Z 1 rfl rfl ?_; clear Z a; intro a Z
     refine s_ob Z (v := .int .i64 (k + 1)) rfl rfl (by decide) rfl (Ob_add rfl rfl rfl (wrI hg4)) ?_; clear Z a; intro a Z
     refine s_runk tAd4 Z 1 rfl rfl ?_; clear Z a; intro a Z
     refine s_end Z [0, 2, 3, 4, 5, 6, 7, 8, 9, 12, 13, 14, 15, 16, 17, 18, 20, 21, 22, 25, 26, 27, 28, 29, 30, 31, 32, 33, 23, 24] rfl ?_; clear Z; intro Z
     refine p_then ?_
     exact ⟨(k + 1), ⟨Z.sub (ts := [0, 2, 3, 4, 5, 6, 7, 8, 9, 12, 13, 14, 15, 16, 17, 18]) rfl, ⟨I3, (H.sub [(4, true), (5, true)] rfl).eq rfl⟩⟩, hF⟩
   ·replace hF := ite_f hc3 hF
    refine wp_exit ?_
    refine p_then_x ?_
    refine p_then_x ?_
    refine f_exit_here ?_
    refine p_then (wp_seq ?_)
    obtain ⟨hg5, hF⟩ := chk_in hF
    obtain ⟨_, ⟨u4, rfl, L4⟩, H⟩ := H.elG 1 rfl (i) (NEEntry.dft _ _)
    replace H := H.addsl L4
    replace H : Hf I D w I3 w3 [SlC NEOp u4 (((l.getD (i).toNat default).batch).ops), AtG ((0 : Int) ≤ i ∧ i < (l.length : Int)) (blkOf v1_l) (oofOf v1_l + (i).toNat * 4) [.int .i64 (((l.getD (i).toNat default).batch).client), .int .i64 (((l.getD (i).toNat default).batch).req), u4, .int .u64 ((l.getD (i).toNat default).ts)], SlC NEOp u1 (((l.getD (i).toNat default).batch).ops), SlC NEEntry v1_l l] := H
    obtain ⟨hg6, hF⟩ := chk_in hF
    obtain ⟨hg7, hF⟩ := chk_in hF
    obtain ⟨_, ⟨u5, rfl, L5⟩, H⟩ := H.elG 3 rfl (i - 1) (NEEntry.dft _ _)
    replace H := H.addsl L5
    replace H : Hf I D w I3 w3 [SlC NEOp u5 (((l.getD (i - 1).toNat default).batch).ops), AtG ((0 : Int) ≤ i - 1 ∧ i - 1 < (l.length : Int)) (blkOf v1_l) (oofOf v1_l + (i - 1).toNat * 4) [.int .i64 (((l.getD (i - 1).toNat default).batch).client), .int .i64 (((l.getD (i - 1).toNat default).batch).req), u5, .int .u64 ((l.getD (i - 1).toNat default).ts)], SlC NEOp u4 (((l.getD (i).toNat default).batch).ops), AtG ((0 : Int) ≤ i ∧ i < (l.length : Int)) (blkOf v1_l) (oofOf v1_l + (i).toNat * 4) [.int .i64 (((l.getD (i).toNat default).batch).client), .int .i64 (((l.getD (i).toNat default).batch).req), u4, .int .u64 ((l.getD (i).toNat default).ts)], SlC NEOp u1 (((l.getD (i).toNat default).batch).ops), SlC NEEntry v1_l l] := H
    obtain ⟨hg8, hF⟩ := chk_in hF
    obtain ⟨hg9, hF⟩ := chk_in hF
    obtain ⟨hg10, hF⟩ := chk_in hF
    refine f_quietd (by kernel_rfl) (by kernel_rfl) Z ?_; clear Z; intro Z
    refine q_runk tAd4 Z 3 rfl rfl ?_; clear Z a; intro a Z
    refine gq_ob Z (p := (decide (i > 0))) (v := v1_l) (S' := [(0, v1_l)]) rfl rfl rfl (wantB_t _) rfl (by decide) (fun hp hS => hS.sub (ts := [0]) rfl) (fun hp _ hw => Ob_c tAd4 rfl) ?_; clear Z a; intro a Z
    refine gq_ob Z (p := (decide (i > 0))) (v := .int .i64 i) (S' := [(3, .int .i64 i)]) rfl rfl rfl (wantB_t _) rfl (by decide) (fun hp hS => hS.sub (ts := [3]) rfl) (fun hp _ hw => Ob_c tAd4 rfl) ?_; clear Z a; intro a Z
    refine gq_ob Z (p := (decide (i > 0))) (v := .pointer (some ⟨blkOf v1_l, oofOf v1_l + (i).toNat * 4, none⟩)) (S' := [(37, v1_l), (38, .int .i64 i)]) rfl rfl rfl (wantB_t _) rfl (by decide) (fun hp hS => ((hS.conv (t := 37) rfl (cond_t hp)).conv (t := 38) rfl (cond_t hp)).sub (ts := [37, 38]) rfl) (fun hp _ hw => Ob_sidx tAd4 rfl rfl rfl rfl (slPl ((H.blw hw).sl 5 rfl) (hg5 hp)) (hg5 hp)) ?_; clear Z a; intro a Z
    refine gq_ob Z (p := (decide (i > 0))) (v := .pointer (some ⟨blkOf v1_l, oofOf v1_l + (i).toNat * 4 + 3, none⟩)) (S' := [(39, .pointer (some ⟨blkOf v1_l, oofOf v1_l + (i).toNat * 4, none⟩))]) rfl rfl rfl (wantB_t _) rfl (by decide) (fun hp hS => (hS.conv (t := 39) rfl (cond_t hp)).sub (ts := [39]) rfl) (fun hp _ hw => Ob_c tAd4 rfl) ?_; clear Z a; intro a Z
    refine gq_ob Z (p := (decide (i > 0))) (v := .int .u64 ((l.getD (i).toNat default).ts)) (S' := [(40, .pointer (some ⟨blkOf v1_l, oofOf v1_l + (i).toNat * 4 + 3, none⟩))]) rfl rfl rfl (wantB_t _) rfl (by decide) (fun hp hS => (hS.conv (t := 40) rfl (cond_t hp)).sub (ts := [40]) rfl) (fun hp _ hw => Ob_load tAd4 rfl rfl rfl (((H.blw hw).atg 3 rfl (hg5 hp)) 3 _ rfl)) ?_; clear Z a; intro a Z
    refine gq_ob Z (p := (decide (i > 0))) (v := .bool (((l.getD (i).toNat default).ts) != 0)) (S' := [(41, .int .u64 ((l.getD (i).toNat default).ts))]) rfl rfl rfl (wantB_t _) rfl (by decide) (fun hp hS => (hS.conv (t := 41) rfl (cond_t hp)).sub (ts := [41]) rfl) (fun hp _ hw => Ob_c tAd4 rfl) ?_; clear Z a; intro a Z
    refine q_ob Z (v := .bool ((decide (i > 0)) && (((l.getD (i).toNat default).ts) != 0))) rfl rfl (by decide) rfl (fun _ hw => Ob_pick rfl rfl rfl rfl (pick_and _ _)) ?_; clear Z a; intro a Z
    refine q_runk tAd4 Z 1 rfl rfl ?_; clear Z a; intro a Z
    refine gq_ob Z (p := ((decide (i > 0)) && (((l.getD (i).toNat default).ts) != 0))) (v := v1_l) (S' := [(0, v1_l)]) rfl rfl rfl (wantB_t _) rfl (by decide) (fun hp hS => hS.sub (ts := [0]) rfl) (fun hp _ hw => Ob_c tAd4 rfl) ?_; clear Z a; intro a Z
    refine gq_ob Z (p := ((decide (i > 0)) && (((l.getD (i).toNat default).ts) != 0))) (v := .int .i64 i) (S' := [(3, .int .i64 i)]) rfl rfl rfl (wantB_t _) rfl (by decide) (fun hp hS => hS.sub (ts := [3]) rfl) (fun hp _ hw => Ob_c tAd4 rfl) ?_; clear Z a; intro a Z
    refine gq_ob Z (p := ((decide (i > 0)) && (((l.getD (i).toNat default).ts) != 0))) (v := .int .i64 (i - 1)) (S' := [(46, .int .i64 i)]) rfl rfl rfl (wantB_t _) rfl (by decide) (fun hp hS => (hS.conv (t := 46) rfl (cond_t hp)).sub (ts := [46]) rfl) (fun hp _ hw => Ob_sub rfl rfl rfl (wrI (hg6 hp))) ?_; clear Z a; intro a Z
    refine gq_ob Z (p := ((decide (i > 0)) && (((l.getD (i).toNat default).ts) != 0))) (v := .pointer (some ⟨blkOf v1_l, oofOf v1_l + (i - 1).toNat * 4, none⟩)) (S' := [(45, v1_l), (47, .int .i64 (i - 1))]) rfl rfl rfl (wantB_t _) rfl (by decide) (fun hp hS => ((hS.conv (t := 45) rfl (cond_t hp)).conv (t := 47) rfl (cond_t hp)).sub (ts := [45, 47]) rfl) (fun hp _ hw => Ob_sidx tAd4 rfl rfl rfl rfl (slPl ((H.blw hw).sl 5 rfl) (hg7 hp)) (hg7 hp)) ?_; clear Z a; intro a Z
    refine gq_ob Z (p := ((decide (i > 0)) && (((l.getD (i).toNat default).ts) != 0))) (v := .pointer (some ⟨blkOf v1_l, oofOf v1_l + (i - 1).toNat * 4 + 3, none⟩)) (S' := [(48, .pointer (some ⟨blkOf v1_l, oofOf v1_l + (i - 1).toNat * 4, none⟩))]) rfl rfl rfl (wantB_t _) rfl (by decide) (fun hp hS => (hS.conv (t := 48) rfl (cond_t hp)).sub (ts := [48]) rfl) (fun hp _ hw => Ob_c tAd4 rfl) ?_; clear Z a; intro a Z
    refine gq_ob Z (p := ((decide (i > 0)) && (((l.getD (i).toNat default).ts) != 0))) (v := .int .u64 ((l.getD (i - 1).toNat default).ts)) (S' := [(49, .pointer (some ⟨blkOf v1_l, oofOf v1_l + (i - 1).toNat * 4 + 3, none⟩))]) rfl rfl rfl (wantB_t _) rfl (by decide) (fun hp hS => (hS.conv (t := 49) rfl (cond_t hp)).sub (ts := [49]) rfl) (fun hp _ hw => Ob_load tAd4 rfl rfl rfl (((H.blw hw).atg 1 rfl (hg7 hp)) 3 _ rfl)) ?_; clear Z a; intro a Z
    refine gq_ob Z (p := ((decide (i > 0)) && (((l.getD (i).toNat default).ts) != 0))) (v := .bool (((l.getD (i - 1).toNat default).ts) == 0)) (S' := [(50, .int .u64 ((l.getD (i - 1).toNat default).ts))]) rfl rfl rfl (wantB_t _) rfl (by decide) (fun hp hS => (hS.conv (t := 50) rfl (cond_t hp)).sub (ts := [50]) rfl) (fun hp _ hw => Ob_c tAd4 rfl) ?_; clear Z a; intro a Z
    refine gq_ob Z (p := ((decide (i > 0)) && (((l.getD (i).toNat default).ts) != 0))) (v := .bool (((l.getD (i - 1).toNat default).ts) == 0)) (S' := [(51, .bool (((l.getD (i - 1).toNat default).ts) == 0))]) rfl rfl rfl (wantB_t _) rfl (by decide) (fun hp hS => (hS.conv (t := 51) rfl (cond_t hp)).sub (ts := [51]) rfl) (fun hp _ hw => Ob_c tAd4 rfl) ?_; clear Z a; intro a Z
    refine gq_ob Z (p := (((decide (i > 0)) && (((l.getD (i).toNat default).ts) != 0)) && (!(((l.getD (i - 1).toNat default).ts) == 0)))) (v := v1_l) (S' := [(0, v1_l)]) rfl rfl rfl (wantB_cf _ _) rfl (by decide) (fun hp hS => hS.sub (ts := [0]) rfl) (fun hp _ hw => Ob_c tAd4 rfl) ?_; clear Z a; intro a Z
    refine gq_ob Z (p := (((decide (i > 0)) && (((l.getD (i).toNat default).ts) != 0)) && (!(((l.getD (i - 1).toNat default).ts) == 0)))) (v := .int .i64 i) (S' := [(3, .int .i64 i)]) rfl rfl rfl (wantB_cf _ _) rfl (by decide) (fun hp hS => hS.sub (ts := [3]) rfl) (fun hp _ hw => Ob_c tAd4 rfl) ?_; clear Z a; intro a Z
    refine gq_ob Z (p := (((decide (i > 0)) && (((l.getD (i).toNat default).ts) != 0)) && (!(((l.getD (i - 1).toNat default).ts) == 0)))) (v := .int .i64 (i - 1)) (S' := [(54, .int .i64 i)]) rfl rfl rfl (wantB_cf _ _) rfl (by decide) (fun hp hS => (hS.conv (t := 54) rfl (cond_t hp)).sub (ts := [54]) rfl) (fun hp _ hw => Ob_sub rfl rfl rfl (wrI (hg8 hp))) ?_; clear Z a; intro a Z
    refine gq_ob Z (p := (((decide (i > 0)) && (((l.getD (i).toNat default).ts) != 0)) && (!(((l.getD (i - 1).toNat default).ts) == 0)))) (v := .pointer (some ⟨blkOf v1_l, oofOf v1_l + (i - 1).toNat * 4, none⟩)) (S' := [(53, v1_l), (55, .int .i64 (i - 1))]) rfl rfl rfl (wantB_cf _ _) rfl (by decide) (fun hp hS => ((hS.conv (t := 53) rfl (cond_t hp)).conv (t := 55) rfl (cond_t hp)).sub (ts := [53, 55]) rfl) (fun hp _ hw => Ob_sidx tAd4 rfl rfl rfl rfl (slPl ((H.blw hw).sl 5 rfl) (hg9 hp)) (hg9 hp)) ?_; clear Z a; intro a Z
    refine gq_ob Z (p := (((decide (i > 0)) && (((l.getD (i).toNat default).ts) != 0)) && (!(((l.getD (i - 1).toNat default).ts) == 0)))) (v := .pointer (some ⟨blkOf v1_l, oofOf v1_l + (i - 1).toNat * 4 + 3, none⟩)) (S' := [(56, .pointer (some ⟨blkOf v1_l, oofOf v1_l + (i - 1).toNat * 4, none⟩))]) rfl rfl rfl (wantB_cf _ _) rfl (by decide) (fun hp hS => (hS.conv (t := 56) rfl (cond_t hp)).sub (ts := [56]) rfl) (fun hp _ hw => Ob_c tAd4 rfl) ?_; clear Z a; intro a Z
    refine gq_ob Z (p := (((decide (i > 0)) && (((l.getD (i).toNat default).ts) != 0)) && (!(((l.getD (i - 1).toNat default).ts) == 0)))) (v := .int .u64 ((l.getD (i - 1).toNat default).ts)) (S' := [(57, .pointer (some ⟨blkOf v1_l, oofOf v1_l + (i - 1).toNat * 4 + 3, none⟩))]) rfl rfl rfl (wantB_cf _ _) rfl (by decide) (fun hp hS => (hS.conv (t := 57) rfl (cond_t hp)).sub (ts := [57]) rfl) (fun hp _ hw => Ob_load tAd4 rfl rfl rfl (((H.blw hw).atg 1 rfl (hg9 hp)) 3 _ rfl)) ?_; clear Z a; intro a Z
    refine gq_ob Z (p := (((decide (i > 0)) && (((l.getD (i).toNat default).ts) != 0)) && (!(((l.getD (i - 1).toNat default).ts) == 0)))) (v := v1_l) (S' := [(0, v1_l)]) rfl rfl rfl (wantB_cf _ _) rfl (by decide) (fun hp hS => hS.sub (ts := [0]) rfl) (fun hp _ hw => Ob_c tAd4 rfl) ?_; clear Z a; intro a Z
    refine gq_ob Z (p := (((decide (i > 0)) && (((l.getD (i).toNat default).ts) != 0)) && (!(((l.getD (i - 1).toNat default).ts) == 0)))) (v := .int .i64 i) (S' := [(3, .int .i64 i)]) rfl rfl rfl (wantB_cf _ _) rfl (by decide) (fun hp hS => hS.sub (ts := [3]) rfl) (fun hp _ hw => Ob_c tAd4 rfl) ?_; clear Z a; intro a Z
    refine gq_ob Z (p := (((decide (i > 0)) && (((l.getD (i).toNat default).ts) != 0)) && (!(((l.getD (i - 1).toNat default).ts) == 0)))) (v := .pointer (some ⟨blkOf v1_l, oofOf v1_l + (i).toNat * 4, none⟩)) (S' := [(59, v1_l), (60, .int .i64 i)]) rfl rfl rfl (wantB_cf _ _) rfl (by decide) (fun hp hS => ((hS.conv (t := 59) rfl (cond_t hp)).conv (t := 60) rfl (cond_t hp)).sub (ts := [59, 60]) rfl) (fun hp _ hw => Ob_sidx tAd4 rfl rfl rfl rfl (slPl ((H.blw hw).sl 5 rfl) (hg10 hp)) (hg10 hp)) ?_; clear Z a; intro a Z
    refine gq_ob Z (p := (((decide (i > 0)) && (((l.getD (i).toNat default).ts) != 0)) && (!(((l.getD (i - 1).toNat default).ts) == 0)))) (v := .pointer (some ⟨blkOf v1_l, oofOf v1_l + (i).toNat * 4 + 3, none⟩)) (S' := [(61, .pointer (some ⟨blkOf v1_l, oofOf v1_l + (i).toNat * 4, none⟩))]) rfl rfl rfl (wantB_cf _ _) rfl (by decide) (fun hp hS => (hS.conv (t := 61) rfl (cond_t hp)).sub (ts := [61]) rfl) (fun hp _ hw => Ob_c tAd4 rfl) ?_; clear Z a; intro a Z
    refine gq_ob Z (p := (((decide (i > 0)) && (((l.getD (i).toNat default).ts) != 0)) && (!(((l.getD (i - 1).toNat default).ts) == 0)))) (v := .int .u64 ((l.getD (i).toNat default).ts)) (S' := [(62, .pointer (some ⟨blkOf v1_l, oofOf v1_l + (i).toNat * 4 + 3, none⟩))]) rfl rfl rfl (wantB_cf _ _) rfl (by decide) (fun hp hS => (hS.conv (t := 62) rfl (cond_t hp)).sub (ts := [62]) rfl) (fun hp _ hw => Ob_load tAd4 rfl rfl rfl (((H.blw hw).atg 3 rfl (hg10 hp)) 3 _ rfl)) ?_; clear Z a; intro a Z
    refine gq_ob Z (p := (((decide (i > 0)) && (((l.getD (i).toNat default).ts) != 0)) && (!(((l.getD (i - 1).toNat default).ts) == 0)))) (v := .bool (decide ((l.getD (i - 1).toNat default).ts ≥ (l.getD (i).toNat default).ts))) (S' := [(58, .int .u64 ((l.getD (i - 1).toNat default).ts)), (63, .int .u64 ((l.getD (i).toNat default).ts))]) rfl rfl rfl (wantB_cf _ _) rfl (by decide) (fun hp hS => ((hS.conv (t := 58) rfl (cond_t hp)).conv (t := 63) rfl (cond_t hp)).sub (ts := [58, 63]) rfl) (fun hp _ hw => Ob_c tAd4 rfl) ?_; clear Z a; intro a Z
    refine gq_ob Z (p := ((decide (i > 0)) && (((l.getD (i).toNat default).ts) != 0))) (v := .bool ((((l.getD (i - 1).toNat default).ts) == 0) || (decide ((l.getD (i - 1).toNat default).ts ≥ (l.getD (i).toNat default).ts)))) (S' := [(52, .bool (((l.getD (i - 1).toNat default).ts) == 0)), (64, cond (((decide (i > 0)) && (((l.getD (i).toNat default).ts) != 0)) && (!(((l.getD (i - 1).toNat default).ts) == 0))) (.bool (decide ((l.getD (i - 1).toNat default).ts ≥ (l.getD (i).toNat default).ts))) undef)]) rfl rfl rfl (wantB_t _) rfl (by decide) (fun hp hS => (hS.conv (t := 52) rfl (cond_t hp)).sub (ts := [52, 64]) rfl) (fun hp _ hw => Ob_pick rfl rfl rfl rfl (pick_orp _ _ hp)) ?_; clear Z a; intro a Z
    refine q_ob Z (v := .bool (((decide (i > 0)) && (((l.getD (i).toNat default).ts) != 0)) && ((((l.getD (i - 1).toNat default).ts) == 0) || (decide ((l.getD (i - 1).toNat default).ts ≥ (l.getD (i).toNat default).ts))))) rfl rfl (by decide) rfl (fun _ hw => Ob_pick rfl rfl rfl rfl (pick_and _ _)) ?_; clear Z a; intro a Z
    refine q_end Z [0, 2, 3, 4, 5, 6, 7, 8, 9, 12, 13, 14, 15, 16, 17, 18, 20, 21, 22, 34, 35, 36, 43, 44, 66] rfl ?_; clear Z; intro w5 hb Z
    replace H : Hf I D w I3 w5 [SlC NEOp u5 (((l.getD (i - 1).toNat default).batch).ops), AtG ((0 : Int) ≤ i - 1 ∧ i - 1 < (l.length : Int)) (blkOf v1_l) (oofOf v1_l + (i - 1).toNat * 4) [.int .i64 (((l.getD (i - 1).toNat default).batch).client), .int .i64 (((l.getD (i - 1).toNat default).batch).req), u5, .int .u64 ((l.getD (i - 1).toNat default).ts)], SlC NEOp u4 (((l.getD (i).toNat default).batch).ops), AtG ((0 : Int) ≤ i ∧ i < (l.length : Int)) (blkOf v1_l) (oofOf v1_l + (i).toNat * 4) [.int .i64 (((l.getD (i).toNat default).batch).client), .int .i64 (((l.getD (i).toNat default).batch).req), u4, .int .u64 ((l.getD (i).toNat default).ts)], SlC NEOp u1 (((l.getD (i).toNat default).batch).ops), SlC NEEntry v1_l l] := H.blw hb
    clear hb
    refine p_then ?_
    refine f_cond Z rfl (fun hc5 => ?_) (fun hc5 => ?_)
    ·replace hF := ite_t hc5 hF
     refine wp_seq (f_region Z ?_); clear Z; intro Z
     refine s_runk tAd4 Z 1 rfl rfl ?_; clear Z a; intro a Z
     refine s_end Z [0, 2, 3, 4, 5, 6, 7, 8, 9, 12, 13, 14, 15, 16, 17, 18, 20, 21, 22, 34, 35, 36, 43, 44, 66] rfl ?_; clear Z; intro Z
     refine p_then (wp_ret ?_)
     refine p_blk_r ?_
     refine p_then_r ?_
     refine p_then_r ?_
     refine p_blk_r ?_
     refine p_then_r ?_
     obtain rfl := some_in hF
     exact f_ret Z (run_results1 rfl Z rfl) ⟨rfl, I3, (H.sub [] rfl).eq rfl⟩
    ·replace hF := ite_f hc5 hF
     refine wp_skip ?_
     refine p_blk ?_
     refine p_then ?_
     obtain ⟨hg11, hF⟩ := chk_in hF
     refine f_region Z ?_; clear Z; intro Z
     refine s_runk tAd4 Z 1 rfl rfl ?_; clear Z a; intro a Z
     refine s_ob Z (v := .int .i64 (i + 1)) rfl rfl (by decide) rfl (Ob_add rfl rfl rfl (wrI hg11)) ?_; clear Z a; intro a Z
     refine s_runk tAd4 Z 1 rfl rfl ?_; clear Z a; intro a Z
     refine s_end Z [0, 2, 3, 4, 5, 6, 7, 8, 9, 12, 13, 14, 15, 16, 17, 18, 20, 21, 22, 34, 35, 36, 43, 44, 66, 10, 11] rfl ?_; clear Z; intro Z
     refine p_then ?_
     exact ⟨(i + 1), ⟨Z.sub (ts := [0, 2, 3]) rfl, ⟨I3, (H.sub [(5, true)] rfl).eq rfl⟩⟩, hF⟩
 ·replace hF := ite_f hc1 hF
  refine wp_exit ?_
  refine p_then_x ?_
  refine p_then_x ?_
  refine f_exit_here ?_
  refine p_then (wp_seq (f_region Z ?_)); clear Z; intro Z
  refine s_runk tAd4 Z 1 rfl rfl ?_; clear Z a; intro a Z
  refine s_end Z [2] rfl ?_; clear Z; intro Z
  refine p_then (wp_ret ?_)
  obtain rfl := some_in hF
  exact f_ret Z (run_results1 rfl Z rfl) ⟨rfl, I1, (H.sub [] rfl).eq rfl⟩

def F_ref18_Take_k1 (out : List ENote) (n0 : Int) : Option ((List ENote) × Int) := some (out, n0)

def F_ref18_Take_k3 (at_ : Int) (k : Int) (rc : ((List ENote) × Int × Int × Int × Eref17_Log) → Option ((List ENote) × Int)) (out_3 : List ENote) (n0_3 : Int) (log_2 : Eref17_Log) : Option ((List ENote) × Int) := chk (inI (k + 1)) (rc (out_3, n0_3, at_ + 1, k + 1, log_2))

def F_ref18_Take_k4 (n0_2 : Int) (at_ : Int) (k : Int) (rc : ((List ENote) × Int × Int × Int × Eref17_Log) → Option ((List ENote) × Int)) (out_4 : List ENote) (x : Bool) (x_2 : Bool) (x_3 : Bool) (log_3 : Eref17_Log) : Option ((List ENote) × Int) := chk (inI (n0_2 + 1)) (chk (inI (at_ + 1)) (F_ref18_Take_k3 at_ k rc out_4 (n0_2 + 1) log_3))

def F_ref18_Take_l2 (l : List EEntry) (rc : ((List ENote) × Int × Int × Int × Eref17_Log) → Option ((List ENote) × Int)) (sg : (List ENote) × Int × Int × Int × Eref17_Log) : Option ((List ENote) × Int) := match sg with | (out_2, n0_2, at_, k, log) => if (decide (k < (l.length : Int))) = true then (if (decide (at_ < n0_2)) = true then (chk (inI (at_ + 1)) (F_ref18_Take_k3 at_ k rc out_2 n0_2 log)) else (if (decide (at_ > n0_2)) = true then (F_ref18_Take_k1 out_2 n0_2) else (chk ((0 : Int) ≤ k ∧ k < (l.length : Int)) ((F_ref18_One_own log.l at_ ({ (l.getD (k).toNat default) with batch := ({ client := ((l.getD (k).toNat default).batch).client, req := ((l.getD (k).toNat default).batch).req, ops := ((l.getD (k).toNat default).batch).ops } : EBatch) } : EEntry)).bind fun o => (chk ((!(decide (at_ ≥ (log.l.length : Int)))) = true → (0 : Int) ≤ at_ ∧ at_ < (log.l.length : Int)) ((gif (!(decide (at_ ≥ (log.l.length : Int)))) (F_ref08_Twins ({ (log.l.getD (at_).toNat default) with batch := ({ client := ((log.l.getD (at_).toNat default).batch).client, req := ((log.l.getD (at_).toNat default).batch).req, ops := ((log.l.getD (at_).toNat default).batch).ops } : EBatch) } : EEntry) o) default).bind fun t => (chk ((!((decide (at_ ≥ (log.l.length : Int))) || (!t))) = true → (0 : Int) ≤ at_ ∧ at_ < (log.l.length : Int)) (if (((decide (at_ ≥ (log.l.length : Int))) || (!t)) || (((log.l.getD (at_).toNat default).ts) != o.ts)) = true then ((F_ref17_Log_Set log at_ o).bind fun s0 => (if (s0.1 != 0) = true then (F_ref18_Take_k1 out_2 n0_2) else (chk (((out_2.length + [({ (default : ENote) with k := 2, n := at_, entry := o } : ENote)].length : Nat) : Int) * 192 ≤ 140737488355328) (F_ref18_Take_k4 n0_2 at_ k rc (out_2 ++ [({ (default : ENote) with k := 2, n := at_, entry := o } : ENote)]) ((decide (at_ ≥ (log.l.length : Int))) || (!t)) ((decide (at_ ≥ (log.l.length : Int))) || (!t)) (((decide (at_ ≥ (log.l.length : Int))) || (!t)) || (((log.l.getD (at_).toNat default).ts) != o.ts)) s0.2)))) else (F_ref18_Take_k4 n0_2 at_ k rc out_2 ((decide (at_ ≥ (log.l.length : Int))) || (!t)) ((decide (at_ ≥ (log.l.length : Int))) || (!t)) (((decide (at_ ≥ (log.l.length : Int))) || (!t)) || (((log.l.getD (at_).toNat default).ts) != o.ts)) log))))))))) else (F_ref18_Take_k1 out_2 n0_2)

def F_ref18_Take (own : List EEntry) (good : Int) (from_ : Int) (l : List EEntry) : Option ((List ENote) × Int) := (F_ref08_Right own).bind fun r0 => (if (((r0 != 0) || (decide (good < 0))) || (decide (good > (own.length : Int)))) = true then (some (([] : List ENote), good)) else ((F_ref17_Copy own).bind fun c => (iter (F_ref18_Take_l2 l) FU (([] : List ENote), good, max from_ 0, 0, ({ l := c } : Eref17_Log)))))

set_option maxHeartbeats 1000000 in
theorem c_ref18_Take {I D : Dm} {own : List EEntry} {v1_own : Value} {good : Int} {from_ : Int} {l : List EEntry} {v2_l : Value} {w : World} {rr : (List ENote) × Int} (hF : F_ref18_Take own good from_ l = some rr) (H : St I D w [SlC NEEntry v1_own own, SlC NEEntry v2_l l]) :
  Calls Try.prog 10 #[v1_own, .int .i64 good, .int .i64 from_, v2_l] w (Ret fun vv w' => ∃ q1 : Value, vv = .tuple #[q1, .int .i64 rr.2] ∧ ∃ I', Hf I D w I' w' [SlC NENote q1 rr.1]) := by
 replace H := H.hf
 unfold F_ref18_Take at hF
 refine f_enter 110 Try.func10 rfl rfl (Nat.le_of_ble_eq_true rfl) fun a Z => ?_
 replace Z := Z.sub (ts := [0, 1, 2, 3]) rfl
 refine wp_seq (f_region Z ?_); clear Z; intro Z
 refine s_runk tAd4 Z 2 rfl rfl ?_; clear Z a; intro a Z
 refine s_end Z [0, 1, 2, 3, 8, 9] rfl ?_; clear Z; intro Z
 refine p_then (wp_seq ?_)
 refine wp_seq ?_
 obtain ⟨r0, hx1, hF⟩ := bnd_in hF
 refine f_region Z ?_; clear Z; intro Z
 refine s_runk tAd4 Z 1 rfl rfl ?_; clear Z a; intro a Z
 refine h_call Z H (js := [(0, true)]) rfl (caps := #[]) fn_17_YAd4 rfl rfl rfl rfl rfl (by decide) rfl rfl (fun D1 hS => have hq := c_ref08_Right hx1 hS; hq) ?_; clear Z a; intro vv a w1 D2 hr hF2 Z
 obtain ⟨rfl, I1, K⟩ := hr
 have H : Hf I D w I1 w1 [SlC NEEntry v1_own own, SlC NEEntry v2_l l] := hF2 K
 clear hF2 K
 refine s_runk tAd4 Z 2 rfl rfl ?_; clear Z a; intro a Z
 refine g_ob Z (p := (!(r0 != 0))) (v := .int .i64 good) (S' := [(1, .int .i64 good)]) rfl rfl rfl (wantB_f _) rfl (by decide) (fun hp hS => hS.sub (ts := [1]) rfl) (fun hp => Ob_c tAd4 rfl) ?_; clear Z a; intro a Z
 refine g_ob Z (p := (!(r0 != 0))) (v := .bool (decide (good < 0))) (S' := [(20, .int .i64 good)]) rfl rfl rfl (wantB_f _) rfl (by decide) (fun hp hS => (hS.conv (t := 20) rfl (cond_t hp)).sub (ts := [20]) rfl) (fun hp => Ob_c tAd4 rfl) ?_; clear Z a; intro a Z
 refine s_ob Z (v := .bool ((r0 != 0) || (decide (good < 0)))) rfl rfl (by decide) rfl (Ob_pick rfl rfl rfl rfl (pick_or _ _)) ?_; clear Z a; intro a Z
 refine s_runk tAd4 Z 1 rfl rfl ?_; clear Z a; intro a Z
 refine g_ob Z (p := (!((r0 != 0) || (decide (good < 0))))) (v := .int .i64 good) (S' := [(1, .int .i64 good)]) rfl rfl rfl (wantB_f _) rfl (by decide) (fun hp hS => hS.sub (ts := [1]) rfl) (fun hp => Ob_c tAd4 rfl) ?_; clear Z a; intro a Z
 refine g_ob Z (p := (!((r0 != 0) || (decide (good < 0))))) (v := v1_own) (S' := [(0, v1_own)]) rfl rfl rfl (wantB_f _) rfl (by decide) (fun hp hS => hS.sub (ts := [0]) rfl) (fun hp => Ob_c tAd4 rfl) ?_; clear Z a; intro a Z
 refine g_ob Z (p := (!((r0 != 0) || (decide (good < 0))))) (v := .int .i64 (own.length : Int)) (S' := [(25, v1_own)]) rfl rfl rfl (wantB_f _) rfl (by decide) (fun hp hS => (hS.conv (t := 25) rfl (cond_t hp)).sub (ts := [25]) rfl) (fun hp => Ob_slen tAd4 rfl rfl rfl (H.slshape 0 rfl)) ?_; clear Z a; intro a Z
 refine g_ob Z (p := (!((r0 != 0) || (decide (good < 0))))) (v := .bool (decide (good > (own.length : Int)))) (S' := [(24, .int .i64 good), (26, .int .i64 (own.length : Int))]) rfl rfl rfl (wantB_f _) rfl (by decide) (fun hp hS => ((hS.conv (t := 24) rfl (cond_t hp)).conv (t := 26) rfl (cond_t hp)).sub (ts := [24, 26]) rfl) (fun hp => Ob_c tAd4 rfl) ?_; clear Z a; intro a Z
 refine s_ob Z (v := .bool (((r0 != 0) || (decide (good < 0))) || (decide (good > (own.length : Int))))) rfl rfl (by decide) rfl (Ob_pick rfl rfl rfl rfl (pick_or _ _)) ?_; clear Z a; intro a Z
 refine s_end Z [0, 1, 2, 3, 8, 9, 28] rfl ?_; clear Z; intro Z
 refine p_then ?_
 refine f_cond Z rfl (fun hc1 => ?_) (fun hc1 => ?_)
 ·replace hF := ite_t hc1 hF
  refine wp_seq (f_region Z ?_); clear Z; intro Z
  refine s_runk tAd4 Z 3 rfl rfl ?_; clear Z a; intro a Z
  refine s_end Z [0, 1, 2, 3, 8, 9] rfl ?_; clear Z; intro Z
  refine p_then (wp_ret ?_)
  refine p_then_r ?_
  replace H : Hf I D w I1 w1 [SlC NENote (.slice none 0 0) ([] : List ENote), SlC NEEntry v1_own own, SlC NEEntry v2_l l] := H.slNil NENote
  obtain rfl := some_in hF
  exact f_ret Z (run_results2 rfl Z rfl rfl) ⟨.slice none 0 0, rfl, I1, (H.sub [(0, true)] rfl).eq rfl⟩
 ·replace hF := ite_f hc1 hF
  refine wp_skip ?_
  refine p_then (wp_seq ?_)
  obtain ⟨c, hx2, hF⟩ := bnd_in hF
  refine f_region Z ?_; clear Z; intro Z
  refine s_runk tAd4 Z 1 rfl rfl ?_; clear Z a; intro a Z
  refine h_call Z H (js := [(0, true)]) rfl (caps := #[]) fn_23_YAd4 rfl rfl rfl rfl rfl (by decide) rfl rfl (fun D1 hS => have hq := c_ref17_Copy hx2 hS; hq) ?_; clear Z a; intro vv a w2 D2 hr hF2 Z
  obtain ⟨q1, hvv, I2, K⟩ := hr; obtain rfl := hvv.symm
  have H : Hf I D w I2 w2 [OwC NEEntry 34 q1 c, SlC NEEntry v1_own own, SlC NEEntry v2_l l] := hF2 K
  clear hF2 K
  refine s_ob Z (v := .agg #[q1]) rfl rfl (by decide) rfl (Ob_build (vs := [(0, q1)]) rfl rfl (by obtain ⟨_, _, e, _⟩ := (H.owshape 0 rfl); rw [e]; clear e; go_simp <;> rfl)) ?_; clear Z a; intro a Z
  refine h_boxv Z H (cl := [q1]) rfl rfl rfl (by decide) rfl rfl rfl ?_; clear Z a H; intro a w3 b1 H Z
  refine s_runk tAd4 Z 1 rfl rfl ?_; clear Z a; intro a Z
  refine s_end Z [1, 2, 3, 8, 9, 10] rfl ?_; clear Z; intro Z
  refine p_then (wp_seq (f_region Z ?_)); clear Z; intro Z
  refine s_runk tAd4 Z 1 rfl rfl ?_; clear Z a; intro a Z
  refine s_end Z [1, 2, 3, 8, 9, 10, 11] rfl ?_; clear Z; intro Z
  refine p_then (wp_seq (f_region Z ?_)); clear Z; intro Z
  refine s_runk tAd4 Z 2 rfl rfl ?_; clear Z a; intro a Z
  refine s_end Z [2, 3, 8, 9, 10, 11, 12] rfl ?_; clear Z; intro Z
  refine p_then (wp_seq (f_region Z ?_)); clear Z; intro Z
  refine s_runk tAd4 Z 3 rfl rfl ?_; clear Z a; intro a Z
  refine s_end Z [3, 8, 9, 10, 11, 12, 13] rfl ?_; clear Z; intro Z
  refine p_then ?_
  refine f_cut (fun a' w' => ∃ (out : List ENote) (n0 : Int), ∃ v3 : Value, Sl 110 [(8, .slice none 0 0), (9, .int .i64 0), (11, v3), (12, .int .i64 n0)] a' ∧ (∃ I2, Hf I D w I2 w' [OwC NENote 54 v3 out]) ∧ F_ref18_Take_k1 out n0 = some rr) ?_ ?_
  ·rintro a w4 ⟨out, n0, v3, Z, ⟨I3, H⟩, hF⟩
   unfold F_ref18_Take_k1 at hF
   try dsimp only at hF
   refine wp_seq (f_region Z ?_); clear Z; intro Z
   refine s_runk tAd4 Z 4 rfl rfl ?_; clear Z a; intro a Z
   refine s_end Z [8, 9] rfl ?_; clear Z; intro Z
   refine p_then (wp_ret ?_)
   obtain ⟨I4, _, H⟩ := H.frzow 0 rfl
   replace H : Hf I D w I4 w4 [SlC NENote v3 out] := H
   obtain rfl := some_in hF
   exact f_ret Z (run_results2 rfl Z rfl rfl) ⟨v3, rfl, I4, (H.sub [(0, true)] rfl).eq rfl⟩
  ·skip
   refine wp_seq (f_region Z ?_); clear Z; intro Z
   refine s_runk tAd4 Z 1 rfl rfl ?_; clear Z a; intro a Z
   refine s_end Z [3, 8, 9, 10, 11, 12, 13, 14] rfl ?_; clear Z; intro Z
   refine p_then (wp_block ?_)
   replace H : Hf I D w I2 w3 [OEref17_Log b1 ({ l := c } : Eref17_Log), SlC NEEntry v1_own own, SlC NEEntry v2_l l] := H.shutX (q1) [(0, false), (0, false)] rfl
   replace H : Hf I D w I2 w3 [OwC NENote 54 (.slice none 0 0) ([] : List ENote), OEref17_Log b1 ({ l := c } : Eref17_Log), SlC NEEntry v1_own own, SlC NEEntry v2_l l] := H.nilow NENote 54
   refine f_iter hF (fun sg a' w' => match sg with | (out_2, n0_2, at_, k, log) => ∃ v4 : Value, Sl 110 [(3, v2_l), (8, .slice none 0 0), (9, .int .i64 0), (10, .pointer (some ⟨b1, 0, none⟩)), (11, v4), (12, .int .i64 n0_2), (13, .int .i64 at_), (14, .int .i64 k)] a' ∧ ∃ I2, Hf I D w I2 w' [OEref17_Log b1 log, SlC NEEntry v2_l l, OwC NENote 54 v4 out_2]) ⟨.slice none 0 0, Z.sub (ts := [3, 8, 9, 10, 11, 12, 13, 14]) rfl, ⟨I2, (H.sub [(1, false), (2, true), (0, false)] rfl).eq rfl⟩⟩ ?_
   clear Z H hF a
   rintro rc ⟨out_2, n0_2, at_, k, log⟩ a w5 ⟨v4, Z, I5, H⟩ hF
   unfold F_ref18_Take_l2 at hF
   try dsimp only at hF
   refine wp_seq ?_
   refine wp_seq (f_region Z ?_); clear Z; intro Z
   refine s_runk tAd4 Z 2 rfl rfl ?_; clear Z a; intro a Z
   refine s_ob Z (v := .int .i64 (l.length : Int)) rfl rfl (by decide) rfl (Ob_slen tAd4 rfl rfl rfl (H.slshape 1 rfl)) ?_; clear Z a; intro a Z
   refine s_runk tAd4 Z 1 rfl rfl ?_; clear Z a; intro a Z
   refine s_end Z [3, 8, 9, 10, 11, 12, 13, 14, 37, 38, 39, 40] rfl ?_; clear Z; intro Z
   refine p_then ?_
   refine f_cond Z rfl (fun hc2 => ?_) (fun hc2 => ?_)
   ·replace hF := ite_t hc2 hF
    refine wp_skip ?_
    refine p_then ?_
    refine f_cut (fun a' w' => ∃ (out_3 : List ENote) (n0_3 : Int) (log_2 : Eref17_Log), ∃ v5 : Value, Sl 110 [(3, v2_l), (8, .slice none 0 0), (9, .int .i64 0), (10, .pointer (some ⟨b1, 0, none⟩)), (11, v5), (12, .int .i64 n0_3), (13, .int .i64 (at_ + 1)), (14, .int .i64 k), (37, .int .i64 k), (38, v2_l), (39, .int .i64 (l.length : Int)), (40, .bool (decide (k < (l.length : Int)))), (43, .int .i64 at_), (44, .int .i64 n0_2), (45, .bool (decide (at_ < n0_2)))] a' ∧ (∃ I2, Hf I D w I2 w' [OEref17_Log b1 log_2, SlC NEEntry v2_l l, OwC NENote 54 v5 out_3]) ∧ F_ref18_Take_k3 at_ k rc out_3 n0_3 log_2 = some rr) ?_ ?_
    ·rintro a w6 ⟨out_3, n0_3, log_2, v5, Z, ⟨I6, H⟩, hF⟩
     unfold F_ref18_Take_k3 at hF
     try dsimp only at hF
     obtain ⟨hg1, hF⟩ := chk_in hF
     refine f_region Z ?_; clear Z; intro Z
     refine s_runk tAd4 Z 1 rfl rfl ?_; clear Z a; intro a Z
     refine s_ob Z (v := .int .i64 (k + 1)) rfl rfl (by decide) rfl (Ob_add rfl rfl rfl (wrI hg1)) ?_; clear Z a; intro a Z
     refine s_runk tAd4 Z 1 rfl rfl ?_; clear Z a; intro a Z
     refine s_end Z [3, 8, 9, 10, 11, 12, 13, 14, 37, 38, 39, 40, 43, 44, 45, 41, 42] rfl ?_; clear Z; intro Z
     refine p_then ?_
     exact ⟨(out_3, n0_3, at_ + 1, k + 1, log_2), ⟨v5, Z.sub (ts := [3, 8, 9, 10, 11, 12, 13, 14]) rfl, ⟨I6, (H.sub [(0, false), (0, true), (1, false)] rfl).eq rfl⟩⟩, hF⟩
    ·skip
     refine wp_block ?_
     refine wp_seq ?_
     refine wp_seq (f_region Z ?_); clear Z; intro Z
     refine s_runk tAd4 Z 3 rfl rfl ?_; clear Z a; intro a Z
     refine s_end Z [3, 8, 9, 10, 11, 12, 13, 14, 37, 38, 39, 40, 43, 44, 45] rfl ?_; clear Z; intro Z
     refine p_then ?_
     refine f_cond Z rfl (fun hc3 => ?_) (fun hc3 => ?_)
     ·replace hF := ite_t hc3 hF
      refine wp_seq ?_
      obtain ⟨hg2, hF⟩ := chk_in hF
      refine f_region Z ?_; clear Z; intro Z
      refine s_runk tAd4 Z 1 rfl rfl ?_; clear Z a; intro a Z
      refine s_ob Z (v := .int .i64 (at_ + 1)) rfl rfl (by decide) rfl (Ob_add rfl rfl rfl (wrI hg2)) ?_; clear Z a; intro a Z
      refine s_runk tAd4 Z 1 rfl rfl ?_; clear Z a; intro a Z
      refine s_end Z [3, 8, 9, 10, 11, 12, 13, 14, 37, 38, 39, 40, 43, 44, 45, 46, 47] rfl ?_; clear Z; intro Z
      refine p_then ?_
      refine wp_exit ?_
      refine p_then_x ?_
      refine f_exit_here ?_
      refine p_then ?_
      exact ⟨out_2, n0_2, log, v4, Z.sub (ts := [3, 8, 9, 10, 11, 12, 13, 14, 37, 38, 39, 40, 43, 44, 45]) rfl, ⟨I5, (H.sub [(0, false), (0, true), (1, false)] rfl).eq rfl⟩, hF⟩
     ·replace hF := ite_f hc3 hF
      refine wp_skip ?_
      refine p_then (wp_seq ?_)
      refine wp_seq (f_region Z ?_); clear Z; intro Z
      refine s_runk tAd4 Z 3 rfl rfl ?_; clear Z a; intro a Z
      refine s_end Z [3, 8, 9, 10, 11, 12, 13, 14, 37, 38, 39, 40, 43, 44, 45, 48, 49, 50] rfl ?_; clear Z; intro Z
      refine p_then ?_
      refine f_cond Z rfl (fun hc4 => ?_) (fun hc4 => ?_)
      ·replace hF := ite_t hc4 hF
       refine wp_exit ?_
       refine p_then_x ?_
       refine f_exit_out (by decide) ?_
       refine p_then_x ?_
       refine p_then_x ?_
       refine f_exit_here ?_
       refine p_then ?_
       exact ⟨out_2, n0_2, v4, Z.sub (ts := [8, 9, 11, 12]) rfl, ⟨I5, (H.sub [(2, false)] rfl).eq rfl⟩, hF⟩
      ·replace hF := ite_f hc4 hF
       refine wp_skip ?_
       refine p_then (wp_seq ?_)
       obtain ⟨v6, H⟩ := H.openX 0 rfl
       replace H : Hf I D w I5 w5 [BxC b1 64 [v6], OwC NEEntry 34 v6 log.l, SlC NEEntry v2_l l, OwC NENote 54 v4 out_2] := H
       obtain ⟨hg3, hF⟩ := chk_in hF
       obtain ⟨_, ⟨u1, rfl, L1⟩, H⟩ := H.elG 2 rfl (k) (NEEntry.dft _ _)
       replace H := H.addsl L1
       replace H : Hf I D w I5 w5 [SlC NEOp u1 (((l.getD (k).toNat default).batch).ops), AtG ((0 : Int) ≤ k ∧ k < (l.length : Int)) (blkOf v2_l) (oofOf v2_l + (k).toNat * 4) [.int .i64 (((l.getD (k).toNat default).batch).client), .int .i64 (((l.getD (k).toNat default).batch).req), u1, .int .u64 ((l.getD (k).toNat default).ts)], BxC b1 64 [v6], OwC NEEntry 34 v6 log.l, SlC NEEntry v2_l l, OwC NENote 54 v4 out_2] := H
       obtain ⟨o, hx3, hF⟩ := bnd_in hF
       refine f_regionG Z (by kernel_rfl) (by kernel_rfl) (by decide) (by decide) [9, 10, 11] [(0, [0, 2]), (1, [0, 2]), (3, [0, 2]), (7, [0, 2]), (0, [0, 2]), (0, [0, 2]), (0, [0, 2]), (96, [0, 2]), (224, [0, 2]), (511, [0, 2]), (0, [0, 1]), (2047, [3])] (by kernel_rfl) (fun jj => jj) (by kernel_rfl) (fun jj rv vv => match jj with | 0 => vv = .pointer (some ⟨b1, 0, none⟩) | 1 => vv = .pointer (some ⟨b1, 0, none⟩) | 2 => vv = .pointer (some ⟨b1, 0, none⟩) | 3 => vv = v6 | 4 => vv = .int .i64 at_ | 5 => vv = v2_l | 6 => vv = .int .i64 k | 7 => vv = .pointer (some ⟨blkOf v2_l, oofOf v2_l + (k).toNat * 4, none⟩) | 8 => vv = .agg #[.int .i64 (((l.getD (k).toNat default).batch).client), .int .i64 (((l.getD (k).toNat default).batch).req), u1, .int .u64 ((l.getD (k).toNat default).ts)] | 9 => vv = .agg #[.int .i64 o.batch.client, .int .i64 o.batch.req, (aggAt vv 2), .int .u64 o.ts] | 10 => vv = .pointer (some ⟨blkOf vv, 0, none⟩) | 11 => True | _ => True) (fun ss vals1 xw => match ss with | 0 => Gx I D w I5 w5 xw [SlC NEOp u1 (((l.getD (k).toNat default).batch).ops), AtG ((0 : Int) ≤ k ∧ k < (l.length : Int)) (blkOf v2_l) (oofOf v2_l + (k).toNat * 4) [.int .i64 (((l.getD (k).toNat default).batch).client), .int .i64 (((l.getD (k).toNat default).batch).req), u1, .int .u64 ((l.getD (k).toNat default).ts)], BxC b1 64 [v6], OwC NEEntry 34 v6 log.l, SlC NEEntry v2_l l, OwC NENote 54 v4 out_2] | 1 => Gx I D w I5 w5 xw [OwC NEEntry 34 v6 log.l, SlC NEOp (aggAt (vals1 9) 2) o.batch.ops, SlC NEOp u1 (((l.getD (k).toNat default).batch).ops), AtG ((0 : Int) ≤ k ∧ k < (l.length : Int)) (blkOf v2_l) (oofOf v2_l + (k).toNat * 4) [.int .i64 (((l.getD (k).toNat default).batch).client), .int .i64 (((l.getD (k).toNat default).batch).req), u1, .int .u64 ((l.getD (k).toNat default).ts)], BxC b1 64 [v6], SlC NEEntry v2_l l, OwC NENote 54 v4 out_2] | 2 => Gx I D w I5 w5 xw [BxC (blkOf (vals1 10)) 34 [.int .i64 0, .int .i64 0, .slice none 0 0, .int .u64 0], SlC NEOp u1 (((l.getD (k).toNat default).batch).ops), AtG ((0 : Int) ≤ k ∧ k < (l.length : Int)) (blkOf v2_l) (oofOf v2_l + (k).toNat * 4) [.int .i64 (((l.getD (k).toNat default).batch).client), .int .i64 (((l.getD (k).toNat default).batch).req), u1, .int .u64 ((l.getD (k).toNat default).ts)], BxC b1 64 [v6], OwC NEEntry 34 v6 log.l, SlC NEEntry v2_l l, OwC NENote 54 v4 out_2] | 3 => Gx I D w I5 w5 xw [BxC (blkOf (vals1 10)) 34 [.int .i64 0, .int .i64 0, .slice none 0 0, .int .u64 0], OwC NEEntry 34 v6 log.l, SlC NEOp (aggAt (vals1 9) 2) o.batch.ops, SlC NEOp u1 (((l.getD (k).toNat default).batch).ops), AtG ((0 : Int) ≤ k ∧ k < (l.length : Int)) (blkOf v2_l) (oofOf v2_l + (k).toNat * 4) [.int .i64 (((l.getD (k).toNat default).batch).client), .int .i64 (((l.getD (k).toNat default).batch).req), u1, .int .u64 ((l.getD (k).toNat default).ts)], BxC b1 64 [v6], SlC NEEntry v2_l l, OwC NENote 54 v4 out_2] | _ => Gx I D w I5 w5 xw [BxC (blkOf (vals1 10)) 34 (cEEntry o (aggAt (vals1 9) 2)), OwC NEEntry 34 v6 log.l, SlC NEOp (aggAt (vals1 9) 2) o.batch.ops, SlC NEOp u1 (((l.getD (k).toNat default).batch).ops), AtG ((0 : Int) ≤ k ∧ k < (l.length : Int)) (blkOf v2_l) (oofOf v2_l + (k).toNat * 4) [.int .i64 (((l.getD (k).toNat default).batch).client), .int .i64 (((l.getD (k).toNat default).batch).req), u1, .int .u64 ((l.getD (k).toNat default).ts)], BxC b1 64 [v6], SlC NEEntry v2_l l, OwC NENote 54 v4 out_2]) (fun _ => Gx.start H) ?_ ?_
       ·intro fr hfr hfe
        refine .cons (fun ss hs vals1 xw hG hV => ?_) ?_
        ·obtain rfl | rfl : ss = 0 ∨ ss = 2 := by simpa using hs
         all_goals
         ·rw [← hfe]
          have hS := (hfr vals1).sub (ts := [10]) (S' := [(10, .pointer (some ⟨b1, 0, none⟩))]) rfl
          exact L_val hS rfl (Ob_c tAd4 rfl) ⟨rfl, hG⟩
        refine .cons (fun ss hs vals1 xw hG hV => ?_) ?_
        ·obtain rfl | rfl : ss = 0 ∨ ss = 2 := by simpa using hs
         all_goals
         ·rw [← hfe]
          have hS := (hfr vals1).sub (ts := [51]) (S' := [(51, vals1 0)]) rfl
          replace hS := hS.conv (t := 51) rfl (show (vals1 0) = .pointer (some ⟨b1, 0, none⟩) from hV 0 (by decide))
          exact L_val hS rfl (Ob_c tAd4 rfl) ⟨rfl, hG⟩
        refine .cons (fun ss hs vals1 xw hG hV => ?_) ?_
        ·obtain rfl | rfl : ss = 0 ∨ ss = 2 := by simpa using hs
         all_goals
         ·rw [← hfe]
          have hS := (hfr vals1).sub (ts := [52]) (S' := [(52, vals1 1)]) rfl
          replace hS := hS.conv (t := 52) rfl (show (vals1 1) = .pointer (some ⟨b1, 0, none⟩) from hV 1 (by decide))
          exact L_val hS rfl (Ob_c tAd4 rfl) ⟨rfl, hG⟩
        refine .cons (fun ss hs vals1 xw hG hV => ?_) ?_
        ·obtain rfl | rfl : ss = 0 ∨ ss = 2 := by simpa using hs
         ·rw [← hfe]
          have hS := (hfr vals1).sub (ts := [53]) (S' := [(53, vals1 2)]) rfl
          replace hS := hS.conv (t := 53) rfl (show (vals1 2) = .pointer (some ⟨b1, 0, none⟩) from hV 2 (by decide))
          obtain ⟨I2, hI2, H⟩ := Gx.ex hG
          exact L_val hS rfl (Ob_load tAd4 rfl rfl rfl ((H.bx 2 rfl).cell 0 rfl)) ⟨rfl, hG⟩
         ·rw [← hfe]
          have hS := (hfr vals1).sub (ts := [53]) (S' := [(53, vals1 2)]) rfl
          replace hS := hS.conv (t := 53) rfl (show (vals1 2) = .pointer (some ⟨b1, 0, none⟩) from hV 2 (by decide))
          obtain ⟨I2, hI2, H⟩ := Gx.ex hG
          exact L_val hS rfl (Ob_load tAd4 rfl rfl rfl ((H.bx 3 rfl).cell 0 rfl)) ⟨rfl, hG⟩
        refine .cons (fun ss hs vals1 xw hG hV => ?_) ?_
        ·obtain rfl | rfl : ss = 0 ∨ ss = 2 := by simpa using hs
         all_goals
         ·rw [← hfe]
          have hS := (hfr vals1).sub (ts := [13]) (S' := [(13, .int .i64 at_)]) rfl
          exact L_val hS rfl (Ob_c tAd4 rfl) ⟨rfl, hG⟩
        refine .cons (fun ss hs vals1 xw hG hV => ?_) ?_
        ·obtain rfl | rfl : ss = 0 ∨ ss = 2 := by simpa using hs
         all_goals
         ·rw [← hfe]
          have hS := (hfr vals1).sub (ts := [3]) (S' := [(3, v2_l)]) rfl
          exact L_val hS rfl (Ob_c tAd4 rfl) ⟨rfl, hG⟩
        refine .cons (fun ss hs vals1 xw hG hV => ?_) ?_
        ·obtain rfl | rfl : ss = 0 ∨ ss = 2 := by simpa using hs
         all_goals
         ·rw [← hfe]
          have hS := (hfr vals1).sub (ts := [14]) (S' := [(14, .int .i64 k)]) rfl
          exact L_val hS rfl (Ob_c tAd4 rfl) ⟨rfl, hG⟩
        refine .cons (fun ss hs vals1 xw hG hV => ?_) ?_
        ·obtain rfl | rfl : ss = 0 ∨ ss = 2 := by simpa using hs
         ·rw [← hfe]
          have hS := (hfr vals1).sub (ts := [56, 57]) (S' := [(56, vals1 5), (57, vals1 6)]) rfl
          replace hS := hS.conv (t := 56) rfl (show (vals1 5) = v2_l from hV 5 (by decide))
          replace hS := hS.conv (t := 57) rfl (show (vals1 6) = .int .i64 k from hV 6 (by decide))
          obtain ⟨I2, hI2, H⟩ := Gx.ex hG
          exact L_val hS rfl (Ob_sidx tAd4 rfl rfl rfl rfl (slPl (H.sl 4 rfl) hg3) hg3) ⟨rfl, hG⟩
         ·rw [← hfe]
          have hS := (hfr vals1).sub (ts := [56, 57]) (S' := [(56, vals1 5), (57, vals1 6)]) rfl
          replace hS := hS.conv (t := 56) rfl (show (vals1 5) = v2_l from hV 5 (by decide))
          replace hS := hS.conv (t := 57) rfl (show (vals1 6) = .int .i64 k from hV 6 (by decide))
          obtain ⟨I2, hI2, H⟩ := Gx.ex hG
          exact L_val hS rfl (Ob_sidx tAd4 rfl rfl rfl rfl (slPl (H.sl 5 rfl) hg3) hg3) ⟨rfl, hG⟩
        refine .cons (fun ss hs vals1 xw hG hV => ?_) ?_
        ·obtain rfl | rfl : ss = 0 ∨ ss = 2 := by simpa using hs
         ·rw [← hfe]
          have hS := (hfr vals1).sub (ts := [58]) (S' := [(58, vals1 7)]) rfl
          replace hS := hS.conv (t := 58) rfl (show (vals1 7) = .pointer (some ⟨blkOf v2_l, oofOf v2_l + (k).toNat * 4, none⟩) from hV 7 (by decide))
          obtain ⟨I2, hI2, H⟩ := Gx.ex hG
          exact L_val hS rfl (Ob_loads tAd4 rfl rfl rfl ((H.atg 1 rfl hg3).part 0 rfl)) ⟨rfl, hG⟩
         ·rw [← hfe]
          have hS := (hfr vals1).sub (ts := [58]) (S' := [(58, vals1 7)]) rfl
          replace hS := hS.conv (t := 58) rfl (show (vals1 7) = .pointer (some ⟨blkOf v2_l, oofOf v2_l + (k).toNat * 4, none⟩) from hV 7 (by decide))
          obtain ⟨I2, hI2, H⟩ := Gx.ex hG
          exact L_val hS rfl (Ob_loads tAd4 rfl rfl rfl ((H.atg 2 rfl hg3).part 0 rfl)) ⟨rfl, hG⟩
        refine .cons (fun ss hs vals1 xw hG hV => ?_) ?_
        ·obtain rfl | rfl : ss = 0 ∨ ss = 2 := by simpa using hs
         ·rw [← hfe]
          have hS := (hfr vals1).sub (ts := [54, 55, 59]) (S' := [(54, vals1 3), (55, vals1 4), (59, vals1 8)]) rfl
          replace hS := hS.conv (t := 54) rfl (show (vals1 3) = v6 from hV 3 (by decide))
          replace hS := hS.conv (t := 55) rfl (show (vals1 4) = .int .i64 at_ from hV 4 (by decide))
          replace hS := hS.conv (t := 59) rfl (show (vals1 8) = .agg #[.int .i64 (((l.getD (k).toNat default).batch).client), .int .i64 (((l.getD (k).toNat default).batch).req), u1, .int .u64 ((l.getD (k).toNat default).ts)] from hV 8 (by decide))
          obtain ⟨I2, hI2, H⟩ := Gx.ex hG
          refine L_hcall H (js := [(3, false), (0, true)]) rfl (caps := #[]) hS fn_13_YAd4 rfl rfl rfl rfl rfl (fun D1 hS => have hq := c_ref18_One_own hx3 hS; hq) fun _ yw D1 hr hF2 => ?_
          obtain ⟨q0_, rfl, I3, K⟩ := hr
          obtain ⟨hK, H2⟩ := hF2 K
          exact ⟨rfl, Gx.go hG hI2 hK K.imm H2⟩
         ·rw [← hfe]
          have hS := (hfr vals1).sub (ts := [54, 55, 59]) (S' := [(54, vals1 3), (55, vals1 4), (59, vals1 8)]) rfl
          replace hS := hS.conv (t := 54) rfl (show (vals1 3) = v6 from hV 3 (by decide))
          replace hS := hS.conv (t := 55) rfl (show (vals1 4) = .int .i64 at_ from hV 4 (by decide))
          replace hS := hS.conv (t := 59) rfl (show (vals1 8) = .agg #[.int .i64 (((l.getD (k).toNat default).batch).client), .int .i64 (((l.getD (k).toNat default).batch).req), u1, .int .u64 ((l.getD (k).toNat default).ts)] from hV 8 (by decide))
          obtain ⟨I2, hI2, H⟩ := Gx.ex hG
          refine L_hcall H (js := [(4, false), (1, true)]) rfl (caps := #[]) hS fn_13_YAd4 rfl rfl rfl rfl rfl (fun D1 hS => have hq := c_ref18_One_own hx3 hS; hq) fun _ yw D1 hr hF2 => ?_
          obtain ⟨q0_, rfl, I3, K⟩ := hr
          obtain ⟨hK, H2⟩ := hF2 K
          exact ⟨rfl, Gx.go hG hI2 hK K.imm (Hf.sub H2 [(2, false), (0, false), (0, true), (1, true), (2, true), (3, false), (3, true), (4, false)] rfl)⟩
        refine .cons (fun ss hs vals1 xw hG hV => ?_) ?_
        ·obtain rfl | rfl : ss = 0 ∨ ss = 1 := by simpa using hs
         all_goals
         ·rw [← hfe]
          have hS := (hfr vals1).sub (ts := []) (S' := []) rfl
          obtain ⟨I2, hI2, H⟩ := Gx.ex hG
          exact L_alloc H (cl := [.int .i64 0, .int .i64 0, .slice none 0 0, .int .u64 0]) (z := .agg #[.int .i64 0, .int .i64 0, .slice none 0 0, .int .u64 0]) hS rfl rfl (by kernel_rfl) rfl fun yw b hK H => ⟨rfl, Gx.go hG hI2 hK (fun _ h => h) H⟩
        refine .cons (fun ss hs vals1 xw hG hV => ?_) ?_
        ·obtain rfl : ss = 3 := by simpa using hs
         rw [← hfe]
         have hS := (hfr vals1).sub (ts := [15, 60]) (S' := [(15, vals1 10), (60, vals1 9)]) rfl
         replace hS := hS.conv (t := 15) rfl (show (vals1 10) = .pointer (some ⟨blkOf (vals1 10), 0, none⟩) from hV 10 (by decide))
         replace hS := hS.conv (t := 60) rfl (show (vals1 9) = .agg #[.int .i64 o.batch.client, .int .i64 o.batch.req, (aggAt (vals1 9) 2), .int .u64 o.ts] from hV 9 (by decide))
         obtain ⟨I2, hI2, H⟩ := Gx.ex hG
         exact L_store tAd4 H 0 rfl hS rfl rfl rfl rfl rfl rfl rfl rfl (one_cons rfl (one_cons rfl (one_cons (slS.one (H.slshape 2 rfl)) (one_cons rfl one_nil)))) (Nat.le_of_ble_eq_true rfl) rfl fun yw hK H => ⟨trivial, Gx.go hG hI2 hK (fun _ h => h) H⟩
        exact .nil
       ·intro vals1 a w7 Z hG hV
        replace Z := Z.sub (ts := [3, 8, 9, 10, 11, 12, 13, 14, 37, 38, 39, 40, 43, 44, 45, 48, 49, 50, 51, 52, 53, 54, 55, 56, 57, 58, 59, 60, 15]) (S' := [(3, v2_l), (8, .slice none 0 0), (9, .int .i64 0), (10, .pointer (some ⟨b1, 0, none⟩)), (11, v4), (12, .int .i64 n0_2), (13, .int .i64 at_), (14, .int .i64 k), (37, .int .i64 k), (38, v2_l), (39, .int .i64 (l.length : Int)), (40, .bool (decide (k < (l.length : Int)))), (43, .int .i64 at_), (44, .int .i64 n0_2), (45, .bool (decide (at_ < n0_2))), (48, .int .i64 at_), (49, .int .i64 n0_2), (50, .bool (decide (at_ > n0_2))), (51, vals1 0), (52, vals1 1), (53, vals1 2), (54, vals1 3), (55, vals1 4), (56, vals1 5), (57, vals1 6), (58, vals1 7), (59, vals1 8), (60, vals1 9), (15, vals1 10)]) rfl
        replace Z := Z.conv (t := 51) rfl (show (vals1 0) = .pointer (some ⟨b1, 0, none⟩) from hV 0 (by decide))
        replace Z := Z.conv (t := 52) rfl (show (vals1 1) = .pointer (some ⟨b1, 0, none⟩) from hV 1 (by decide))
        replace Z := Z.conv (t := 53) rfl (show (vals1 2) = .pointer (some ⟨b1, 0, none⟩) from hV 2 (by decide))
        replace Z := Z.conv (t := 54) rfl (show (vals1 3) = v6 from hV 3 (by decide))
        replace Z := Z.conv (t := 55) rfl (show (vals1 4) = .int .i64 at_ from hV 4 (by decide))
        replace Z := Z.conv (t := 56) rfl (show (vals1 5) = v2_l from hV 5 (by decide))
        replace Z := Z.conv (t := 57) rfl (show (vals1 6) = .int .i64 k from hV 6 (by decide))
        replace Z := Z.conv (t := 58) rfl (show (vals1 7) = .pointer (some ⟨blkOf v2_l, oofOf v2_l + (k).toNat * 4, none⟩) from hV 7 (by decide))
        replace Z := Z.conv (t := 59) rfl (show (vals1 8) = .agg #[.int .i64 (((l.getD (k).toNat default).batch).client), .int .i64 (((l.getD (k).toNat default).batch).req), u1, .int .u64 ((l.getD (k).toNat default).ts)] from hV 8 (by decide))
        replace Z := Z.conv (t := 60) rfl (show (vals1 9) = .agg #[.int .i64 o.batch.client, .int .i64 o.batch.req, (aggAt (vals1 9) 2), .int .u64 o.ts] from hV 9 (by decide))
        replace Z := Z.conv (t := 15) rfl (show (vals1 10) = .pointer (some ⟨blkOf (vals1 10), 0, none⟩) from hV 10 (by decide))
        obtain ⟨I7, _, H⟩ := Gx.ex hG
        clear hG hV
        replace Z := Z.sub (ts := [3, 8, 9, 10, 11, 12, 13, 14, 37, 38, 39, 40, 43, 44, 45, 48, 49, 50, 51, 52, 53, 54, 55, 56, 57, 58, 59, 60, 15]) rfl
        replace H : Hf I D w I7 w7 [BxC (blkOf (vals1 10)) 34 (cEEntry o (aggAt (vals1 9) 2)), OwC NEEntry 34 v6 log.l, SlC NEOp (aggAt (vals1 9) 2) o.batch.ops, SlC NEOp u1 (((l.getD (k).toNat default).batch).ops), AtG ((0 : Int) ≤ k ∧ k < (l.length : Int)) (blkOf v2_l) (oofOf v2_l + (k).toNat * 4) [.int .i64 (((l.getD (k).toNat default).batch).client), .int .i64 (((l.getD (k).toNat default).batch).req), u1, .int .u64 ((l.getD (k).toNat default).ts)], BxC b1 64 [v6], SlC NEEntry v2_l l, OwC NENote 54 v4 out_2] := H
        refine p_then ?_
        refine f_cut (fun a' w' => ∃ (out_4 : List ENote) (x : Bool) (x_2 : Bool) (x_3 : Bool) (log_3 : Eref17_Log), ∃ v7 : Value, Sl 110 [(3, v2_l), (8, .slice none 0 0), (9, .int .i64 0), (10, .pointer (some ⟨b1, 0, none⟩)), (11, v7), (12, .int .i64 n0_2), (13, .int .i64 at_), (14, .int .i64 k), (15, .pointer (some ⟨blkOf (vals1 10), 0, none⟩)), (37, .int .i64 k), (38, v2_l), (39, .int .i64 (l.length : Int)), (40, .bool (decide (k < (l.length : Int)))), (43, .int .i64 at_), (44, .int .i64 n0_2), (45, .bool (decide (at_ < n0_2))), (48, .int .i64 at_), (49, .int .i64 n0_2), (50, .bool (decide (at_ > n0_2))), (51, .pointer (some ⟨b1, 0, none⟩)), (52, .pointer (some ⟨b1, 0, none⟩)), (53, .pointer (some ⟨b1, 0, none⟩)), (55, .int .i64 at_), (56, v2_l), (57, .int .i64 k), (58, .pointer (some ⟨blkOf v2_l, oofOf v2_l + (k).toNat * 4, none⟩)), (59, .agg #[.int .i64 (((l.getD (k).toNat default).batch).client), .int .i64 (((l.getD (k).toNat default).batch).req), u1, .int .u64 ((l.getD (k).toNat default).ts)]), (60, .agg #[.int .i64 o.batch.client, .int .i64 o.batch.req, (aggAt (vals1 9) 2), .int .u64 o.ts]), (61, .int .i64 at_), (62, .pointer (some ⟨b1, 0, none⟩)), (63, .pointer (some ⟨b1, 0, none⟩)), (64, .pointer (some ⟨b1, 0, none⟩)), (66, .int .i64 (log.l.length : Int)), (67, .bool (decide (at_ ≥ (log.l.length : Int)))), (68, .bool (decide (at_ ≥ (log.l.length : Int)))), (79, .bool x), (80, .bool x_2), (92, .bool x_3)] a' ∧ (∃ I2, Hf I D w I2 w' [OEref17_Log b1 log_3, BxC (blkOf (vals1 10)) 34 (cEEntry o (aggAt (vals1 9) 2)), SlC NEOp (aggAt (vals1 9) 2) o.batch.ops, SlC NEOp u1 (((l.getD (k).toNat default).batch).ops), SlC NEEntry v2_l l, OwC NENote 54 v7 out_4]) ∧ F_ref18_Take_k4 n0_2 at_ k rc out_4 x x_2 x_3 log_3 = some rr) ?_ ?_
        ·rintro a w8 ⟨out_4, x, x_2, x_3, log_3, v7, Z, ⟨I8, H⟩, hF⟩
         unfold F_ref18_Take_k4 at hF
         try dsimp only at hF
         refine wp_seq ?_
         obtain ⟨hg4, hF⟩ := chk_in hF
         refine f_region Z ?_; clear Z; intro Z
         refine s_runk tAd4 Z 1 rfl rfl ?_; clear Z a; intro a Z
         refine s_ob Z (v := .int .i64 (n0_2 + 1)) rfl rfl (by decide) rfl (Ob_add rfl rfl rfl (wrI hg4)) ?_; clear Z a; intro a Z
         refine s_runk tAd4 Z 1 rfl rfl ?_; clear Z a; intro a Z
         refine s_end Z [3, 8, 9, 10, 11, 12, 13, 14, 15, 37, 38, 39, 40, 43, 44, 45, 48, 49, 50, 51, 52, 53, 55, 56, 57, 58, 59, 60, 61, 62, 63, 64, 66, 67, 68, 79, 80, 92, 104, 105] rfl ?_; clear Z; intro Z
         refine p_then ?_
         obtain ⟨hg5, hF⟩ := chk_in hF
         refine f_region Z ?_; clear Z; intro Z
         refine s_runk tAd4 Z 1 rfl rfl ?_; clear Z a; intro a Z
         refine s_ob Z (v := .int .i64 (at_ + 1)) rfl rfl (by decide) rfl (Ob_add rfl rfl rfl (wrI hg5)) ?_; clear Z a; intro a Z
         refine s_runk tAd4 Z 1 rfl rfl ?_; clear Z a; intro a Z
         refine s_end Z [3, 8, 9, 10, 11, 12, 13, 14, 15, 37, 38, 39, 40, 43, 44, 45, 48, 49, 50, 51, 52, 53, 55, 56, 57, 58, 59, 60, 61, 62, 63, 64, 66, 67, 68, 79, 80, 92, 104, 105, 106, 107] rfl ?_; clear Z; intro Z
         refine p_blk ?_
         refine p_then ?_
         exact ⟨out_4, n0_2 + 1, log_3, v7, Z.sub (ts := [3, 8, 9, 10, 11, 12, 13, 14, 37, 38, 39, 40, 43, 44, 45]) rfl, ⟨I8, (H.sub [(0, false), (3, true), (4, false)] rfl).eq rfl⟩, hF⟩
        ·skip
         refine wp_seq ?_
         obtain ⟨hg6, hF⟩ := chk_in hF
         obtain ⟨_, ⟨u2, rfl, L2⟩, hat1⟩ := H.owElG 1 rfl (at_) (NEEntry.dft _ _)
         replace H : Hf I D w I7 w7 [SlC NEOp u2 (((log.l.getD (at_).toNat default).batch).ops), BxC (blkOf (vals1 10)) 34 (cEEntry o (aggAt (vals1 9) 2)), OwC NEEntry 34 v6 log.l, SlC NEOp (aggAt (vals1 9) 2) o.batch.ops, SlC NEOp u1 (((l.getD (k).toNat default).batch).ops), AtG ((0 : Int) ≤ k ∧ k < (l.length : Int)) (blkOf v2_l) (oofOf v2_l + (k).toNat * 4) [.int .i64 (((l.getD (k).toNat default).batch).client), .int .i64 (((l.getD (k).toNat default).batch).req), u1, .int .u64 ((l.getD (k).toNat default).ts)], BxC b1 64 [v6], SlC NEEntry v2_l l, OwC NENote 54 v4 out_2] := H.addsl L2
         obtain ⟨t, hx4, hF⟩ := bnd_in hF
         obtain ⟨hg7, hF⟩ := chk_in hF
         obtain ⟨_, ⟨u3, rfl, L3⟩, hat2⟩ := H.owElG 2 rfl (at_) (NEEntry.dft _ _)
         replace H : Hf I D w I7 w7 [SlC NEOp u3 (((log.l.getD (at_).toNat default).batch).ops), SlC NEOp u2 (((log.l.getD (at_).toNat default).batch).ops), BxC (blkOf (vals1 10)) 34 (cEEntry o (aggAt (vals1 9) 2)), OwC NEEntry 34 v6 log.l, SlC NEOp (aggAt (vals1 9) 2) o.batch.ops, SlC NEOp u1 (((l.getD (k).toNat default).batch).ops), AtG ((0 : Int) ≤ k ∧ k < (l.length : Int)) (blkOf v2_l) (oofOf v2_l + (k).toNat * 4) [.int .i64 (((l.getD (k).toNat default).batch).client), .int .i64 (((l.getD (k).toNat default).batch).req), u1, .int .u64 ((l.getD (k).toNat default).ts)], BxC b1 64 [v6], SlC NEEntry v2_l l, OwC NENote 54 v4 out_2] := H.addsl L3
         refine f_quietd (by kernel_rfl) (by kernel_rfl) Z ?_; clear Z; intro Z
         refine q_runk tAd4 Z 4 rfl rfl ?_; clear Z a; intro a Z
         refine q_ob Z (v := v6) rfl rfl (by decide) rfl (fun _ hw => Ob_load tAd4 rfl rfl rfl (((H.blw hw).bx 7 rfl).cell 0 rfl)) ?_; clear Z a; intro a Z
         refine q_ob Z (v := .int .i64 (log.l.length : Int)) rfl rfl (by decide) rfl (fun _ hw => Ob_slen tAd4 rfl rfl rfl ((H.blw hw).owshape 3 rfl)) ?_; clear Z a; intro a Z
         refine q_runk tAd4 Z 2 rfl rfl ?_; clear Z a; intro a Z
         refine gq_ob Z (p := (!(decide (at_ ≥ (log.l.length : Int))))) (v := .pointer (some ⟨b1, 0, none⟩)) (S' := [(10, .pointer (some ⟨b1, 0, none⟩))]) rfl rfl rfl (wantB_f _) rfl (by decide) (fun hp hS => hS.sub (ts := [10]) rfl) (fun hp _ hw => Ob_c tAd4 rfl) ?_; clear Z a; intro a Z
         refine gq_ob Z (p := (!(decide (at_ ≥ (log.l.length : Int))))) (v := .pointer (some ⟨b1, 0, none⟩)) (S' := [(69, .pointer (some ⟨b1, 0, none⟩))]) rfl rfl rfl (wantB_f _) rfl (by decide) (fun hp hS => (hS.conv (t := 69) rfl (cond_t hp)).sub (ts := [69]) rfl) (fun hp _ hw => Ob_c tAd4 rfl) ?_; clear Z a; intro a Z
         refine gq_ob Z (p := (!(decide (at_ ≥ (log.l.length : Int))))) (v := .pointer (some ⟨b1, 0, none⟩)) (S' := [(70, .pointer (some ⟨b1, 0, none⟩))]) rfl rfl rfl (wantB_f _) rfl (by decide) (fun hp hS => (hS.conv (t := 70) rfl (cond_t hp)).sub (ts := [70]) rfl) (fun hp _ hw => Ob_c tAd4 rfl) ?_; clear Z a; intro a Z
         refine gq_ob Z (p := (!(decide (at_ ≥ (log.l.length : Int))))) (v := v6) (S' := [(71, .pointer (some ⟨b1, 0, none⟩))]) rfl rfl rfl (wantB_f _) rfl (by decide) (fun hp hS => (hS.conv (t := 71) rfl (cond_t hp)).sub (ts := [71]) rfl) (fun hp _ hw => Ob_load tAd4 rfl rfl rfl (((H.blw hw).bx 7 rfl).cell 0 rfl)) ?_; clear Z a; intro a Z
         refine gq_ob Z (p := (!(decide (at_ ≥ (log.l.length : Int))))) (v := .int .i64 at_) (S' := [(13, .int .i64 at_)]) rfl rfl rfl (wantB_f _) rfl (by decide) (fun hp hS => hS.sub (ts := [13]) rfl) (fun hp _ hw => Ob_c tAd4 rfl) ?_; clear Z a; intro a Z
         refine gq_ob Z (p := (!(decide (at_ ≥ (log.l.length : Int))))) (v := .pointer (some ⟨blkOf v6, oofOf v6 + (at_).toNat * 4, none⟩)) (S' := [(72, v6), (73, .int .i64 at_)]) rfl rfl rfl (wantB_f _) rfl (by decide) (fun hp hS => ((hS.conv (t := 72) rfl (cond_t hp)).conv (t := 73) rfl (cond_t hp)).sub (ts := [72, 73]) rfl) (fun hp _ hw => Ob_sidx tAd4 rfl rfl rfl rfl (slPl ((H.blw hw).owA 3 rfl) (hg6 hp)) (hg6 hp)) ?_; clear Z a; intro a Z
         refine gq_ob Z (p := (!(decide (at_ ≥ (log.l.length : Int))))) (v := .agg #[.int .i64 (((log.l.getD (at_).toNat default).batch).client), .int .i64 (((log.l.getD (at_).toNat default).batch).req), u2, .int .u64 ((log.l.getD (at_).toNat default).ts)]) (S' := [(74, .pointer (some ⟨blkOf v6, oofOf v6 + (at_).toNat * 4, none⟩))]) rfl rfl rfl (wantB_f _) rfl (by decide) (fun hp hS => (hS.conv (t := 74) rfl (cond_t hp)).sub (ts := [74]) rfl) (fun hp _ hw => Ob_loads tAd4 rfl rfl rfl (((hat1 (hg6 hp)).blw hw).part 0 rfl)) ?_; clear Z a; intro a Z
         refine gq_ob Z (p := (!(decide (at_ ≥ (log.l.length : Int))))) (v := .agg #[.int .i64 o.batch.client, .int .i64 o.batch.req, (aggAt (vals1 9) 2), .int .u64 o.ts]) (S' := [(15, .pointer (some ⟨blkOf (vals1 10), 0, none⟩))]) rfl rfl rfl (wantB_f _) rfl (by decide) (fun hp hS => hS.sub (ts := [15]) rfl) (fun hp _ hw => Ob_loads tAd4 rfl rfl rfl (((H.blw hw).bx 2 rfl).part 0 rfl)) ?_; clear Z a; intro a Z
         refine gq_call Z (p := (!(decide (at_ ≥ (log.l.length : Int))))) (v := .bool t) (S' := [(75, .agg #[.int .i64 (((log.l.getD (at_).toNat default).batch).client), .int .i64 (((log.l.getD (at_).toNat default).batch).req), u2, .int .u64 ((log.l.getD (at_).toNat default).ts)]), (76, .agg #[.int .i64 o.batch.client, .int .i64 o.batch.req, (aggAt (vals1 9) 2), .int .u64 o.ts])]) (caps := #[]) fn_19_YAd4 rfl rfl rfl (wantB_f _) rfl (by decide) (fun hp hS => ((hS.conv (t := 75) rfl (cond_t hp)).conv (t := 76) rfl (cond_t hp)).sub (ts := [75, 76]) rfl) rfl rfl rfl rfl (fun hp _ hw => (have hq := c_ref08_Twins (gif_in hx4 hp) (((H.blw hw)).pick0 (js := [(1, true), (4, true)]) rfl rfl); plainC hq)) ?_; clear Z a; intro a Z
         refine gq_ob Z (p := (!(decide (at_ ≥ (log.l.length : Int))))) (v := .bool (!t)) (S' := [(77, .bool t)]) rfl rfl rfl (wantB_f _) rfl (by decide) (fun hp hS => (hS.conv (t := 77) rfl (cond_t hp)).sub (ts := [77]) rfl) (fun hp _ hw => Ob_c tAd4 rfl) ?_; clear Z a; intro a Z
         refine q_ob Z (v := .bool ((decide (at_ ≥ (log.l.length : Int))) || (!t))) rfl rfl (by decide) rfl (fun _ hw => Ob_pick rfl rfl rfl rfl (pick_or _ _)) ?_; clear Z a; intro a Z
         refine q_runk tAd4 Z 1 rfl rfl ?_; clear Z a; intro a Z
         refine gq_ob Z (p := (!((decide (at_ ≥ (log.l.length : Int))) || (!t)))) (v := .pointer (some ⟨b1, 0, none⟩)) (S' := [(10, .pointer (some ⟨b1, 0, none⟩))]) rfl rfl rfl (wantB_f _) rfl (by decide) (fun hp hS => hS.sub (ts := [10]) rfl) (fun hp _ hw => Ob_c tAd4 rfl) ?_; clear Z a; intro a Z
         refine gq_ob Z (p := (!((decide (at_ ≥ (log.l.length : Int))) || (!t)))) (v := .pointer (some ⟨b1, 0, none⟩)) (S' := [(81, .pointer (some ⟨b1, 0, none⟩))]) rfl rfl rfl (wantB_f _) rfl (by decide) (fun hp hS => (hS.conv (t := 81) rfl (cond_t hp)).sub (ts := [81]) rfl) (fun hp _ hw => Ob_c tAd4 rfl) ?_; clear Z a; intro a Z
         refine gq_ob Z (p := (!((decide (at_ ≥ (log.l.length : Int))) || (!t)))) (v := .pointer (some ⟨b1, 0, none⟩)) (S' := [(82, .pointer (some ⟨b1, 0, none⟩))]) rfl rfl rfl (wantB_f _) rfl (by decide) (fun hp hS => (hS.conv (t := 82) rfl (cond_t hp)).sub (ts := [82]) rfl) (fun hp _ hw => Ob_c tAd4 rfl) ?_; clear Z a; intro a Z
         refine gq_ob Z (p := (!((decide (at_ ≥ (log.l.length : Int))) || (!t)))) (v := v6) (S' := [(83, .pointer (some ⟨b1, 0, none⟩))]) rfl rfl rfl (wantB_f _) rfl (by decide) (fun hp hS => (hS.conv (t := 83) rfl (cond_t hp)).sub (ts := [83]) rfl) (fun hp _ hw => Ob_load tAd4 rfl rfl rfl (((H.blw hw).bx 7 rfl).cell 0 rfl)) ?_; clear Z a; intro a Z
         refine gq_ob Z (p := (!((decide (at_ ≥ (log.l.length : Int))) || (!t)))) (v := .int .i64 at_) (S' := [(13, .int .i64 at_)]) rfl rfl rfl (wantB_f _) rfl (by decide) (fun hp hS => hS.sub (ts := [13]) rfl) (fun hp _ hw => Ob_c tAd4 rfl) ?_; clear Z a; intro a Z
         refine gq_ob Z (p := (!((decide (at_ ≥ (log.l.length : Int))) || (!t)))) (v := .pointer (some ⟨blkOf v6, oofOf v6 + (at_).toNat * 4, none⟩)) (S' := [(84, v6), (85, .int .i64 at_)]) rfl rfl rfl (wantB_f _) rfl (by decide) (fun hp hS => ((hS.conv (t := 84) rfl (cond_t hp)).conv (t := 85) rfl (cond_t hp)).sub (ts := [84, 85]) rfl) (fun hp _ hw => Ob_sidx tAd4 rfl rfl rfl rfl (slPl ((H.blw hw).owA 3 rfl) (hg7 hp)) (hg7 hp)) ?_; clear Z a; intro a Z
         refine gq_ob Z (p := (!((decide (at_ ≥ (log.l.length : Int))) || (!t)))) (v := .pointer (some ⟨blkOf v6, oofOf v6 + (at_).toNat * 4 + 3, none⟩)) (S' := [(86, .pointer (some ⟨blkOf v6, oofOf v6 + (at_).toNat * 4, none⟩))]) rfl rfl rfl (wantB_f _) rfl (by decide) (fun hp hS => (hS.conv (t := 86) rfl (cond_t hp)).sub (ts := [86]) rfl) (fun hp _ hw => Ob_c tAd4 rfl) ?_; clear Z a; intro a Z
         refine gq_ob Z (p := (!((decide (at_ ≥ (log.l.length : Int))) || (!t)))) (v := .int .u64 ((log.l.getD (at_).toNat default).ts)) (S' := [(87, .pointer (some ⟨blkOf v6, oofOf v6 + (at_).toNat * 4 + 3, none⟩))]) rfl rfl rfl (wantB_f _) rfl (by decide) (fun hp hS => (hS.conv (t := 87) rfl (cond_t hp)).sub (ts := [87]) rfl) (fun hp _ hw => Ob_load tAd4 rfl rfl rfl (((hat2 (hg7 hp)).blw hw) 3 _ rfl)) ?_; clear Z a; intro a Z
         refine gq_ob Z (p := (!((decide (at_ ≥ (log.l.length : Int))) || (!t)))) (v := .pointer (some ⟨blkOf (vals1 10), 3, none⟩)) (S' := [(15, .pointer (some ⟨blkOf (vals1 10), 0, none⟩))]) rfl rfl rfl (wantB_f _) rfl (by decide) (fun hp hS => hS.sub (ts := [15]) rfl) (fun hp _ hw => Ob_c tAd4 rfl) ?_; clear Z a; intro a Z
         refine gq_ob Z (p := (!((decide (at_ ≥ (log.l.length : Int))) || (!t)))) (v := .int .u64 o.ts) (S' := [(89, .pointer (some ⟨blkOf (vals1 10), 3, none⟩))]) rfl rfl rfl (wantB_f _) rfl (by decide) (fun hp hS => (hS.conv (t := 89) rfl (cond_t hp)).sub (ts := [89]) rfl) (fun hp _ hw => Ob_load tAd4 rfl rfl rfl (((H.blw hw).bx 2 rfl).cell 3 rfl)) ?_; clear Z a; intro a Z
         refine gq_ob Z (p := (!((decide (at_ ≥ (log.l.length : Int))) || (!t)))) (v := .bool (((log.l.getD (at_).toNat default).ts) != o.ts)) (S' := [(88, .int .u64 ((log.l.getD (at_).toNat default).ts)), (90, .int .u64 o.ts)]) rfl rfl rfl (wantB_f _) rfl (by decide) (fun hp hS => ((hS.conv (t := 88) rfl (cond_t hp)).conv (t := 90) rfl (cond_t hp)).sub (ts := [88, 90]) rfl) (fun hp _ hw => Ob_c tAd4 rfl) ?_; clear Z a; intro a Z
         refine q_ob Z (v := .bool (((decide (at_ ≥ (log.l.length : Int))) || (!t)) || (((log.l.getD (at_).toNat default).ts) != o.ts))) rfl rfl (by decide) rfl (fun _ hw => Ob_pick rfl rfl rfl rfl (pick_or _ _)) ?_; clear Z a; intro a Z
         refine q_end Z [3, 8, 9, 10, 11, 12, 13, 14, 37, 38, 39, 40, 43, 44, 45, 48, 49, 50, 51, 52, 53, 54, 55, 56, 57, 58, 59, 60, 15, 61, 62, 63, 64, 65, 66, 67, 68, 79, 80, 92] rfl ?_; clear Z; intro w9 hb Z
         replace H : Hf I D w I7 w9 [SlC NEOp u3 (((log.l.getD (at_).toNat default).batch).ops), SlC NEOp u2 (((log.l.getD (at_).toNat default).batch).ops), BxC (blkOf (vals1 10)) 34 (cEEntry o (aggAt (vals1 9) 2)), OwC NEEntry 34 v6 log.l, SlC NEOp (aggAt (vals1 9) 2) o.batch.ops, SlC NEOp u1 (((l.getD (k).toNat default).batch).ops), AtG ((0 : Int) ≤ k ∧ k < (l.length : Int)) (blkOf v2_l) (oofOf v2_l + (k).toNat * 4) [.int .i64 (((l.getD (k).toNat default).batch).client), .int .i64 (((l.getD (k).toNat default).batch).req), u1, .int .u64 ((l.getD (k).toNat default).ts)], BxC b1 64 [v6], SlC NEEntry v2_l l, OwC NENote 54 v4 out_2] := H.blw hb
         clear hb
         refine p_then ?_
         refine f_cond Z rfl (fun hc5 => ?_) (fun hc5 => ?_)
         ·replace hF := ite_t hc5 hF
          refine wp_seq ?_
          refine wp_seq ?_
          obtain ⟨s0, hx5, hF⟩ := bnd_in hF
          refine f_region Z ?_; clear Z; intro Z
          refine s_runk tAd4 Z 2 rfl rfl ?_; clear Z a; intro a Z
          refine s_ob Z (v := .agg #[.int .i64 o.batch.client, .int .i64 o.batch.req, (aggAt (vals1 9) 2), .int .u64 o.ts]) rfl rfl (by decide) rfl (Ob_loads tAd4 rfl rfl rfl ((H.bx 2 rfl).part 0 rfl)) ?_; clear Z a; intro a Z
          replace H : Hf I D w I7 w9 [OEref17_Log b1 log, SlC NEOp u3 (((log.l.getD (at_).toNat default).batch).ops), SlC NEOp u2 (((log.l.getD (at_).toNat default).batch).ops), BxC (blkOf (vals1 10)) 34 (cEEntry o (aggAt (vals1 9) 2)), SlC NEOp (aggAt (vals1 9) 2) o.batch.ops, SlC NEOp u1 (((l.getD (k).toNat default).batch).ops), AtG ((0 : Int) ≤ k ∧ k < (l.length : Int)) (blkOf v2_l) (oofOf v2_l + (k).toNat * 4) [.int .i64 (((l.getD (k).toNat default).batch).client), .int .i64 (((l.getD (k).toNat default).batch).req), u1, .int .u64 ((l.getD (k).toNat default).ts)], SlC NEEntry v2_l l, OwC NENote 54 v4 out_2] := H.shutX (v6) [(7, false), (3, false)] rfl
          refine h_call Z H (js := [(0, false), (3, true)]) rfl (caps := #[]) fn_24_YAd4 rfl rfl rfl rfl rfl (by decide) rfl rfl (fun D1 hS => have hq := c_ref17_Log_Set hx5 hS; hq) ?_; clear Z a; intro vv a w10 D2 hr hF2 Z
          obtain ⟨rfl, I9, K⟩ := hr
          have H : Hf I D w I9 w10 [OEref17_Log b1 s0.2, SlC NEOp u3 (((log.l.getD (at_).toNat default).batch).ops), SlC NEOp u2 (((log.l.getD (at_).toNat default).batch).ops), BxC (blkOf (vals1 10)) 34 (cEEntry o (aggAt (vals1 9) 2)), SlC NEOp (aggAt (vals1 9) 2) o.batch.ops, SlC NEOp u1 (((l.getD (k).toNat default).batch).ops), AtG ((0 : Int) ≤ k ∧ k < (l.length : Int)) (blkOf v2_l) (oofOf v2_l + (k).toNat * 4) [.int .i64 (((l.getD (k).toNat default).batch).client), .int .i64 (((l.getD (k).toNat default).batch).req), u1, .int .u64 ((l.getD (k).toNat default).ts)], SlC NEEntry v2_l l, OwC NENote 54 v4 out_2] := hF2 K
          clear hF2 K
          refine s_runk tAd4 Z 1 rfl rfl ?_; clear Z a; intro a Z
          refine s_end Z [3, 8, 9, 10, 11, 12, 13, 14, 37, 38, 39, 40, 43, 44, 45, 48, 49, 50, 51, 52, 53, 54, 55, 56, 57, 58, 59, 60, 15, 61, 62, 63, 64, 65, 66, 67, 68, 79, 80, 92, 93, 94, 95, 96, 97] rfl ?_; clear Z; intro Z
          refine p_then ?_
          refine f_cond Z rfl (fun hc6 => ?_) (fun hc6 => ?_)
          ·replace hF := ite_t hc6 hF
           refine wp_exit ?_
           refine p_then_x ?_
           refine p_then_x ?_
           refine f_exit_out (by decide) ?_
           refine p_then_x ?_
           refine p_then_x ?_
           refine f_exit_here ?_
           refine p_then ?_
           exact ⟨out_2, n0_2, v4, Z.sub (ts := [8, 9, 11, 12]) rfl, ⟨I9, (H.sub [(8, false)] rfl).eq rfl⟩, hF⟩
          ·replace hF := ite_f hc6 hF
           refine wp_skip ?_
           refine p_then ?_
           obtain ⟨hg8, hF⟩ := chk_in hF
           refine f_region Z ?_; clear Z; intro Z
           refine s_runk tAd4 Z 2 rfl rfl ?_; clear Z a; intro a Z
           refine s_ob Z (v := .agg #[.int .i64 o.batch.client, .int .i64 o.batch.req, (aggAt (vals1 9) 2), .int .u64 o.ts]) rfl rfl (by decide) rfl (Ob_loads tAd4 rfl rfl rfl ((H.bx 3 rfl).part 0 rfl)) ?_; clear Z a; intro a Z
           refine s_ob Z (v := .agg #[.int .i64 2, .int .i64 at_, .int .u64 0, .int .i64 0, .slice none 0 0, .int .u64 0, .slice none 0 0, .int .i64 o.batch.client, .int .i64 o.batch.req, (aggAt (vals1 9) 2), .int .u64 o.ts, .int .i64 0, .int .u64 0, .int .i64 0, .int .i64 0, .int .i64 0, .int .i64 0, .int .i64 0]) rfl rfl (by decide) rfl (Ob_build (vs := [(0, .int .i64 2), (1, .int .i64 at_), (5, .agg #[.int .i64 o.batch.client, .int .i64 o.batch.req, (aggAt (vals1 9) 2), .int .u64 o.ts])]) rfl rfl (by go_simp <;> rfl)) ?_; clear Z a; intro a Z
           refine h_bslice Z H (vs := [(0, .agg #[.int .i64 2, .int .i64 at_, .int .u64 0, .int .i64 0, .slice none 0 0, .int .u64 0, .slice none 0 0, .int .i64 o.batch.client, .int .i64 o.batch.req, (aggAt (vals1 9) 2), .int .u64 o.ts, .int .i64 0, .int .u64 0, .int .i64 0, .int .i64 0, .int .i64 0, .int .i64 0, .int .i64 0])]) (cl := [.int .i64 2, .int .i64 at_, .int .u64 0, .int .i64 0, .slice none 0 0, .int .u64 0, .slice none 0 0, .int .i64 o.batch.client, .int .i64 o.batch.req, (aggAt (vals1 9) 2), .int .u64 o.ts, .int .i64 0, .int .u64 0, .int .i64 0, .int .i64 0, .int .i64 0, .int .i64 0, .int .i64 0]) (e := 54) rfl rfl rfl (by decide) rfl rfl (fun w => run_bslice (z := .agg #[.int .i64 0, .int .i64 0, .int .u64 0, .int .i64 0, .slice none 0 0, .int .u64 0, .slice none 0 0, .int .i64 0, .int .i64 0, .slice none 0 0, .int .u64 0, .int .i64 0, .int .u64 0, .int .i64 0, .int .i64 0, .int .i64 0, .int .i64 0, .int .i64 0]) (m := 18) Try.underlying25 (by kernel_rfl) rfl rfl (by decide) (by simp [Instr.fill, Value.cells]) w) ?_; clear Z a H; intro a w11 b2 H Z
           replace H : Hf I D w I9 w11 [SlC NEMember (.slice none 0 0) ([] : List EMember), BxC b2 54 [.int .i64 2, .int .i64 at_, .int .u64 0, .int .i64 0, .slice none 0 0, .int .u64 0, .slice none 0 0, .int .i64 o.batch.client, .int .i64 o.batch.req, (aggAt (vals1 9) 2), .int .u64 o.ts, .int .i64 0, .int .u64 0, .int .i64 0, .int .i64 0, .int .i64 0, .int .i64 0, .int .i64 0], OEref17_Log b1 s0.2, SlC NEOp u3 (((log.l.getD (at_).toNat default).batch).ops), SlC NEOp u2 (((log.l.getD (at_).toNat default).batch).ops), BxC (blkOf (vals1 10)) 34 (cEEntry o (aggAt (vals1 9) 2)), SlC NEOp (aggAt (vals1 9) 2) o.batch.ops, SlC NEOp u1 (((l.getD (k).toNat default).batch).ops), AtG ((0 : Int) ≤ k ∧ k < (l.length : Int)) (blkOf v2_l) (oofOf v2_l + (k).toNat * 4) [.int .i64 (((l.getD (k).toNat default).batch).client), .int .i64 (((l.getD (k).toNat default).batch).req), u1, .int .u64 ((l.getD (k).toNat default).ts)], SlC NEEntry v2_l l, OwC NENote 54 v4 out_2] := H.slNil NEMember
           replace H : Hf I D w I9 w11 [SlC Ni64 (.slice none 0 0) ([] : List Int), SlC NEMember (.slice none 0 0) ([] : List EMember), BxC b2 54 [.int .i64 2, .int .i64 at_, .int .u64 0, .int .i64 0, .slice none 0 0, .int .u64 0, .slice none 0 0, .int .i64 o.batch.client, .int .i64 o.batch.req, (aggAt (vals1 9) 2), .int .u64 o.ts, .int .i64 0, .int .u64 0, .int .i64 0, .int .i64 0, .int .i64 0, .int .i64 0, .int .i64 0], OEref17_Log b1 s0.2, SlC NEOp u3 (((log.l.getD (at_).toNat default).batch).ops), SlC NEOp u2 (((log.l.getD (at_).toNat default).batch).ops), BxC (blkOf (vals1 10)) 34 (cEEntry o (aggAt (vals1 9) 2)), SlC NEOp (aggAt (vals1 9) 2) o.batch.ops, SlC NEOp u1 (((l.getD (k).toNat default).batch).ops), AtG ((0 : Int) ≤ k ∧ k < (l.length : Int)) (blkOf v2_l) (oofOf v2_l + (k).toNat * 4) [.int .i64 (((l.getD (k).toNat default).batch).client), .int .i64 (((l.getD (k).toNat default).batch).req), u1, .int .u64 ((l.getD (k).toNat default).ts)], SlC NEEntry v2_l l, OwC NENote 54 v4 out_2] := H.slNil Ni64
           refine h_appO Z H 11 E_25_YAd4 [({ (default : ENote) with k := 2, n := at_, entry := o } : ENote)] rfl rfl rfl rfl rfl (by decide) rfl rfl rfl (slRep2.box1 (H.bx 2 rfl) ⟨_, _, _, rfl, (H.sl 1 rfl), (H.sl 0 rfl), (H.sl 7 rfl)⟩) hg8 (by decide) ?_; clear Z a H; intro v8 a w12 H Z
           dsimp only [List.eraseIdx] at H
           replace H : Hf I D w I9 w12 [OwC NENote 54 v8 (out_2 ++ [({ (default : ENote) with k := 2, n := at_, entry := o } : ENote)]), SlC Ni64 (.slice none 0 0) ([] : List Int), SlC NEMember (.slice none 0 0) ([] : List EMember), OEref17_Log b1 s0.2, SlC NEOp u3 (((log.l.getD (at_).toNat default).batch).ops), SlC NEOp u2 (((log.l.getD (at_).toNat default).batch).ops), BxC (blkOf (vals1 10)) 34 (cEEntry o (aggAt (vals1 9) 2)), SlC NEOp (aggAt (vals1 9) 2) o.batch.ops, SlC NEOp u1 (((l.getD (k).toNat default).batch).ops), AtG ((0 : Int) ≤ k ∧ k < (l.length : Int)) (blkOf v2_l) (oofOf v2_l + (k).toNat * 4) [.int .i64 (((l.getD (k).toNat default).batch).client), .int .i64 (((l.getD (k).toNat default).batch).req), u1, .int .u64 ((l.getD (k).toNat default).ts)], SlC NEEntry v2_l l] := H.sub [(0, false), (0, true), (1, true), (3, false), (3, true), (4, true), (5, false), (5, true), (6, true), (7, true), (8, true)] rfl
           refine s_runk tAd4 Z 1 rfl rfl ?_; clear Z a; intro a Z
           refine s_end Z [3, 8, 9, 10, 11, 12, 13, 14, 37, 38, 39, 40, 43, 44, 45, 48, 49, 50, 51, 52, 53, 54, 55, 56, 57, 58, 59, 60, 15, 61, 62, 63, 64, 65, 66, 67, 68, 79, 80, 92, 93, 94, 95, 96, 97, 98, 99, 100, 101, 102, 103] rfl ?_; clear Z; intro Z
           refine p_then ?_
           exact ⟨out_2 ++ [({ (default : ENote) with k := 2, n := at_, entry := o } : ENote)], (decide (at_ ≥ (log.l.length : Int))) || (!t), (decide (at_ ≥ (log.l.length : Int))) || (!t), ((decide (at_ ≥ (log.l.length : Int))) || (!t)) || (((log.l.getD (at_).toNat default).ts) != o.ts), s0.2, v8, Z.sub (ts := [3, 8, 9, 10, 11, 12, 13, 14, 15, 37, 38, 39, 40, 43, 44, 45, 48, 49, 50, 51, 52, 53, 55, 56, 57, 58, 59, 60, 61, 62, 63, 64, 66, 67, 68, 79, 80, 92]) rfl, ⟨I9, (H.sub [(3, false), (5, false), (5, true), (6, true), (8, true), (0, false)] rfl).eq rfl⟩, hF⟩
         ·replace hF := ite_f hc5 hF
          refine wp_skip ?_
          refine p_then ?_
          replace H : Hf I D w I7 w9 [OEref17_Log b1 log, SlC NEOp u3 (((log.l.getD (at_).toNat default).batch).ops), SlC NEOp u2 (((log.l.getD (at_).toNat default).batch).ops), BxC (blkOf (vals1 10)) 34 (cEEntry o (aggAt (vals1 9) 2)), SlC NEOp (aggAt (vals1 9) 2) o.batch.ops, SlC NEOp u1 (((l.getD (k).toNat default).batch).ops), AtG ((0 : Int) ≤ k ∧ k < (l.length : Int)) (blkOf v2_l) (oofOf v2_l + (k).toNat * 4) [.int .i64 (((l.getD (k).toNat default).batch).client), .int .i64 (((l.getD (k).toNat default).batch).req), u1, .int .u64 ((l.getD (k).toNat default).ts)], SlC NEEntry v2_l l, OwC NENote 54 v4 out_2] := H.shutX (v6) [(7, false), (3, false)] rfl
          exact ⟨out_2, (decide (at_ ≥ (log.l.length : Int))) || (!t), (decide (at_ ≥ (log.l.length : Int))) || (!t), ((decide (at_ ≥ (log.l.length : Int))) || (!t)) || (((log.l.getD (at_).toNat default).ts) != o.ts), log, v4, Z.sub (ts := [3, 8, 9, 10, 11, 12, 13, 14, 15, 37, 38, 39, 40, 43, 44, 45, 48, 49, 50, 51, 52, 53, 55, 56, 57, 58, 59, 60, 61, 62, 63, 64, 66, 67, 68, 79, 80, 92]) rfl, ⟨I7, (H.sub [(0, false), (2, false), (2, true), (3, true), (5, true), (6, false)] rfl).eq rfl⟩, hF⟩
   ·replace hF := ite_f hc2 hF
    refine wp_exit ?_
    refine p_then_x ?_
    refine p_then_x ?_
    refine f_exit_here ?_
    refine p_then ?_
    exact ⟨out_2, n0_2, v4, Z.sub (ts := [8, 9, 11, 12]) rfl, ⟨I5, (H.sub [(2, false)] rfl).eq rfl⟩, hF⟩

def F_ref18_Base_l1 (own : List EEntry) (other : List EEntry) (rc : Int → Option Int) (sg : Int) : Option Int := match sg with | n0 => chk (((decide (n0 < (own.length : Int))) && (decide (n0 < (other.length : Int)))) = true → (0 : Int) ≤ n0 ∧ n0 < (own.length : Int)) (chk (((decide (n0 < (own.length : Int))) && (decide (n0 < (other.length : Int)))) = true → (0 : Int) ≤ n0 ∧ n0 < (other.length : Int)) ((gif ((decide (n0 < (own.length : Int))) && (decide (n0 < (other.length : Int)))) (F_ref08_Twins ({ (own.getD (n0).toNat default) with batch := ({ client := ((own.getD (n0).toNat default).batch).client, req := ((own.getD (n0).toNat default).batch).req, ops := ((own.getD (n0).toNat default).batch).ops } : EBatch) } : EEntry) ({ (other.getD (n0).toNat default) with batch := ({ client := ((other.getD (n0).toNat default).batch).client, req := ((other.getD (n0).toNat default).batch).req, ops := ((other.getD (n0).toNat default).batch).ops } : EBatch) } : EEntry)) default).bind fun t => (if (((decide (n0 < (own.length : Int))) && (decide (n0 < (other.length : Int)))) && t) = true then (chk (inI (n0 + 1)) (rc (n0 + 1))) else (some n0))))

def F_ref18_Base (own : List EEntry) (other : List EEntry) : Option Int := iter (F_ref18_Base_l1 own other) FU 0

set_option maxHeartbeats 1000000 in
theorem c_ref18_Base {I D : Dm} {own : List EEntry} {v1_own : Value} {other : List EEntry} {v2_other : Value} {w : World} {rr : Int} (hF : F_ref18_Base own other = some rr) (H : St I D w [SlC NEEntry v1_own own, SlC NEEntry v2_other other]) :
  Calls Try.prog 16 #[v1_own, v2_other] w (Ret fun vv w' => vv = .int .i64 rr ∧ ∃ I', Hf I D w I' w' []) := by
 replace H := H.hf
 unfold F_ref18_Base at hF
 refine f_enter 30 Try.func16 rfl rfl (Nat.le_of_ble_eq_true rfl) fun a Z => ?_
 replace Z := Z.sub (ts := [0, 1]) rfl
 refine wp_seq (f_region Z ?_); clear Z; intro Z
 refine s_runk tAd4 Z 1 rfl rfl ?_; clear Z a; intro a Z
 refine s_end Z [0, 1, 4] rfl ?_; clear Z; intro Z
 refine p_then (wp_seq (f_region Z ?_)); clear Z; intro Z
 refine s_runk tAd4 Z 1 rfl rfl ?_; clear Z a; intro a Z
 refine s_end Z [0, 1, 4, 5] rfl ?_; clear Z; intro Z
 refine p_then (wp_seq ?_)
 refine wp_block ?_
 refine f_iter hF (fun sg a' w' => match sg with | n0 => Sl 30 [(0, v1_own), (1, v2_other), (4, .int .i64 0), (5, .int .i64 n0)] a' ∧ ∃ I2, Hf I D w I2 w' [SlC NEEntry v1_own own, SlC NEEntry v2_other other]) ⟨Z.sub (ts := [0, 1, 4, 5]) rfl, ⟨I, (H.sub [(0, true), (1, true)] rfl).eq rfl⟩⟩ ?_
 clear Z H hF a
 rintro rc n0 a w1 ⟨Z, I1, H⟩ hF
 unfold F_ref18_Base_l1 at hF
 try dsimp only at hF
 refine wp_seq ?_
 refine wp_seq ?_
 obtain ⟨hg1, hF⟩ := chk_in hF
 obtain ⟨_, ⟨u1, rfl, L1⟩, H⟩ := H.elG 0 rfl (n0) (NEEntry.dft _ _)
 replace H := H.addsl L1
 replace H : Hf I D w I1 w1 [SlC NEOp u1 (((own.getD (n0).toNat default).batch).ops), AtG ((0 : Int) ≤ n0 ∧ n0 < (own.length : Int)) (blkOf v1_own) (oofOf v1_own + (n0).toNat * 4) [.int .i64 (((own.getD (n0).toNat default).batch).client), .int .i64 (((own.getD (n0).toNat default).batch).req), u1, .int .u64 ((own.getD (n0).toNat default).ts)], SlC NEEntry v1_own own, SlC NEEntry v2_other other] := H
 obtain ⟨hg2, hF⟩ := chk_in hF
 obtain ⟨_, ⟨u2, rfl, L2⟩, H⟩ := H.elG 3 rfl (n0) (NEEntry.dft _ _)
 replace H := H.addsl L2
 replace H : Hf I D w I1 w1 [SlC NEOp u2 (((other.getD (n0).toNat default).batch).ops), AtG ((0 : Int) ≤ n0 ∧ n0 < (other.length : Int)) (blkOf v2_other) (oofOf v2_other + (n0).toNat * 4) [.int .i64 (((other.getD (n0).toNat default).batch).client), .int .i64 (((other.getD (n0).toNat default).batch).req), u2, .int .u64 ((other.getD (n0).toNat default).ts)], SlC NEOp u1 (((own.getD (n0).toNat default).batch).ops), AtG ((0 : Int) ≤ n0 ∧ n0 < (own.length : Int)) (blkOf v1_own) (oofOf v1_own + (n0).toNat * 4) [.int .i64 (((own.getD (n0).toNat default).batch).client), .int .i64 (((own.getD (n0).toNat default).batch).req), u1, .int .u64 ((own.getD (n0).toNat default).ts)], SlC NEEntry v1_own own, SlC NEEntry v2_other other] := H
 obtain ⟨t, hx1, hF⟩ := bnd_in hF
 refine f_quietd (by kernel_rfl) (by kernel_rfl) Z ?_; clear Z; intro Z
 refine q_runk tAd4 Z 2 rfl rfl ?_; clear Z a; intro a Z
 refine q_ob Z (v := .int .i64 (own.length : Int)) rfl rfl (by decide) rfl (fun _ hw => Ob_slen tAd4 rfl rfl rfl ((H.blw hw).slshape 4 rfl)) ?_; clear Z a; intro a Z
 refine q_runk tAd4 Z 2 rfl rfl ?_; clear Z a; intro a Z
 refine gq_ob Z (p := (decide (n0 < (own.length : Int)))) (v := .int .i64 n0) (S' := [(5, .int .i64 n0)]) rfl rfl rfl (wantB_t _) rfl (by decide) (fun hp hS => hS.sub (ts := [5]) rfl) (fun hp _ hw => Ob_c tAd4 rfl) ?_; clear Z a; intro a Z
 refine gq_ob Z (p := (decide (n0 < (own.length : Int)))) (v := v2_other) (S' := [(1, v2_other)]) rfl rfl rfl (wantB_t _) rfl (by decide) (fun hp hS => hS.sub (ts := [1]) rfl) (fun hp _ hw => Ob_c tAd4 rfl) ?_; clear Z a; intro a Z
 refine gq_ob Z (p := (decide (n0 < (own.length : Int)))) (v := .int .i64 (other.length : Int)) (S' := [(12, v2_other)]) rfl rfl rfl (wantB_t _) rfl (by decide) (fun hp hS => (hS.conv (t := 12) rfl (cond_t hp)).sub (ts := [12]) rfl) (fun hp _ hw => Ob_slen tAd4 rfl rfl rfl ((H.blw hw).slshape 5 rfl)) ?_; clear Z a; intro a Z
 refine gq_ob Z (p := (decide (n0 < (own.length : Int)))) (v := .bool (decide (n0 < (other.length : Int)))) (S' := [(11, .int .i64 n0), (13, .int .i64 (other.length : Int))]) rfl rfl rfl (wantB_t _) rfl (by decide) (fun hp hS => ((hS.conv (t := 11) rfl (cond_t hp)).conv (t := 13) rfl (cond_t hp)).sub (ts := [11, 13]) rfl) (fun hp _ hw => Ob_c tAd4 rfl) ?_; clear Z a; intro a Z
 refine q_ob Z (v := .bool ((decide (n0 < (own.length : Int))) && (decide (n0 < (other.length : Int))))) rfl rfl (by decide) rfl (fun _ hw => Ob_pick rfl rfl rfl rfl (pick_and _ _)) ?_; clear Z a; intro a Z
 refine q_runk tAd4 Z 1 rfl rfl ?_; clear Z a; intro a Z
 refine gq_ob Z (p := ((decide (n0 < (own.length : Int))) && (decide (n0 < (other.length : Int))))) (v := v1_own) (S' := [(0, v1_own)]) rfl rfl rfl (wantB_t _) rfl (by decide) (fun hp hS => hS.sub (ts := [0]) rfl) (fun hp _ hw => Ob_c tAd4 rfl) ?_; clear Z a; intro a Z
 refine gq_ob Z (p := ((decide (n0 < (own.length : Int))) && (decide (n0 < (other.length : Int))))) (v := .int .i64 n0) (S' := [(5, .int .i64 n0)]) rfl rfl rfl (wantB_t _) rfl (by decide) (fun hp hS => hS.sub (ts := [5]) rfl) (fun hp _ hw => Ob_c tAd4 rfl) ?_; clear Z a; intro a Z
 refine gq_ob Z (p := ((decide (n0 < (own.length : Int))) && (decide (n0 < (other.length : Int))))) (v := .pointer (some ⟨blkOf v1_own, oofOf v1_own + (n0).toNat * 4, none⟩)) (S' := [(17, v1_own), (18, .int .i64 n0)]) rfl rfl rfl (wantB_t _) rfl (by decide) (fun hp hS => ((hS.conv (t := 17) rfl (cond_t hp)).conv (t := 18) rfl (cond_t hp)).sub (ts := [17, 18]) rfl) (fun hp _ hw => Ob_sidx tAd4 rfl rfl rfl rfl (slPl ((H.blw hw).sl 4 rfl) (hg1 hp)) (hg1 hp)) ?_; clear Z a; intro a Z
 refine gq_ob Z (p := ((decide (n0 < (own.length : Int))) && (decide (n0 < (other.length : Int))))) (v := .agg #[.int .i64 (((own.getD (n0).toNat default).batch).client), .int .i64 (((own.getD (n0).toNat default).batch).req), u1, .int .u64 ((own.getD (n0).toNat default).ts)]) (S' := [(19, .pointer (some ⟨blkOf v1_own, oofOf v1_own + (n0).toNat * 4, none⟩))]) rfl rfl rfl (wantB_t _) rfl (by decide) (fun hp hS => (hS.conv (t := 19) rfl (cond_t hp)).sub (ts := [19]) rfl) (fun hp _ hw => Ob_loads tAd4 rfl rfl rfl (((H.blw hw).atg 3 rfl (hg1 hp)).part 0 rfl)) ?_; clear Z a; intro a Z
 refine gq_ob Z (p := ((decide (n0 < (own.length : Int))) && (decide (n0 < (other.length : Int))))) (v := v2_other) (S' := [(1, v2_other)]) rfl rfl rfl (wantB_t _) rfl (by decide) (fun hp hS => hS.sub (ts := [1]) rfl) (fun hp _ hw => Ob_c tAd4 rfl) ?_; clear Z a; intro a Z
 refine gq_ob Z (p := ((decide (n0 < (own.length : Int))) && (decide (n0 < (other.length : Int))))) (v := .int .i64 n0) (S' := [(5, .int .i64 n0)]) rfl rfl rfl (wantB_t _) rfl (by decide) (fun hp hS => hS.sub (ts := [5]) rfl) (fun hp _ hw => Ob_c tAd4 rfl) ?_; clear Z a; intro a Z
 refine gq_ob Z (p := ((decide (n0 < (own.length : Int))) && (decide (n0 < (other.length : Int))))) (v := .pointer (some ⟨blkOf v2_other, oofOf v2_other + (n0).toNat * 4, none⟩)) (S' := [(21, v2_other), (22, .int .i64 n0)]) rfl rfl rfl (wantB_t _) rfl (by decide) (fun hp hS => ((hS.conv (t := 21) rfl (cond_t hp)).conv (t := 22) rfl (cond_t hp)).sub (ts := [21, 22]) rfl) (fun hp _ hw => Ob_sidx tAd4 rfl rfl rfl rfl (slPl ((H.blw hw).sl 5 rfl) (hg2 hp)) (hg2 hp)) ?_; clear Z a; intro a Z
 refine gq_ob Z (p := ((decide (n0 < (own.length : Int))) && (decide (n0 < (other.length : Int))))) (v := .agg #[.int .i64 (((other.getD (n0).toNat default).batch).client), .int .i64 (((other.getD (n0).toNat default).batch).req), u2, .int .u64 ((other.getD (n0).toNat default).ts)]) (S' := [(23, .pointer (some ⟨blkOf v2_other, oofOf v2_other + (n0).toNat * 4, none⟩))]) rfl rfl rfl (wantB_t _) rfl (by decide) (fun hp hS => (hS.conv (t := 23) rfl (cond_t hp)).sub (ts := [23]) rfl) (fun hp _ hw => Ob_loads tAd4 rfl rfl rfl (((H.blw hw).atg 1 rfl (hg2 hp)).part 0 rfl)) ?_; clear Z a; intro a Z
 refine gq_call Z (p := ((decide (n0 < (own.length : Int))) && (decide (n0 < (other.length : Int))))) (v := .bool t) (S' := [(20, .agg #[.int .i64 (((own.getD (n0).toNat default).batch).client), .int .i64 (((own.getD (n0).toNat default).batch).req), u1, .int .u64 ((own.getD (n0).toNat default).ts)]), (24, .agg #[.int .i64 (((other.getD (n0).toNat default).batch).client), .int .i64 (((other.getD (n0).toNat default).batch).req), u2, .int .u64 ((other.getD (n0).toNat default).ts)])]) (caps := #[]) fn_19_YAd4 rfl rfl rfl (wantB_t _) rfl (by decide) (fun hp hS => ((hS.conv (t := 20) rfl (cond_t hp)).conv (t := 24) rfl (cond_t hp)).sub (ts := [20, 24]) rfl) rfl rfl rfl rfl (fun hp _ hw => (have hq := c_ref08_Twins (gif_in hx1 hp) (((H.blw hw)).pick0 (js := [(2, true), (0, true)]) rfl rfl); plainC hq)) ?_; clear Z a; intro a Z
 refine q_ob Z (v := .bool (((decide (n0 < (own.length : Int))) && (decide (n0 < (other.length : Int)))) && t)) rfl rfl (by decide) rfl (fun _ hw => Ob_pick rfl rfl rfl rfl (pick_and _ _)) ?_; clear Z a; intro a Z
 refine q_end Z [0, 1, 4, 5, 6, 7, 8, 9, 10, 15, 16, 26] rfl ?_; clear Z; intro w2 hb Z
 replace H : Hf I D w I1 w2 [SlC NEOp u2 (((other.getD (n0).toNat default).batch).ops), AtG ((0 : Int) ≤ n0 ∧ n0 < (other.length : Int)) (blkOf v2_other) (oofOf v2_other + (n0).toNat * 4) [.int .i64 (((other.getD (n0).toNat default).batch).client), .int .i64 (((other.getD (n0).toNat default).batch).req), u2, .int .u64 ((other.getD (n0).toNat default).ts)], SlC NEOp u1 (((own.getD (n0).toNat default).batch).ops), AtG ((0 : Int) ≤ n0 ∧ n0 < (own.length : Int)) (blkOf v1_own) (oofOf v1_own + (n0).toNat * 4) [.int .i64 (((own.getD (n0).toNat default).batch).client), .int .i64 (((own.getD (n0).toNat default).batch).req), u1, .int .u64 ((own.getD (n0).toNat default).ts)], SlC NEEntry v1_own own, SlC NEEntry v2_other other] := H.blw hb
 clear hb
 refine p_then ?_
 refine f_cond Z rfl (fun hc1 => ?_) (fun hc1 => ?_)
 ·replace hF := ite_t hc1 hF
  refine wp_skip ?_
  refine p_then (wp_block ?_)
  obtain ⟨hg3, hF⟩ := chk_in hF
  refine f_region Z ?_; clear Z; intro Z
  refine s_runk tAd4 Z 1 rfl rfl ?_; clear Z a; intro a Z
  refine s_ob Z (v := .int .i64 (n0 + 1)) rfl rfl (by decide) rfl (Ob_add rfl rfl rfl (wrI hg3)) ?_; clear Z a; intro a Z
  refine s_runk tAd4 Z 1 rfl rfl ?_; clear Z a; intro a Z
  refine s_end Z [0, 1, 4, 5, 6, 7, 8, 9, 10, 15, 16, 26, 27, 28] rfl ?_; clear Z; intro Z
  refine p_blk ?_
  refine p_then ?_
  exact ⟨(n0 + 1), ⟨Z.sub (ts := [0, 1, 4, 5]) rfl, ⟨I1, (H.sub [(4, true), (5, true)] rfl).eq rfl⟩⟩, hF⟩
 ·replace hF := ite_f hc1 hF
  refine wp_exit ?_
  refine p_then_x ?_
  refine p_then_x ?_
  refine f_exit_here ?_
  refine p_then (wp_seq (f_region Z ?_)); clear Z; intro Z
  refine s_runk tAd4 Z 2 rfl rfl ?_; clear Z a; intro a Z
  refine s_end Z [4] rfl ?_; clear Z; intro Z
  refine p_then (wp_ret ?_)
  obtain rfl := some_in hF
  exact f_ret Z (run_results1 rfl Z rfl) ⟨rfl, I1, (H.sub [] rfl).eq rfl⟩

end Go.Proofs.Ytdofpehcojboeaa
