/- What is adopted: the program's. -/
import Derived.Test.YtmdoimpeacndaaaYAd
namespace Go.Proofs.Ytmdoimpeacndaaa
open Go.RowKit
def OEEntry (b : Nat) (x : EEntry) : Ch := ExC fun (p : Value) => [BxC b 57 (cEEntry x p), SlC NEOp p x.batch.ops]

def tAd5L : TabL := ⟨[(58369, 3)], [], [], [(22, (57, 4)), (45, (82, 18))], [(24, (1, false)), (57, (4, true))]⟩

def tAd5 : Tab Try.prog := ⟨tAd5L, by kernel_rfl⟩

theorem fn_47_YAd5 : IsFn Try.prog 47 := ⟨_, Try.func47, by kernel_rfl, by kernel_rfl⟩

theorem fn_48_YAd5 : IsFn Try.prog 48 := ⟨_, Try.func48, by kernel_rfl, by kernel_rfl⟩

theorem fn_62_YAd5 : IsFn Try.prog 62 := ⟨_, Try.func62, by kernel_rfl, by kernel_rfl⟩

theorem fn_63_YAd5 : IsFn Try.prog 63 := ⟨_, Try.func63, by kernel_rfl, by kernel_rfl⟩

theorem fn_64_YAd5 : IsFn Try.prog 64 := ⟨_, Try.func64, by kernel_rfl, by kernel_rfl⟩

theorem fn_65_YAd5 : IsFn Try.prog 65 := ⟨_, Try.func65, by kernel_rfl, by kernel_rfl⟩

theorem fn_66_YAd5 : IsFn Try.prog 66 := ⟨_, Try.func66, by kernel_rfl, by kernel_rfl⟩

theorem fn_67_YAd5 : IsFn Try.prog 67 := ⟨_, Try.func67, by kernel_rfl, by kernel_rfl⟩

theorem fn_71_YAd5 : IsFn Try.prog 71 := ⟨_, Try.func71, by kernel_rfl, by kernel_rfl⟩

theorem fn_72_YAd5 : IsFn Try.prog 72 := ⟨_, Try.func72, by kernel_rfl, by kernel_rfl⟩

theorem fn_73_YAd5 : IsFn Try.prog 73 := ⟨_, Try.func73, by kernel_rfl, by kernel_rfl⟩

theorem fn_74_YAd5 : IsFn Try.prog 74 := ⟨_, Try.func74, by kernel_rfl, by kernel_rfl⟩

theorem fn_75_YAd5 : IsFn Try.prog 75 := ⟨_, Try.func75, by kernel_rfl, by kernel_rfl⟩

theorem E_45_YAd5 : Elem Try.prog 45 82 18 192 := ⟨Try.underlying45, by
 have h : (Try.prog.info? 82).map (fun i => (i.zero, i.size, i.bytes)) = some (some (.agg #[.int .i64 0, .int .i64 0, .int .u64 0, .int .i64 0, .slice none 0 0, .int .u64 0, .slice none 0 0, .int .i64 0, .int .i64 0, .slice none 0 0, .int .u64 0, .int .i64 0, .int .u64 0, .int .i64 0, .int .i64 0, .int .i64 0, .int .i64 0, .int .i64 0]), 18, 192) := by kernel_rfl
 obtain ⟨i, hi, h1⟩ := Option.map_eq_some_iff.1 h
 simp only [Prod.mk.injEq] at h1
 exact ⟨i, _, hi, h1.1, h1.2.1, h1.2.2, by rfl⟩, by decide⟩

@[reducible] def M_118 : MapE (List Int) Bool := ⟨fun k => .agg #[.int .i64 (k.getD 0 0), .int .i64 (k.getD 1 0)], fun v => .bool v, fun k => k.length = 2 ∧ inI (k.getD 0 0) ∧ inI (k.getD 1 0), fun a b ha hb h => inj_pair ha.1 hb.1 (by simp at h; exact h)⟩

theorem MF_118 : MapF Try.prog 118 M_118 false := ⟨121, 4, Go.deep_law_gate (by kernel_rfl) (of_decide_eq_true (by kernel_rfl)) (of_decide_eq_true (by kernel_rfl)) (by kernel_rfl) (by rw [Try.underlying121]), fun a h => by exact ⟨_, Go.WideMaps.keyOf_pair ⟨Try.underlying121, by kernel_rfl, by kernel_rfl, by kernel_rfl⟩ Try.underlying3 ⟨_, (by kernel_rfl : Try.prog.types.size = 154 + 1)⟩ (Lit_wfI h.2.1) (Lit_wfI h.2.2)⟩, Try.underlying118, run_zero0 (by kernel_rfl)⟩

def F_adopt_One_k1 (own : List EEntry) (i : Int) (x_ts : Int) : Option EEntry := some ({ batch := ({ client := ((own.getD (i).toNat default).batch).client, req := ((own.getD (i).toNat default).batch).req, ops := ((own.getD (i).toNat default).batch).ops } : EBatch), ts := x_ts } : EEntry)

def F_adopt_One (own : List EEntry) (i : Int) (e : EEntry) : Option EEntry := chk ((!((decide (i < 0)) || (decide (i ≥ (own.length : Int))))) = true → (0 : Int) ≤ i ∧ i < (own.length : Int)) ((gif (!((decide (i < 0)) || (decide (i ≥ (own.length : Int))))) (F_item_Twins ({ (own.getD (i).toNat default) with batch := ({ client := ((own.getD (i).toNat default).batch).client, req := ((own.getD (i).toNat default).batch).req, ops := ((own.getD (i).toNat default).batch).ops } : EBatch) } : EEntry) e) default).bind fun t => (if (((decide (i < 0)) || (decide (i ≥ (own.length : Int)))) || (!t)) = true then (some e) else (chk ((0 : Int) ≤ i ∧ i < (own.length : Int)) (if (e.ts != 0) = true then (F_adopt_One_k1 own i e.ts) else (F_adopt_One_k1 own i ((own.getD (i).toNat default).ts))))))

set_option maxHeartbeats 1000000 in
theorem c_adopt_One {I D : Dm} {own : List EEntry} {v1_own : Value} {i : Int} {e : EEntry} {v2_e : Value} {w : World} {rr : EEntry} (hF : F_adopt_One own i e = some rr) (H : St I D w [SlC NEEntry v1_own own, SlC NEOp v2_e e.batch.ops]) :
  Calls Try.prog 66 #[v1_own, .int .i64 i, .agg #[.int .i64 e.batch.client, .int .i64 e.batch.req, v2_e, .int .u64 e.ts]] w (Ret fun vv w' => ∃ q1 : Value, vv = .agg #[.int .i64 rr.batch.client, .int .i64 rr.batch.req, q1, .int .u64 rr.ts] ∧ ∃ I', Hf I D w I' w' [SlC NEOp q1 rr.batch.ops]) := by
 replace H := H.hf
 unfold F_adopt_One at hF
 refine f_enter 37 Try.func66 rfl rfl (Nat.le_of_ble_eq_true rfl) fun a Z => ?_
 replace Z := Z.sub (ts := [0, 1, 2]) rfl
 refine wp_seq (f_region Z ?_); clear Z; intro Z
 refine h_boxv Z H (cl := [.int .i64 e.batch.client, .int .i64 e.batch.req, v2_e, .int .u64 e.ts]) rfl rfl rfl (by decide) rfl rfl rfl ?_; clear Z a H; intro a w1 b1 H Z
 refine h_alloc Z H (cl := [.int .i64 0, .int .i64 0, .slice none 0 0, .int .u64 0]) (z := .agg #[.int .i64 0, .int .i64 0, .slice none 0 0, .int .u64 0]) rfl rfl rfl (by decide) rfl (by kernel_rfl) rfl ?_; clear Z a H; intro a w2 b2 H Z
 refine s_end Z [0, 1, 5, 6] rfl ?_; clear Z; intro Z
 refine p_then (wp_seq ?_)
 refine wp_seq ?_
 obtain ⟨hg1, hF⟩ := chk_in hF
 obtain ⟨_, ⟨u1, rfl, L1⟩, H⟩ := H.elG 2 rfl (i) (NEEntry.dft _ _)
 replace H := H.addsl L1
 replace H : Hf I D w I w2 [SlC NEOp u1 (((own.getD (i).toNat default).batch).ops), AtG ((0 : Int) ≤ i ∧ i < (own.length : Int)) (blkOf v1_own) (oofOf v1_own + (i).toNat * 4) [.int .i64 (((own.getD (i).toNat default).batch).client), .int .i64 (((own.getD (i).toNat default).batch).req), u1, .int .u64 ((own.getD (i).toNat default).ts)], BxC b2 57 [.int .i64 0, .int .i64 0, .slice none 0 0, .int .u64 0], BxC b1 57 (cEEntry e v2_e), SlC NEEntry v1_own own, SlC NEOp v2_e e.batch.ops] := H
 obtain ⟨t, hx1, hF⟩ := bnd_in hF
 refine f_quietd (by kernel_rfl) (by kernel_rfl) Z ?_; clear Z; intro Z
 refine q_runk tAd5 Z 3 rfl rfl ?_; clear Z a; intro a Z
 refine gq_ob Z (p := (!(decide (i < 0)))) (v := .int .i64 i) (S' := [(1, .int .i64 i)]) rfl rfl rfl (wantB_f _) rfl (by decide) (fun hp hS => hS.sub (ts := [1]) rfl) (fun hp _ hw => Ob_c tAd5 rfl) ?_; clear Z a; intro a Z
 refine gq_ob Z (p := (!(decide (i < 0)))) (v := v1_own) (S' := [(0, v1_own)]) rfl rfl rfl (wantB_f _) rfl (by decide) (fun hp hS => hS.sub (ts := [0]) rfl) (fun hp _ hw => Ob_c tAd5 rfl) ?_; clear Z a; intro a Z
 refine gq_ob Z (p := (!(decide (i < 0)))) (v := .int .i64 (own.length : Int)) (S' := [(12, v1_own)]) rfl rfl rfl (wantB_f _) rfl (by decide) (fun hp hS => (hS.conv (t := 12) rfl (cond_t hp)).sub (ts := [12]) rfl) (fun hp _ hw => Ob_slen tAd5 rfl rfl rfl ((H.blw hw).slshape 4 rfl)) ?_; clear Z a; intro a Z
 refine gq_ob Z (p := (!(decide (i < 0)))) (v := .bool (decide (i ≥ (own.length : Int)))) (S' := [(11, .int .i64 i), (13, .int .i64 (own.length : Int))]) rfl rfl rfl (wantB_f _) rfl (by decide) (fun hp hS => ((hS.conv (t := 11) rfl (cond_t hp)).conv (t := 13) rfl (cond_t hp)).sub (ts := [11, 13]) rfl) (fun hp _ hw => Ob_c tAd5 rfl) ?_; clear Z a; intro a Z
 refine q_ob Z (v := .bool ((decide (i < 0)) || (decide (i ≥ (own.length : Int))))) rfl rfl (by decide) rfl (fun _ hw => Ob_pick rfl rfl rfl rfl (pick_or _ _)) ?_; clear Z a; intro a Z
 refine q_runk tAd5 Z 1 rfl rfl ?_; clear Z a; intro a Z
 refine gq_ob Z (p := (!((decide (i < 0)) || (decide (i ≥ (own.length : Int)))))) (v := v1_own) (S' := [(0, v1_own)]) rfl rfl rfl (wantB_f _) rfl (by decide) (fun hp hS => hS.sub (ts := [0]) rfl) (fun hp _ hw => Ob_c tAd5 rfl) ?_; clear Z a; intro a Z
 refine gq_ob Z (p := (!((decide (i < 0)) || (decide (i ≥ (own.length : Int)))))) (v := .int .i64 i) (S' := [(1, .int .i64 i)]) rfl rfl rfl (wantB_f _) rfl (by decide) (fun hp hS => hS.sub (ts := [1]) rfl) (fun hp _ hw => Ob_c tAd5 rfl) ?_; clear Z a; intro a Z
 refine gq_ob Z (p := (!((decide (i < 0)) || (decide (i ≥ (own.length : Int)))))) (v := .pointer (some ⟨blkOf v1_own, oofOf v1_own + (i).toNat * 4, none⟩)) (S' := [(17, v1_own), (18, .int .i64 i)]) rfl rfl rfl (wantB_f _) rfl (by decide) (fun hp hS => ((hS.conv (t := 17) rfl (cond_t hp)).conv (t := 18) rfl (cond_t hp)).sub (ts := [17, 18]) rfl) (fun hp _ hw => Ob_sidx tAd5 rfl rfl rfl rfl (slPl ((H.blw hw).sl 4 rfl) (hg1 hp)) (hg1 hp)) ?_; clear Z a; intro a Z
 refine gq_ob Z (p := (!((decide (i < 0)) || (decide (i ≥ (own.length : Int)))))) (v := .agg #[.int .i64 (((own.getD (i).toNat default).batch).client), .int .i64 (((own.getD (i).toNat default).batch).req), u1, .int .u64 ((own.getD (i).toNat default).ts)]) (S' := [(19, .pointer (some ⟨blkOf v1_own, oofOf v1_own + (i).toNat * 4, none⟩))]) rfl rfl rfl (wantB_f _) rfl (by decide) (fun hp hS => (hS.conv (t := 19) rfl (cond_t hp)).sub (ts := [19]) rfl) (fun hp _ hw => Ob_loads tAd5 rfl rfl rfl (((H.blw hw).atg 1 rfl (hg1 hp)).part 0 rfl)) ?_; clear Z a; intro a Z
 refine gq_ob Z (p := (!((decide (i < 0)) || (decide (i ≥ (own.length : Int)))))) (v := .agg #[.int .i64 e.batch.client, .int .i64 e.batch.req, v2_e, .int .u64 e.ts]) (S' := [(5, .pointer (some ⟨b1, 0, none⟩))]) rfl rfl rfl (wantB_f _) rfl (by decide) (fun hp hS => hS.sub (ts := [5]) rfl) (fun hp _ hw => Ob_loads tAd5 rfl rfl rfl (((H.blw hw).bx 3 rfl).part 0 rfl)) ?_; clear Z a; intro a Z
 refine gq_call Z (p := (!((decide (i < 0)) || (decide (i ≥ (own.length : Int)))))) (v := .bool t) (S' := [(20, .agg #[.int .i64 (((own.getD (i).toNat default).batch).client), .int .i64 (((own.getD (i).toNat default).batch).req), u1, .int .u64 ((own.getD (i).toNat default).ts)]), (21, .agg #[.int .i64 e.batch.client, .int .i64 e.batch.req, v2_e, .int .u64 e.ts])]) (caps := #[]) fn_67_YAd5 rfl rfl rfl (wantB_f _) rfl (by decide) (fun hp hS => ((hS.conv (t := 20) rfl (cond_t hp)).conv (t := 21) rfl (cond_t hp)).sub (ts := [20, 21]) rfl) rfl rfl rfl rfl (fun hp _ hw => (have hq := c_item_Twins (gif_in hx1 hp) (((H.blw hw)).pick0 (js := [(0, true), (5, true)]) rfl rfl); plainC hq)) ?_; clear Z a; intro a Z
 refine gq_ob Z (p := (!((decide (i < 0)) || (decide (i ≥ (own.length : Int)))))) (v := .bool (!t)) (S' := [(22, .bool t)]) rfl rfl rfl (wantB_f _) rfl (by decide) (fun hp hS => (hS.conv (t := 22) rfl (cond_t hp)).sub (ts := [22]) rfl) (fun hp _ hw => Ob_c tAd5 rfl) ?_; clear Z a; intro a Z
 refine q_ob Z (v := .bool (((decide (i < 0)) || (decide (i ≥ (own.length : Int)))) || (!t))) rfl rfl (by decide) rfl (fun _ hw => Ob_pick rfl rfl rfl rfl (pick_or _ _)) ?_; clear Z a; intro a Z
 refine q_end Z [0, 1, 5, 6, 24] rfl ?_; clear Z; intro w3 hb Z
 replace H : Hf I D w I w3 [SlC NEOp u1 (((own.getD (i).toNat default).batch).ops), AtG ((0 : Int) ≤ i ∧ i < (own.length : Int)) (blkOf v1_own) (oofOf v1_own + (i).toNat * 4) [.int .i64 (((own.getD (i).toNat default).batch).client), .int .i64 (((own.getD (i).toNat default).batch).req), u1, .int .u64 ((own.getD (i).toNat default).ts)], BxC b2 57 [.int .i64 0, .int .i64 0, .slice none 0 0, .int .u64 0], BxC b1 57 (cEEntry e v2_e), SlC NEEntry v1_own own, SlC NEOp v2_e e.batch.ops] := H.blw hb
 clear hb
 refine p_then ?_
 refine f_cond Z rfl (fun hc1 => ?_) (fun hc1 => ?_)
 ·replace hF := ite_t hc1 hF
  refine wp_seq (f_region Z ?_); clear Z; intro Z
  refine s_ob Z (v := .agg #[.int .i64 e.batch.client, .int .i64 e.batch.req, v2_e, .int .u64 e.ts]) rfl rfl (by decide) rfl (Ob_loads tAd5 rfl rfl rfl ((H.bx 3 rfl).part 0 rfl)) ?_; clear Z a; intro a Z
  refine h_store tAd5 Z H 2 rfl rfl rfl rfl rfl rfl rfl rfl rfl (one_cons rfl (one_cons rfl (one_cons (slS.one (H.slshape 5 rfl)) (one_cons rfl one_nil)))) (Nat.le_of_ble_eq_true rfl) rfl ?_; clear H; intro w4 H
  dsimp only [List.eraseIdx] at H
  refine s_end Z [0, 1, 5, 6] rfl ?_; clear Z; intro Z
  refine p_then (wp_ret ?_)
  refine p_then_r ?_
  obtain rfl := some_in hF
  exact f_ret Z (run_resultsC rfl Z rfl (run_loadVar_agg tAd5 rfl (H.bx 0 rfl).at)) ⟨v2_e, rfl, I, (H.sub [(5, true)] rfl).eq rfl⟩
 ·replace hF := ite_f hc1 hF
  refine wp_skip ?_
  refine p_then (wp_seq ?_)
  obtain ⟨hg2, hF⟩ := chk_in hF
  refine f_region Z ?_; clear Z; intro Z
  refine s_runk tAd5 Z 2 rfl rfl ?_; clear Z a; intro a Z
  refine s_ob Z (v := .pointer (some ⟨blkOf v1_own, oofOf v1_own + (i).toNat * 4, none⟩)) rfl rfl (by decide) rfl (Ob_sidx tAd5 rfl rfl rfl rfl (slPl (H.sl 4 rfl) hg2) hg2) ?_; clear Z a; intro a Z
  obtain ⟨_, ⟨u2, rfl, L2⟩, H⟩ := H.elG 4 rfl (i) (NEEntry.dft _ _)
  replace H := H.addsl L2
  replace H : Hf I D w I w3 [SlC NEOp u2 (((own.getD (i).toNat default).batch).ops), AtG ((0 : Int) ≤ i ∧ i < (own.length : Int)) (blkOf v1_own) (oofOf v1_own + (i).toNat * 4) [.int .i64 (((own.getD (i).toNat default).batch).client), .int .i64 (((own.getD (i).toNat default).batch).req), u2, .int .u64 ((own.getD (i).toNat default).ts)], SlC NEOp u1 (((own.getD (i).toNat default).batch).ops), AtG ((0 : Int) ≤ i ∧ i < (own.length : Int)) (blkOf v1_own) (oofOf v1_own + (i).toNat * 4) [.int .i64 (((own.getD (i).toNat default).batch).client), .int .i64 (((own.getD (i).toNat default).batch).req), u1, .int .u64 ((own.getD (i).toNat default).ts)], BxC b2 57 [.int .i64 0, .int .i64 0, .slice none 0 0, .int .u64 0], BxC b1 57 (cEEntry e v2_e), SlC NEEntry v1_own own, SlC NEOp v2_e e.batch.ops] := H
  refine s_ob Z (v := .agg #[.int .i64 (((own.getD (i).toNat default).batch).client), .int .i64 (((own.getD (i).toNat default).batch).req), u2, .int .u64 ((own.getD (i).toNat default).ts)]) rfl rfl (by decide) rfl (Ob_loads tAd5 rfl rfl rfl ((H.atg 1 rfl hg2).part 0 rfl)) ?_; clear Z a; intro a Z
  refine h_alloc Z H (cl := [.int .i64 0, .int .i64 0, .slice none 0 0, .int .u64 0]) (z := .agg #[.int .i64 0, .int .i64 0, .slice none 0 0, .int .u64 0]) rfl rfl rfl (by decide) rfl (by kernel_rfl) rfl ?_; clear Z a H; intro a w5 b3 H Z
  refine h_store tAd5 Z H 0 rfl rfl rfl rfl rfl rfl rfl rfl rfl (one_cons rfl (one_cons rfl (one_cons (slS.one (H.slshape 1 rfl)) (one_cons rfl one_nil)))) (Nat.le_of_ble_eq_true rfl) rfl ?_; clear H; intro w6 H
  dsimp only [List.eraseIdx] at H
  refine s_end Z [5, 6, 7] rfl ?_; clear Z; intro Z
  refine p_then ?_
  refine f_cut (fun a' w' => ∃ (x_ts : Int), Sl 37 [(6, .pointer (some ⟨b2, 0, none⟩)), (7, .pointer (some ⟨b3, 0, none⟩))] a' ∧ (∃ I2, Hf I D w I2 w' [BxC b2 57 [.int .i64 0, .int .i64 0, .slice none 0 0, .int .u64 0], BxC b3 57 [.int .i64 (((own.getD (i).toNat default).batch).client), .int .i64 (((own.getD (i).toNat default).batch).req), u2, .int .u64 x_ts], SlC NEOp u2 (((own.getD (i).toNat default).batch).ops)]) ∧ F_adopt_One_k1 own i x_ts = some rr) ?_ ?_
  ·rintro a w7 ⟨x_ts, Z, ⟨I1, H⟩, hF⟩
   unfold F_adopt_One_k1 at hF
   try dsimp only at hF
   refine wp_seq (f_region Z ?_); clear Z; intro Z
   refine s_ob Z (v := .agg #[.int .i64 (((own.getD (i).toNat default).batch).client), .int .i64 (((own.getD (i).toNat default).batch).req), u2, .int .u64 x_ts]) rfl rfl (by decide) rfl (Ob_loads tAd5 rfl rfl rfl ((H.bx 1 rfl).part 0 rfl)) ?_; clear Z a; intro a Z
   refine h_store tAd5 Z H 0 rfl rfl rfl rfl rfl rfl rfl rfl rfl (one_cons rfl (one_cons rfl (one_cons (slS.one (H.slshape 2 rfl)) (one_cons rfl one_nil)))) (Nat.le_of_ble_eq_true rfl) rfl ?_; clear H; intro w8 H
   dsimp only [List.eraseIdx] at H
   refine s_end Z [6] rfl ?_; clear Z; intro Z
   refine p_then (wp_ret ?_)
   obtain rfl := some_in hF
   exact f_ret Z (run_resultsC rfl Z rfl (run_loadVar_agg tAd5 rfl (H.bx 0 rfl).at)) ⟨u2, rfl, I1, (H.sub [(2, true)] rfl).eq rfl⟩
  ·skip
   refine wp_seq (f_region Z ?_); clear Z; intro Z
   refine s_runk tAd5 Z 1 rfl rfl ?_; clear Z a; intro a Z
   refine s_ob Z (v := .int .u64 e.ts) rfl rfl (by decide) rfl (Ob_load tAd5 rfl rfl rfl ((H.bx 6 rfl).cell 3 rfl)) ?_; clear Z a; intro a Z
   refine s_runk tAd5 Z 1 rfl rfl ?_; clear Z a; intro a Z
   refine s_end Z [5, 6, 7, 32] rfl ?_; clear Z; intro Z
   refine p_then ?_
   refine f_cond Z rfl (fun hc2 => ?_) (fun hc2 => ?_)
   ·replace hF := ite_t hc2 hF
    refine f_region Z ?_; clear Z; intro Z
    refine s_runk tAd5 Z 1 rfl rfl ?_; clear Z a; intro a Z
    refine s_ob Z (v := .int .u64 e.ts) rfl rfl (by decide) rfl (Ob_load tAd5 rfl rfl rfl ((H.bx 6 rfl).cell 3 rfl)) ?_; clear Z a; intro a Z
    refine s_runk tAd5 Z 1 rfl rfl ?_; clear Z a; intro a Z
    refine h_store tAd5 Z H 0 rfl rfl rfl rfl rfl rfl rfl rfl rfl (one_cons rfl one_nil) (Nat.le_of_ble_eq_true rfl) rfl ?_; clear H; intro w9 H
    dsimp only [List.eraseIdx] at H
    refine s_end Z [6, 7] rfl ?_; clear Z; intro Z
    refine p_then ?_
    exact ⟨e.ts, Z.sub (ts := [6, 7]) rfl, ⟨I, (H.sub [(5, false), (0, false), (0, true)] rfl).eq rfl⟩, hF⟩
   ·replace hF := ite_f hc2 hF
    refine wp_skip ?_
    refine p_then ?_
    exact ⟨(own.getD (i).toNat default).ts, Z.sub (ts := [6, 7]) rfl, ⟨I, (H.sub [(5, false), (0, false), (0, true)] rfl).eq rfl⟩, hF⟩

def F_item_follows (ahead : Int) (ts : Int) : Option Bool := some ((ts == 0) || ((ahead != 0) && (decide (ahead < ts))))

set_option maxHeartbeats 1000000 in
theorem c_item_follows {I D : Dm} {ahead : Int} {ts : Int} {w : World} {rr : Bool} (hF : F_item_follows ahead ts = some rr) (H : St I D w []) :
  Calls Try.prog 73 #[.int .u64 ahead, .int .u64 ts] w (Ret fun vv w' => vv = .bool rr ∧ ∃ I', Hf I D w I' w' []) := by
 replace H := H.hf
 unfold F_item_follows at hF
 refine f_enter 16 Try.func73 rfl rfl (Nat.le_of_ble_eq_true rfl) fun a Z => ?_
 replace Z := Z.sub (ts := [0, 1]) rfl
 refine wp_seq (f_region Z ?_); clear Z; intro Z
 refine s_runk tAd5 Z 1 rfl rfl ?_; clear Z a; intro a Z
 refine s_end Z [0, 1, 4] rfl ?_; clear Z; intro Z
 refine p_then (wp_seq (f_region Z ?_)); clear Z; intro Z
 refine s_runk tAd5 Z 3 rfl rfl ?_; clear Z a; intro a Z
 refine g_ob Z (p := (!(ts == 0))) (v := .int .u64 ahead) (S' := [(0, .int .u64 ahead)]) rfl rfl rfl (wantB_f _) rfl (by decide) (fun hp hS => hS.sub (ts := [0]) rfl) (fun hp => Ob_c tAd5 rfl) ?_; clear Z a; intro a Z
 refine g_ob Z (p := (!(ts == 0))) (v := .bool (ahead != 0)) (S' := [(8, .int .u64 ahead)]) rfl rfl rfl (wantB_f _) rfl (by decide) (fun hp hS => (hS.conv (t := 8) rfl (cond_t hp)).sub (ts := [8]) rfl) (fun hp => Ob_c tAd5 rfl) ?_; clear Z a; intro a Z
 refine g_ob Z (p := (!(ts == 0))) (v := .bool (ahead != 0)) (S' := [(9, .bool (ahead != 0))]) rfl rfl rfl (wantB_f _) rfl (by decide) (fun hp hS => (hS.conv (t := 9) rfl (cond_t hp)).sub (ts := [9]) rfl) (fun hp => Ob_c tAd5 rfl) ?_; clear Z a; intro a Z
 refine g_ob Z (p := ((!(ts == 0)) && (ahead != 0))) (v := .int .u64 ahead) (S' := [(0, .int .u64 ahead)]) rfl rfl rfl (wantB_ct _ _) rfl (by decide) (fun hp hS => hS.sub (ts := [0]) rfl) (fun hp => Ob_c tAd5 rfl) ?_; clear Z a; intro a Z
 refine g_ob Z (p := ((!(ts == 0)) && (ahead != 0))) (v := .int .u64 ts) (S' := [(1, .int .u64 ts)]) rfl rfl rfl (wantB_ct _ _) rfl (by decide) (fun hp hS => hS.sub (ts := [1]) rfl) (fun hp => Ob_c tAd5 rfl) ?_; clear Z a; intro a Z
 refine g_ob Z (p := ((!(ts == 0)) && (ahead != 0))) (v := .bool (decide (ahead < ts))) (S' := [(11, .int .u64 ahead), (12, .int .u64 ts)]) rfl rfl rfl (wantB_ct _ _) rfl (by decide) (fun hp hS => ((hS.conv (t := 11) rfl (cond_t hp)).conv (t := 12) rfl (cond_t hp)).sub (ts := [11, 12]) rfl) (fun hp => Ob_c tAd5 rfl) ?_; clear Z a; intro a Z
 refine g_ob Z (p := (!(ts == 0))) (v := .bool ((ahead != 0) && (decide (ahead < ts)))) (S' := [(10, .bool (ahead != 0)), (13, cond ((!(ts == 0)) && (ahead != 0)) (.bool (decide (ahead < ts))) undef)]) rfl rfl rfl (wantB_f _) rfl (by decide) (fun hp hS => (hS.conv (t := 10) rfl (cond_t hp)).sub (ts := [10, 13]) rfl) (fun hp => Ob_pick rfl rfl rfl rfl (pick_andp _ _ hp)) ?_; clear Z a; intro a Z
 refine s_ob Z (v := .bool ((ts == 0) || ((ahead != 0) && (decide (ahead < ts))))) rfl rfl (by decide) rfl (Ob_pick rfl rfl rfl rfl (pick_or _ _)) ?_; clear Z a; intro a Z
 refine s_runk tAd5 Z 1 rfl rfl ?_; clear Z a; intro a Z
 refine s_end Z [4] rfl ?_; clear Z; intro Z
 refine p_then (wp_ret ?_)
 obtain rfl := some_in hF
 exact f_ret Z (run_results1 rfl Z rfl) ⟨rfl, I, (H.sub [] rfl).eq rfl⟩

def F_item_Right_l1 (l : List EEntry) (rc : (Int × (List (List Int × Bool))) → Option Int) (sg : Int × (List (List Int × Bool))) : Option Int := match sg with | (x, seen) => if (decide (x < (l.length : Int))) = true then (chk ((0 : Int) ≤ x ∧ x < (l.length : Int)) ((F_item_Check ({ (l.getD (x).toNat default) with batch := ({ client := ((l.getD (x).toNat default).batch).client, req := ((l.getD (x).toNat default).batch).req, ops := ((l.getD (x).toNat default).batch).ops } : EBatch) } : EEntry)).bind fun c => (if (c != 0) = true then (some c) else ((F_item_of ({ (l.getD (x).toNat default) with batch := ({ client := ((l.getD (x).toNat default).batch).client, req := ((l.getD (x).toNat default).batch).req, ops := ((l.getD (x).toNat default).batch).ops } : EBatch) } : EEntry)).bind fun o => (chk (o.length = 2 ∧ inI (o.getD 0 0) ∧ inI (o.getD 1 0)) (chk (((!((mget seen o).getD false)) && (decide (x > 0))) = true → inI (x - 1)) (chk (((!((mget seen o).getD false)) && (decide (x > 0))) = true → (0 : Int) ≤ x - 1 ∧ x - 1 < (l.length : Int)) ((gif ((!((mget seen o).getD false)) && (decide (x > 0))) (F_item_follows ((l.getD (x - 1).toNat default).ts) ((l.getD (x).toNat default).ts)) default).bind fun f => (if (((mget seen o).getD false) || ((decide (x > 0)) && (!f))) = true then (some 18) else ((F_item_of ({ (l.getD (x).toNat default) with batch := ({ client := ((l.getD (x).toNat default).batch).client, req := ((l.getD (x).toNat default).batch).req, ops := ((l.getD (x).toNat default).batch).ops } : EBatch) } : EEntry)).bind fun o_2 => (chk (o_2.length = 2 ∧ inI (o_2.getD 0 0) ∧ inI (o_2.getD 1 0)) (chk (inI (x + 1)) (rc (x + 1, mset seen o_2 true)))))))))))))) else (some 0)

def F_item_Right (l : List EEntry) : Option Int := iter (F_item_Right_l1 l) FU (0, ([] : List (List Int × Bool)))

set_option maxHeartbeats 1000000 in
theorem c_item_Right {I D : Dm} {l : List EEntry} {v1_l : Value} {w : World} {rr : Int} (hF : F_item_Right l = some rr) (H : St I D w [SlC NEEntry v1_l l]) :
  Calls Try.prog 62 #[v1_l] w (Ret fun vv w' => vv = .int .i64 rr ∧ ∃ I', Hf I D w I' w' []) := by
 replace H := H.hf
 unfold F_item_Right at hF
 refine f_enter 44 Try.func62 rfl rfl (Nat.le_of_ble_eq_true rfl) fun a Z => ?_
 replace Z := Z.sub (ts := [0]) rfl
 refine wp_seq (f_region Z ?_); clear Z; intro Z
 refine s_runk tAd5 Z 1 rfl rfl ?_; clear Z a; intro a Z
 refine s_end Z [0, 2] rfl ?_; clear Z; intro Z
 refine p_then (wp_seq (f_region Z ?_)); clear Z; intro Z
 refine h_mkmap Z H M_118 rfl rfl rfl (by decide) rfl ?_; clear Z a H; intro a w1 b1 H Z
 refine s_runk tAd5 Z 1 rfl rfl ?_; clear Z a; intro a Z
 refine s_end Z [0, 2, 3] rfl ?_; clear Z; intro Z
 refine p_then (wp_seq ?_)
 refine wp_seq (f_region Z ?_); clear Z; intro Z
 refine s_runk tAd5 Z 1 rfl rfl ?_; clear Z a; intro a Z
 refine s_ob Z (v := .int .i64 (l.length : Int)) rfl rfl (by decide) rfl (Ob_slen tAd5 rfl rfl rfl (H.slshape 1 rfl)) ?_; clear Z a; intro a Z
 refine s_runk tAd5 Z 1 rfl rfl ?_; clear Z a; intro a Z
 refine s_end Z [0, 2, 3, 8, 9, 10] rfl ?_; clear Z; intro Z
 refine p_then (wp_block ?_)
 refine f_iter hF (fun sg a' w' => match sg with | (x, seen) => Sl 44 [(0, v1_l), (2, .int .i64 0), (3, .map (some b1)), (8, v1_l), (9, .int .i64 (l.length : Int)), (10, .int .i64 x)] a' ∧ ∃ I2, Hf I D w I2 w' [MpC M_118 b1 seen, SlC NEEntry v1_l l]) ⟨Z.sub (ts := [0, 2, 3, 8, 9, 10]) rfl, ⟨I, (H.sub [(0, false), (0, true)] rfl).eq rfl⟩⟩ ?_
 clear Z H hF a
 rintro rc ⟨x, seen⟩ a w2 ⟨Z, I1, H⟩ hF
 unfold F_item_Right_l1 at hF
 try dsimp only at hF
 refine wp_seq (f_region Z ?_); clear Z; intro Z
 refine s_runk tAd5 Z 1 rfl rfl ?_; clear Z a; intro a Z
 refine s_end Z [0, 2, 3, 8, 9, 10, 11] rfl ?_; clear Z; intro Z
 refine p_then (wp_seq ?_)
 refine f_cond Z rfl (fun hc1 => ?_) (fun hc1 => ?_)
 ·replace hF := ite_t hc1 hF
  refine wp_skip ?_
  refine p_then (wp_seq ?_)
  refine wp_block ?_
  refine wp_seq ?_
  obtain ⟨hg1, hF⟩ := chk_in hF
  refine f_region Z ?_; clear Z; intro Z
  refine s_runk tAd5 Z 1 rfl rfl ?_; clear Z a; intro a Z
  refine s_ob Z (v := .pointer (some ⟨blkOf v1_l, oofOf v1_l + (x).toNat * 4, none⟩)) rfl rfl (by decide) rfl (Ob_sidx tAd5 rfl rfl rfl rfl (slPl (H.sl 1 rfl) hg1) hg1) ?_; clear Z a; intro a Z
  obtain ⟨_, ⟨u1, rfl, L1⟩, H⟩ := H.elG 1 rfl (x) (NEEntry.dft _ _)
  replace H := H.addsl L1
  replace H : Hf I D w I1 w2 [SlC NEOp u1 (((l.getD (x).toNat default).batch).ops), AtG ((0 : Int) ≤ x ∧ x < (l.length : Int)) (blkOf v1_l) (oofOf v1_l + (x).toNat * 4) [.int .i64 (((l.getD (x).toNat default).batch).client), .int .i64 (((l.getD (x).toNat default).batch).req), u1, .int .u64 ((l.getD (x).toNat default).ts)], MpC M_118 b1 seen, SlC NEEntry v1_l l] := H
  refine s_ob Z (v := .agg #[.int .i64 (((l.getD (x).toNat default).batch).client), .int .i64 (((l.getD (x).toNat default).batch).req), u1, .int .u64 ((l.getD (x).toNat default).ts)]) rfl rfl (by decide) rfl (Ob_loads tAd5 rfl rfl rfl ((H.atg 1 rfl hg1).part 0 rfl)) ?_; clear Z a; intro a Z
  refine h_alloc Z H (cl := [.int .i64 0, .int .i64 0, .slice none 0 0, .int .u64 0]) (z := .agg #[.int .i64 0, .int .i64 0, .slice none 0 0, .int .u64 0]) rfl rfl rfl (by decide) rfl (by kernel_rfl) rfl ?_; clear Z a H; intro a w3 b2 H Z
  refine s_runk tAd5 Z 1 rfl rfl ?_; clear Z a; intro a Z
  refine h_store tAd5 Z H 0 rfl rfl rfl rfl rfl rfl rfl rfl rfl (one_cons rfl (one_cons rfl (one_cons (slS.one (H.slshape 1 rfl)) (one_cons rfl one_nil)))) (Nat.le_of_ble_eq_true rfl) rfl ?_; clear H; intro w4 H
  dsimp only [List.eraseIdx] at H
  refine s_end Z [0, 2, 3, 8, 9, 10, 11, 12, 13, 14, 5, 4] rfl ?_; clear Z; intro Z
  refine p_then (wp_seq ?_)
  refine wp_seq ?_
  obtain ⟨c, hx1, hF⟩ := bnd_in hF
  refine f_region Z ?_; clear Z; intro Z
  refine s_ob Z (v := .agg #[.int .i64 (((l.getD (x).toNat default).batch).client), .int .i64 (((l.getD (x).toNat default).batch).req), u1, .int .u64 ((l.getD (x).toNat default).ts)]) rfl rfl (by decide) rfl (Ob_loads tAd5 rfl rfl rfl ((H.bx 0 rfl).part 0 rfl)) ?_; clear Z a; intro a Z
  refine h_call Z H (js := [(1, true)]) rfl (caps := #[]) fn_71_YAd5 rfl rfl rfl rfl rfl (by decide) rfl rfl (fun D1 hS => have hq := c_item_Check hx1 hS; hq) ?_; clear Z a; intro vv a w5 D2 hr hF2 Z
  obtain ⟨rfl, I2, K⟩ := hr
  have H : Hf I D w I2 w5 [BxC b2 57 [.int .i64 (((l.getD (x).toNat default).batch).client), .int .i64 (((l.getD (x).toNat default).batch).req), u1, .int .u64 ((l.getD (x).toNat default).ts)], SlC NEOp u1 (((l.getD (x).toNat default).batch).ops), AtG ((0 : Int) ≤ x ∧ x < (l.length : Int)) (blkOf v1_l) (oofOf v1_l + (x).toNat * 4) [.int .i64 (((l.getD (x).toNat default).batch).client), .int .i64 (((l.getD (x).toNat default).batch).req), u1, .int .u64 ((l.getD (x).toNat default).ts)], MpC M_118 b1 seen, SlC NEEntry v1_l l] := hF2 K
  clear hF2 K
  refine s_runk tAd5 Z 1 rfl rfl ?_; clear Z a; intro a Z
  refine s_end Z [0, 2, 3, 8, 9, 10, 11, 12, 13, 14, 5, 4, 15, 16, 6] rfl ?_; clear Z; intro Z
  refine p_then (wp_seq (f_region Z ?_)); clear Z; intro Z
  refine s_runk tAd5 Z 2 rfl rfl ?_; clear Z a; intro a Z
  refine s_end Z [0, 2, 3, 8, 9, 10, 11, 12, 13, 14, 5, 4, 15, 16, 6, 17, 18] rfl ?_; clear Z; intro Z
  refine p_then ?_
  refine f_cond Z rfl (fun hc2 => ?_) (fun hc2 => ?_)
  ·replace hF := ite_t hc2 hF
   refine wp_seq (f_region Z ?_); clear Z; intro Z
   refine s_runk tAd5 Z 2 rfl rfl ?_; clear Z a; intro a Z
   refine s_end Z [0, 2, 3, 8, 9, 10, 11, 12, 13, 14, 5, 4, 15, 16, 6, 17, 18, 19] rfl ?_; clear Z; intro Z
   refine p_then (wp_ret ?_)
   refine p_then_r ?_
   refine p_blk_r ?_
   refine p_then_r ?_
   refine p_then_r ?_
   refine p_blk_r ?_
   refine p_then_r ?_
   obtain rfl := some_in hF
   exact f_ret Z (run_results1 rfl Z rfl) ⟨rfl, I2, (H.sub [] rfl).eq rfl⟩
  ·replace hF := ite_f hc2 hF
   refine wp_skip ?_
   refine p_then (wp_seq ?_)
   refine wp_seq ?_
   obtain ⟨o, hx2, hF⟩ := bnd_in hF
   obtain ⟨hg2, hF⟩ := chk_in hF
   obtain ⟨hg3, hF⟩ := chk_in hF
   obtain ⟨hg4, hF⟩ := chk_in hF
   obtain ⟨_, ⟨u2, rfl, L2⟩, H⟩ := H.elG 4 rfl (x - 1) (NEEntry.dft _ _)
   replace H := H.addsl L2
   replace H : Hf I D w I2 w5 [SlC NEOp u2 (((l.getD (x - 1).toNat default).batch).ops), AtG ((0 : Int) ≤ x - 1 ∧ x - 1 < (l.length : Int)) (blkOf v1_l) (oofOf v1_l + (x - 1).toNat * 4) [.int .i64 (((l.getD (x - 1).toNat default).batch).client), .int .i64 (((l.getD (x - 1).toNat default).batch).req), u2, .int .u64 ((l.getD (x - 1).toNat default).ts)], BxC b2 57 [.int .i64 (((l.getD (x).toNat default).batch).client), .int .i64 (((l.getD (x).toNat default).batch).req), u1, .int .u64 ((l.getD (x).toNat default).ts)], SlC NEOp u1 (((l.getD (x).toNat default).batch).ops), AtG ((0 : Int) ≤ x ∧ x < (l.length : Int)) (blkOf v1_l) (oofOf v1_l + (x).toNat * 4) [.int .i64 (((l.getD (x).toNat default).batch).client), .int .i64 (((l.getD (x).toNat default).batch).req), u1, .int .u64 ((l.getD (x).toNat default).ts)], MpC M_118 b1 seen, SlC NEEntry v1_l l] := H
   obtain ⟨f, hx3, hF⟩ := bnd_in hF
   refine f_quietd (by kernel_rfl) (by kernel_rfl) Z ?_; clear Z; intro Z
   refine q_runk tAd5 Z 1 rfl rfl ?_; clear Z a; intro a Z
   refine q_ob Z (v := .agg #[.int .i64 (((l.getD (x).toNat default).batch).client), .int .i64 (((l.getD (x).toNat default).batch).req), u1, .int .u64 ((l.getD (x).toNat default).ts)]) rfl rfl (by decide) rfl (fun _ hw => Ob_loads tAd5 rfl rfl rfl (((H.blw hw).bx 2 rfl).part 0 rfl)) ?_; clear Z a; intro a Z
   refine q_call Z (caps := #[]) fn_72_YAd5 rfl rfl rfl rfl rfl (by decide) rfl rfl (fun _ hw => (have hq := c_item_of hx2 (((H.blw hw)).pick0 (js := [(3, true)]) rfl rfl); plainC hq)) ?_; clear Z a; intro a Z
   refine q_ob Z (v := .bool ((mget seen o).getD false)) rfl rfl (by decide) rfl (fun _ hw => Ob_mlook1 o MF_118 (H.blw hw) 5 rfl rfl rfl rfl hg2) ?_; clear Z a; intro a Z
   refine q_runk tAd5 Z 1 rfl rfl ?_; clear Z a; intro a Z
   refine gq_ob Z (p := (!((mget seen o).getD false))) (v := .int .i64 x) (S' := [(4, .int .i64 x)]) rfl rfl rfl (wantB_f _) rfl (by decide) (fun hp hS => hS.sub (ts := [4]) rfl) (fun hp _ hw => Ob_c tAd5 rfl) ?_; clear Z a; intro a Z
   refine gq_ob Z (p := (!((mget seen o).getD false))) (v := .bool (decide (x > 0))) (S' := [(25, .int .i64 x)]) rfl rfl rfl (wantB_f _) rfl (by decide) (fun hp hS => (hS.conv (t := 25) rfl (cond_t hp)).sub (ts := [25]) rfl) (fun hp _ hw => Ob_c tAd5 rfl) ?_; clear Z a; intro a Z
   refine gq_ob Z (p := (!((mget seen o).getD false))) (v := .bool (decide (x > 0))) (S' := [(26, .bool (decide (x > 0)))]) rfl rfl rfl (wantB_f _) rfl (by decide) (fun hp hS => (hS.conv (t := 26) rfl (cond_t hp)).sub (ts := [26]) rfl) (fun hp _ hw => Ob_c tAd5 rfl) ?_; clear Z a; intro a Z
   refine gq_ob Z (p := ((!((mget seen o).getD false)) && (decide (x > 0)))) (v := v1_l) (S' := [(0, v1_l)]) rfl rfl rfl (wantB_ct _ _) rfl (by decide) (fun hp hS => hS.sub (ts := [0]) rfl) (fun hp _ hw => Ob_c tAd5 rfl) ?_; clear Z a; intro a Z
   refine gq_ob Z (p := ((!((mget seen o).getD false)) && (decide (x > 0)))) (v := .int .i64 x) (S' := [(4, .int .i64 x)]) rfl rfl rfl (wantB_ct _ _) rfl (by decide) (fun hp hS => hS.sub (ts := [4]) rfl) (fun hp _ hw => Ob_c tAd5 rfl) ?_; clear Z a; intro a Z
   refine gq_ob Z (p := ((!((mget seen o).getD false)) && (decide (x > 0)))) (v := .int .i64 (x - 1)) (S' := [(29, .int .i64 x)]) rfl rfl rfl (wantB_ct _ _) rfl (by decide) (fun hp hS => (hS.conv (t := 29) rfl (cond_t hp)).sub (ts := [29]) rfl) (fun hp _ hw => Ob_sub rfl rfl rfl (wrI (hg3 hp))) ?_; clear Z a; intro a Z
   refine gq_ob Z (p := ((!((mget seen o).getD false)) && (decide (x > 0)))) (v := .pointer (some ⟨blkOf v1_l, oofOf v1_l + (x - 1).toNat * 4, none⟩)) (S' := [(28, v1_l), (30, .int .i64 (x - 1))]) rfl rfl rfl (wantB_ct _ _) rfl (by decide) (fun hp hS => ((hS.conv (t := 28) rfl (cond_t hp)).conv (t := 30) rfl (cond_t hp)).sub (ts := [28, 30]) rfl) (fun hp _ hw => Ob_sidx tAd5 rfl rfl rfl rfl (slPl ((H.blw hw).sl 6 rfl) (hg4 hp)) (hg4 hp)) ?_; clear Z a; intro a Z
   refine gq_ob Z (p := ((!((mget seen o).getD false)) && (decide (x > 0)))) (v := .pointer (some ⟨blkOf v1_l, oofOf v1_l + (x - 1).toNat * 4 + 3, none⟩)) (S' := [(31, .pointer (some ⟨blkOf v1_l, oofOf v1_l + (x - 1).toNat * 4, none⟩))]) rfl rfl rfl (wantB_ct _ _) rfl (by decide) (fun hp hS => (hS.conv (t := 31) rfl (cond_t hp)).sub (ts := [31]) rfl) (fun hp _ hw => Ob_c tAd5 rfl) ?_; clear Z a; intro a Z
   refine gq_ob Z (p := ((!((mget seen o).getD false)) && (decide (x > 0)))) (v := .int .u64 ((l.getD (x - 1).toNat default).ts)) (S' := [(32, .pointer (some ⟨blkOf v1_l, oofOf v1_l + (x - 1).toNat * 4 + 3, none⟩))]) rfl rfl rfl (wantB_ct _ _) rfl (by decide) (fun hp hS => (hS.conv (t := 32) rfl (cond_t hp)).sub (ts := [32]) rfl) (fun hp _ hw => Ob_load tAd5 rfl rfl rfl (((H.blw hw).atg 1 rfl (hg4 hp)) 3 _ rfl)) ?_; clear Z a; intro a Z
   refine gq_ob Z (p := ((!((mget seen o).getD false)) && (decide (x > 0)))) (v := .pointer (some ⟨b2, 3, none⟩)) (S' := [(5, .pointer (some ⟨b2, 0, none⟩))]) rfl rfl rfl (wantB_ct _ _) rfl (by decide) (fun hp hS => hS.sub (ts := [5]) rfl) (fun hp _ hw => Ob_c tAd5 rfl) ?_; clear Z a; intro a Z
   refine gq_ob Z (p := ((!((mget seen o).getD false)) && (decide (x > 0)))) (v := .int .u64 ((l.getD (x).toNat default).ts)) (S' := [(34, .pointer (some ⟨b2, 3, none⟩))]) rfl rfl rfl (wantB_ct _ _) rfl (by decide) (fun hp hS => (hS.conv (t := 34) rfl (cond_t hp)).sub (ts := [34]) rfl) (fun hp _ hw => Ob_load tAd5 rfl rfl rfl (((H.blw hw).bx 2 rfl).cell 3 rfl)) ?_; clear Z a; intro a Z
   refine gq_call Z (p := ((!((mget seen o).getD false)) && (decide (x > 0)))) (v := .bool f) (S' := [(33, .int .u64 ((l.getD (x - 1).toNat default).ts)), (35, .int .u64 ((l.getD (x).toNat default).ts))]) (caps := #[]) fn_73_YAd5 rfl rfl rfl (wantB_ct _ _) rfl (by decide) (fun hp hS => ((hS.conv (t := 33) rfl (cond_t hp)).conv (t := 35) rfl (cond_t hp)).sub (ts := [33, 35]) rfl) rfl rfl rfl rfl (fun hp _ hw => (have hq := c_item_follows (gif_in hx3 hp) (((H.blw hw)).pick0 (js := []) rfl rfl); plainC hq)) ?_; clear Z a; intro a Z
   refine gq_ob Z (p := ((!((mget seen o).getD false)) && (decide (x > 0)))) (v := .bool (!f)) (S' := [(36, .bool f)]) rfl rfl rfl (wantB_ct _ _) rfl (by decide) (fun hp hS => (hS.conv (t := 36) rfl (cond_t hp)).sub (ts := [36]) rfl) (fun hp _ hw => Ob_c tAd5 rfl) ?_; clear Z a; intro a Z
   refine gq_ob Z (p := (!((mget seen o).getD false))) (v := .bool ((decide (x > 0)) && (!f))) (S' := [(27, .bool (decide (x > 0))), (37, cond ((!((mget seen o).getD false)) && (decide (x > 0))) (.bool (!f)) undef)]) rfl rfl rfl (wantB_f _) rfl (by decide) (fun hp hS => (hS.conv (t := 27) rfl (cond_t hp)).sub (ts := [27, 37]) rfl) (fun hp _ hw => Ob_pick rfl rfl rfl rfl (pick_andp _ _ hp)) ?_; clear Z a; intro a Z
   refine q_ob Z (v := .bool (((mget seen o).getD false) || ((decide (x > 0)) && (!f)))) rfl rfl (by decide) rfl (fun _ hw => Ob_pick rfl rfl rfl rfl (pick_or _ _)) ?_; clear Z a; intro a Z
   refine q_end Z [0, 2, 3, 8, 9, 10, 11, 12, 13, 14, 5, 4, 15, 16, 6, 17, 18, 20, 21, 22, 23, 24, 39] rfl ?_; clear Z; intro w6 hb Z
   replace H : Hf I D w I2 w6 [SlC NEOp u2 (((l.getD (x - 1).toNat default).batch).ops), AtG ((0 : Int) ≤ x - 1 ∧ x - 1 < (l.length : Int)) (blkOf v1_l) (oofOf v1_l + (x - 1).toNat * 4) [.int .i64 (((l.getD (x - 1).toNat default).batch).client), .int .i64 (((l.getD (x - 1).toNat default).batch).req), u2, .int .u64 ((l.getD (x - 1).toNat default).ts)], BxC b2 57 [.int .i64 (((l.getD (x).toNat default).batch).client), .int .i64 (((l.getD (x).toNat default).batch).req), u1, .int .u64 ((l.getD (x).toNat default).ts)], SlC NEOp u1 (((l.getD (x).toNat default).batch).ops), AtG ((0 : Int) ≤ x ∧ x < (l.length : Int)) (blkOf v1_l) (oofOf v1_l + (x).toNat * 4) [.int .i64 (((l.getD (x).toNat default).batch).client), .int .i64 (((l.getD (x).toNat default).batch).req), u1, .int .u64 ((l.getD (x).toNat default).ts)], MpC M_118 b1 seen, SlC NEEntry v1_l l] := H.blw hb
   clear hb
   refine p_then ?_
   refine f_cond Z rfl (fun hc3 => ?_) (fun hc3 => ?_)
   ·replace hF := ite_t hc3 hF
    refine wp_seq (f_region Z ?_); clear Z; intro Z
    refine s_runk tAd5 Z 1 rfl rfl ?_; clear Z a; intro a Z
    refine s_end Z [0, 2, 3, 8, 9, 10, 11, 12, 13, 14, 5, 4, 15, 16, 6, 17, 18, 20, 21, 22, 23, 24, 39] rfl ?_; clear Z; intro Z
    refine p_then (wp_ret ?_)
    refine p_then_r ?_
    refine p_blk_r ?_
    refine p_then_r ?_
    refine p_then_r ?_
    refine p_blk_r ?_
    refine p_then_r ?_
    obtain rfl := some_in hF
    exact f_ret Z (run_results1 rfl Z rfl) ⟨rfl, I2, (H.sub [] rfl).eq rfl⟩
   ·replace hF := ite_f hc3 hF
    refine wp_skip ?_
    refine p_then ?_
    obtain ⟨o_2, hx4, hF⟩ := bnd_in hF
    obtain ⟨hg5, hF⟩ := chk_in hF
    refine f_region Z ?_; clear Z; intro Z
    refine s_runk tAd5 Z 1 rfl rfl ?_; clear Z a; intro a Z
    refine s_ob Z (v := .agg #[.int .i64 (((l.getD (x).toNat default).batch).client), .int .i64 (((l.getD (x).toNat default).batch).req), u1, .int .u64 ((l.getD (x).toNat default).ts)]) rfl rfl (by decide) rfl (Ob_loads tAd5 rfl rfl rfl ((H.bx 2 rfl).part 0 rfl)) ?_; clear Z a; intro a Z
    refine h_call Z H (js := [(3, true)]) rfl (caps := #[]) fn_72_YAd5 rfl rfl rfl rfl rfl (by decide) rfl rfl (fun D1 hS => have hq := c_item_of hx4 hS; hq) ?_; clear Z a; intro vv a w7 D2 hr hF2 Z
    obtain ⟨rfl, I3, K⟩ := hr
    have H : Hf I D w I3 w7 [SlC NEOp u2 (((l.getD (x - 1).toNat default).batch).ops), AtG ((0 : Int) ≤ x - 1 ∧ x - 1 < (l.length : Int)) (blkOf v1_l) (oofOf v1_l + (x - 1).toNat * 4) [.int .i64 (((l.getD (x - 1).toNat default).batch).client), .int .i64 (((l.getD (x - 1).toNat default).batch).req), u2, .int .u64 ((l.getD (x - 1).toNat default).ts)], BxC b2 57 [.int .i64 (((l.getD (x).toNat default).batch).client), .int .i64 (((l.getD (x).toNat default).batch).req), u1, .int .u64 ((l.getD (x).toNat default).ts)], SlC NEOp u1 (((l.getD (x).toNat default).batch).ops), AtG ((0 : Int) ≤ x ∧ x < (l.length : Int)) (blkOf v1_l) (oofOf v1_l + (x).toNat * 4) [.int .i64 (((l.getD (x).toNat default).batch).client), .int .i64 (((l.getD (x).toNat default).batch).req), u1, .int .u64 ((l.getD (x).toNat default).ts)], MpC M_118 b1 seen, SlC NEEntry v1_l l] := hF2 K
    clear hF2 K
    refine h_mset Z H 5 o_2 true MF_118 rfl rfl rfl rfl rfl rfl rfl hg5 ?_; clear H; intro w8 H
    dsimp only [List.eraseIdx] at H
    refine s_end Z [0, 2, 3, 8, 9, 10, 11, 12, 13, 14, 5, 4, 15, 16, 6, 17, 18, 20, 21, 22, 23, 24, 39, 40, 41, 42] rfl ?_; clear Z; intro Z
    refine p_blk ?_
    refine p_then ?_
    obtain ⟨hg6, hF⟩ := chk_in hF
    refine f_region Z ?_; clear Z; intro Z
    refine s_ob Z (v := .int .i64 (x + 1)) rfl rfl (by decide) rfl (Ob_add rfl rfl rfl (wrI hg6)) ?_; clear Z a; intro a Z
    refine s_runk tAd5 Z 1 rfl rfl ?_; clear Z a; intro a Z
    refine s_end Z [0, 2, 3, 8, 9, 10, 11, 12, 13, 14, 5, 4, 15, 16, 6, 17, 18, 20, 21, 22, 23, 24, 39, 40, 41, 42, 43] rfl ?_; clear Z; intro Z
    refine p_then ?_
    exact ⟨(x + 1, mset seen o_2 true), ⟨Z.sub (ts := [0, 2, 3, 8, 9, 10]) rfl, ⟨I3, (H.sub [(0, false), (5, true)] rfl).eq rfl⟩⟩, hF⟩
 ·replace hF := ite_f hc1 hF
  refine wp_exit ?_
  refine p_then_x ?_
  refine p_then_x ?_
  refine f_exit_here ?_
  refine p_then (wp_seq (f_region Z ?_)); clear Z; intro Z
  refine s_runk tAd5 Z 1 rfl rfl ?_; clear Z a; intro a Z
  refine s_end Z [2] rfl ?_; clear Z; intro Z
  refine p_then (wp_ret ?_)
  obtain rfl := some_in hF
  exact f_ret Z (run_results1 rfl Z rfl) ⟨rfl, I1, (H.sub [] rfl).eq rfl⟩

def F_adopt_log_l1 (l : List EEntry) (rc : (Int × Erlog_Log) → Option ((Option Erlog_Log) × Bool)) (sg : Int × Erlog_Log) : Option ((Option Erlog_Log) × Bool) := match sg with | (x, out) => if (decide (x < (l.length : Int))) = true then (chk ((0 : Int) ≤ x ∧ x < (l.length : Int)) ((F_rlog_Log_Set out x ({ (l.getD (x).toNat default) with batch := ({ client := ((l.getD (x).toNat default).batch).client, req := ((l.getD (x).toNat default).batch).req, ops := ((l.getD (x).toNat default).batch).ops } : EBatch) } : EEntry)).bind fun s0 => (if (s0.1 != 0) = true then (some (none, false)) else (chk (inI (x + 1)) (rc (x + 1, s0.2)))))) else (some (some out, true))

def F_adopt_log (l : List EEntry) : Option ((Option Erlog_Log) × Bool) := (F_item_Right l).bind fun r0 => (if (r0 != 0) = true then (some (none, false)) else ((F_rlog_New).bind fun n0 => (iter (F_adopt_log_l1 l) FU (0, n0))))

set_option maxHeartbeats 1000000 in
theorem c_adopt_log {I D : Dm} {l : List EEntry} {v1_l : Value} {w : World} {rr : (Option Erlog_Log) × Bool} (hF : F_adopt_log l = some rr) (H : St I D w [SlC NEEntry v1_l l]) :
  Calls Try.prog 47 #[v1_l] w (Ret fun vv w' => ∃ q1 : Value, vv = .tuple #[q1, .bool rr.2] ∧ ∃ I', Hf I D w I' w' [PtC OErlog_Log q1 rr.1]) := by
 replace H := H.hf
 unfold F_adopt_log at hF
 refine f_enter 25 Try.func47 rfl rfl (Nat.le_of_ble_eq_true rfl) fun a Z => ?_
 replace Z := Z.sub (ts := [0]) rfl
 refine wp_seq (f_region Z ?_); clear Z; intro Z
 refine s_runk tAd5 Z 2 rfl rfl ?_; clear Z a; intro a Z
 refine s_end Z [0, 2, 3] rfl ?_; clear Z; intro Z
 refine p_then (wp_seq ?_)
 refine wp_seq ?_
 obtain ⟨r0, hx1, hF⟩ := bnd_in hF
 refine f_region Z ?_; clear Z; intro Z
 refine s_runk tAd5 Z 1 rfl rfl ?_; clear Z a; intro a Z
 refine h_call Z H (js := [(0, true)]) rfl (caps := #[]) fn_62_YAd5 rfl rfl rfl rfl rfl (by decide) rfl rfl (fun D1 hS => have hq := c_item_Right hx1 hS; hq) ?_; clear Z a; intro vv a w1 D2 hr hF2 Z
 obtain ⟨rfl, I1, K⟩ := hr
 have H : Hf I D w I1 w1 [SlC NEEntry v1_l l] := hF2 K
 clear hF2 K
 refine s_runk tAd5 Z 1 rfl rfl ?_; clear Z a; intro a Z
 refine s_end Z [0, 2, 3, 9] rfl ?_; clear Z; intro Z
 refine p_then ?_
 refine f_cond Z rfl (fun hc1 => ?_) (fun hc1 => ?_)
 ·replace hF := ite_t hc1 hF
  refine wp_seq (f_region Z ?_); clear Z; intro Z
  refine s_runk tAd5 Z 2 rfl rfl ?_; clear Z a; intro a Z
  refine s_end Z [0, 2, 3] rfl ?_; clear Z; intro Z
  refine p_then (wp_ret ?_)
  refine p_then_r ?_
  replace H : Hf I D w I1 w1 [PtC OErlog_Log (.pointer none) none, SlC NEEntry v1_l l] := H.mkN OErlog_Log
  obtain rfl := some_in hF
  exact f_ret Z (run_results2 rfl Z rfl rfl) ⟨.pointer none, rfl, I1, (H.sub [(0, false)] rfl).eq rfl⟩
 ·replace hF := ite_f hc1 hF
  refine wp_skip ?_
  refine p_then (wp_seq ?_)
  obtain ⟨n0, hx2, hF⟩ := bnd_in hF
  refine f_region Z ?_; clear Z; intro Z
  refine h_call Z H (js := []) rfl (caps := #[]) fn_63_YAd5 rfl rfl rfl rfl rfl (by decide) rfl rfl (fun D1 hS => have hq := c_rlog_New hx2 hS; hq) ?_; clear Z a; intro vv a w2 D2 hr hF2 Z
  obtain ⟨g1, rfl, I2, K⟩ := hr
  have H : Hf I D w I2 w2 [OErlog_Log g1 n0, SlC NEEntry v1_l l] := hF2 K
  clear hF2 K
  refine s_runk tAd5 Z 1 rfl rfl ?_; clear Z a; intro a Z
  refine s_end Z [0, 2, 3, 4] rfl ?_; clear Z; intro Z
  refine p_then (wp_seq ?_)
  refine wp_seq (f_region Z ?_); clear Z; intro Z
  refine s_runk tAd5 Z 1 rfl rfl ?_; clear Z a; intro a Z
  refine s_ob Z (v := .int .i64 (l.length : Int)) rfl rfl (by decide) rfl (Ob_slen tAd5 rfl rfl rfl (H.slshape 1 rfl)) ?_; clear Z a; intro a Z
  refine s_runk tAd5 Z 1 rfl rfl ?_; clear Z a; intro a Z
  refine s_end Z [2, 3, 4, 11, 12, 13] rfl ?_; clear Z; intro Z
  refine p_then (wp_block ?_)
  refine f_iter hF (fun sg a' w' => match sg with | (x, out) => Sl 25 [(2, .pointer none), (3, .bool false), (4, .pointer (some ⟨g1, 0, none⟩)), (11, v1_l), (12, .int .i64 (l.length : Int)), (13, .int .i64 x)] a' ∧ ∃ I2, Hf I D w I2 w' [OErlog_Log g1 out, SlC NEEntry v1_l l]) ⟨Z.sub (ts := [2, 3, 4, 11, 12, 13]) rfl, ⟨I2, (H.sub [(0, false), (0, true)] rfl).eq rfl⟩⟩ ?_
  clear Z H hF a
  rintro rc ⟨x, out⟩ a w3 ⟨Z, I3, H⟩ hF
  unfold F_adopt_log_l1 at hF
  try dsimp only at hF
  refine wp_seq (f_region Z ?_); clear Z; intro Z
  refine s_runk tAd5 Z 1 rfl rfl ?_; clear Z a; intro a Z
  refine s_end Z [2, 3, 4, 11, 12, 13, 14] rfl ?_; clear Z; intro Z
  refine p_then (wp_seq ?_)
  refine f_cond Z rfl (fun hc2 => ?_) (fun hc2 => ?_)
  ·replace hF := ite_t hc2 hF
   refine wp_skip ?_
   refine p_then (wp_seq ?_)
   refine wp_block ?_
   refine wp_seq ?_
   obtain ⟨hg1, hF⟩ := chk_in hF
   refine f_region Z ?_; clear Z; intro Z
   refine s_runk tAd5 Z 1 rfl rfl ?_; clear Z a; intro a Z
   refine s_ob Z (v := .pointer (some ⟨blkOf v1_l, oofOf v1_l + (x).toNat * 4, none⟩)) rfl rfl (by decide) rfl (Ob_sidx tAd5 rfl rfl rfl rfl (slPl (H.sl 1 rfl) hg1) hg1) ?_; clear Z a; intro a Z
   obtain ⟨_, ⟨u1, rfl, L1⟩, H⟩ := H.elG 1 rfl (x) (NEEntry.dft _ _)
   replace H := H.addsl L1
   replace H : Hf I D w I3 w3 [SlC NEOp u1 (((l.getD (x).toNat default).batch).ops), AtG ((0 : Int) ≤ x ∧ x < (l.length : Int)) (blkOf v1_l) (oofOf v1_l + (x).toNat * 4) [.int .i64 (((l.getD (x).toNat default).batch).client), .int .i64 (((l.getD (x).toNat default).batch).req), u1, .int .u64 ((l.getD (x).toNat default).ts)], OErlog_Log g1 out, SlC NEEntry v1_l l] := H
   refine s_ob Z (v := .agg #[.int .i64 (((l.getD (x).toNat default).batch).client), .int .i64 (((l.getD (x).toNat default).batch).req), u1, .int .u64 ((l.getD (x).toNat default).ts)]) rfl rfl (by decide) rfl (Ob_loads tAd5 rfl rfl rfl ((H.atg 1 rfl hg1).part 0 rfl)) ?_; clear Z a; intro a Z
   refine h_alloc Z H (cl := [.int .i64 0, .int .i64 0, .slice none 0 0, .int .u64 0]) (z := .agg #[.int .i64 0, .int .i64 0, .slice none 0 0, .int .u64 0]) rfl rfl rfl (by decide) rfl (by kernel_rfl) rfl ?_; clear Z a H; intro a w4 b1 H Z
   refine s_runk tAd5 Z 1 rfl rfl ?_; clear Z a; intro a Z
   refine h_store tAd5 Z H 0 rfl rfl rfl rfl rfl rfl rfl rfl rfl (one_cons rfl (one_cons rfl (one_cons (slS.one (H.slshape 1 rfl)) (one_cons rfl one_nil)))) (Nat.le_of_ble_eq_true rfl) rfl ?_; clear H; intro w5 H
   dsimp only [List.eraseIdx] at H
   refine s_end Z [2, 3, 4, 11, 12, 13, 14, 15, 16, 17, 6, 5] rfl ?_; clear Z; intro Z
   refine p_then (wp_seq ?_)
   obtain ⟨s0, hx3, hF⟩ := bnd_in hF
   refine f_region Z ?_; clear Z; intro Z
   refine s_runk tAd5 Z 2 rfl rfl ?_; clear Z a; intro a Z
   refine s_ob Z (v := .agg #[.int .i64 (((l.getD (x).toNat default).batch).client), .int .i64 (((l.getD (x).toNat default).batch).req), u1, .int .u64 ((l.getD (x).toNat default).ts)]) rfl rfl (by decide) rfl (Ob_loads tAd5 rfl rfl rfl ((H.bx 0 rfl).part 0 rfl)) ?_; clear Z a; intro a Z
   refine h_call Z H (js := [(3, false), (1, true)]) rfl (caps := #[]) fn_64_YAd5 rfl rfl rfl rfl rfl (by decide) rfl rfl (fun D1 hS => have hq := c_rlog_Log_Set hx3 hS; hq) ?_; clear Z a; intro vv a w6 D2 hr hF2 Z
   obtain ⟨rfl, I4, K⟩ := hr
   have H : Hf I D w I4 w6 [OErlog_Log g1 s0.2, BxC b1 57 [.int .i64 (((l.getD (x).toNat default).batch).client), .int .i64 (((l.getD (x).toNat default).batch).req), u1, .int .u64 ((l.getD (x).toNat default).ts)], SlC NEOp u1 (((l.getD (x).toNat default).batch).ops), AtG ((0 : Int) ≤ x ∧ x < (l.length : Int)) (blkOf v1_l) (oofOf v1_l + (x).toNat * 4) [.int .i64 (((l.getD (x).toNat default).batch).client), .int .i64 (((l.getD (x).toNat default).batch).req), u1, .int .u64 ((l.getD (x).toNat default).ts)], SlC NEEntry v1_l l] := hF2 K
   clear hF2 K
   refine s_runk tAd5 Z 1 rfl rfl ?_; clear Z a; intro a Z
   refine s_end Z [2, 3, 4, 11, 12, 13, 14, 15, 16, 17, 6, 5, 18, 19, 20, 21, 22] rfl ?_; clear Z; intro Z
   refine p_then ?_
   refine f_cond Z rfl (fun hc3 => ?_) (fun hc3 => ?_)
   ·replace hF := ite_t hc3 hF
    refine wp_seq (f_region Z ?_); clear Z; intro Z
    refine s_runk tAd5 Z 2 rfl rfl ?_; clear Z a; intro a Z
    refine s_end Z [2, 3, 4, 11, 12, 13, 14, 15, 16, 17, 6, 5, 18, 19, 20, 21, 22] rfl ?_; clear Z; intro Z
    refine p_then (wp_ret ?_)
    refine p_blk_r ?_
    refine p_then_r ?_
    refine p_then_r ?_
    refine p_blk_r ?_
    refine p_then_r ?_
    replace H : Hf I D w I4 w6 [PtC OErlog_Log (.pointer none) none, OErlog_Log g1 s0.2, BxC b1 57 [.int .i64 (((l.getD (x).toNat default).batch).client), .int .i64 (((l.getD (x).toNat default).batch).req), u1, .int .u64 ((l.getD (x).toNat default).ts)], SlC NEOp u1 (((l.getD (x).toNat default).batch).ops), AtG ((0 : Int) ≤ x ∧ x < (l.length : Int)) (blkOf v1_l) (oofOf v1_l + (x).toNat * 4) [.int .i64 (((l.getD (x).toNat default).batch).client), .int .i64 (((l.getD (x).toNat default).batch).req), u1, .int .u64 ((l.getD (x).toNat default).ts)], SlC NEEntry v1_l l] := H.mkN OErlog_Log
    obtain rfl := some_in hF
    exact f_ret Z (run_results2 rfl Z rfl rfl) ⟨.pointer none, rfl, I4, (H.sub [(0, false)] rfl).eq rfl⟩
   ·replace hF := ite_f hc3 hF
    refine wp_skip ?_
    refine p_blk ?_
    refine p_then ?_
    obtain ⟨hg2, hF⟩ := chk_in hF
    refine f_region Z ?_; clear Z; intro Z
    refine s_ob Z (v := .int .i64 (x + 1)) rfl rfl (by decide) rfl (Ob_add rfl rfl rfl (wrI hg2)) ?_; clear Z a; intro a Z
    refine s_runk tAd5 Z 1 rfl rfl ?_; clear Z a; intro a Z
    refine s_end Z [2, 3, 4, 11, 12, 13, 14, 15, 16, 17, 6, 5, 18, 19, 20, 21, 22, 23] rfl ?_; clear Z; intro Z
    refine p_then ?_
    exact ⟨(x + 1, s0.2), ⟨Z.sub (ts := [2, 3, 4, 11, 12, 13]) rfl, ⟨I4, (H.sub [(0, false), (3, true)] rfl).eq rfl⟩⟩, hF⟩
  ·replace hF := ite_f hc2 hF
   refine wp_exit ?_
   refine p_then_x ?_
   refine p_then_x ?_
   refine f_exit_here ?_
   refine p_then (wp_seq (f_region Z ?_)); clear Z; intro Z
   refine s_runk tAd5 Z 3 rfl rfl ?_; clear Z a; intro a Z
   refine s_end Z [2, 3] rfl ?_; clear Z; intro Z
   refine p_then (wp_ret ?_)
   replace H : Hf I D w I3 w3 [PtC OErlog_Log (.pointer (some ⟨g1, 0, none⟩)) (some out), SlC NEEntry v1_l l] := H.mkS (K := OErlog_Log) 0 rfl
   obtain rfl := some_in hF
   exact f_ret Z (run_results2 rfl Z rfl rfl) ⟨.pointer (some ⟨g1, 0, none⟩), rfl, I3, (H.sub [(0, false)] rfl).eq rfl⟩

def F_adopt_lay_k1 (l : Erlog_Log) (i : Int) (a0 : EEntry × Bool) (e_2 : EEntry) : Option ((List ENote) × Bool × Erlog_Log) := (gif a0.2 (F_item_Twins a0.1 e_2) default).bind fun t => (if ((a0.2 && t) && (a0.1.ts == e_2.ts)) = true then (some (([] : List ENote), true, l)) else ((F_rlog_Log_Set l i e_2).bind fun s0 => (if (s0.1 != 0) = true then (some (([] : List ENote), false, s0.2)) else (some ([({ (default : ENote) with k := 2, n := i, entry := e_2 } : ENote)], true, s0.2)))))

def F_adopt_lay (l : Erlog_Log) (i : Int) (e : EEntry) : Option ((List ENote) × Bool × Erlog_Log) := (F_rlog_Log_At l i).bind fun a0 => (if (a0.2) = true then ((F_adopt_One [a0.1] 0 e).bind fun o => (F_adopt_lay_k1 l i a0 o)) else (F_adopt_lay_k1 l i a0 e))

set_option maxHeartbeats 1000000 in
theorem c_adopt_lay {I D : Dm} {b_l : Nat} {l : Erlog_Log} {i : Int} {e : EEntry} {v1_e : Value} {w : World} {rr : (List ENote) × Bool × Erlog_Log} (hF : F_adopt_lay l i e = some rr) (H : St I D w [OErlog_Log b_l l, SlC NEOp v1_e e.batch.ops]) :
  Calls Try.prog 48 #[.pointer (some ⟨b_l, 0, none⟩), .int .i64 i, .agg #[.int .i64 e.batch.client, .int .i64 e.batch.req, v1_e, .int .u64 e.ts]] w (Ret fun vv w' => ∃ q1 : Value, vv = .tuple #[q1, .bool rr.2.1] ∧ ∃ I', Hf I D w I' w' [OErlog_Log b_l rr.2.2, SlC NENote q1 rr.1]) := by
 replace H := H.hf
 unfold F_adopt_lay at hF
 refine f_enter 43 Try.func48 rfl rfl (Nat.le_of_ble_eq_true rfl) fun a Z => ?_
 replace Z := Z.sub (ts := [0, 1, 2]) rfl
 refine wp_seq (f_region Z ?_); clear Z; intro Z
 refine h_boxv Z H (cl := [.int .i64 e.batch.client, .int .i64 e.batch.req, v1_e, .int .u64 e.ts]) rfl rfl rfl (by decide) rfl rfl rfl ?_; clear Z a H; intro a w1 b1 H Z
 refine s_runk tAd5 Z 2 rfl rfl ?_; clear Z a; intro a Z
 refine s_end Z [0, 1, 5, 6, 7] rfl ?_; clear Z; intro Z
 refine p_then (wp_seq ?_)
 obtain ⟨a0, hx1, hF⟩ := bnd_in hF
 refine f_region Z ?_; clear Z; intro Z
 refine s_runk tAd5 Z 2 rfl rfl ?_; clear Z a; intro a Z
 refine h_call Z H (js := [(1, false)]) rfl (caps := #[]) fn_65_YAd5 rfl rfl rfl rfl rfl (by decide) rfl rfl (fun D1 hS => have hq := c_rlog_Log_At hx1 hS; hq) ?_; clear Z a; intro vv a w2 D2 hr hF2 Z
 obtain ⟨q1, rfl, I1, K⟩ := hr
 have H : Hf I D w I1 w2 [OErlog_Log b_l l, SlC NEOp q1 a0.1.batch.ops, BxC b1 57 (cEEntry e v1_e), SlC NEOp v1_e e.batch.ops] := hF2 K
 clear hF2 K
 refine s_runk tAd5 Z 3 rfl rfl ?_; clear Z a; intro a Z
 refine h_alloc Z H (cl := [.int .i64 0, .int .i64 0, .slice none 0 0, .int .u64 0]) (z := .agg #[.int .i64 0, .int .i64 0, .slice none 0 0, .int .u64 0]) rfl rfl rfl (by decide) rfl (by kernel_rfl) rfl ?_; clear Z a H; intro a w3 b2 H Z
 refine h_store tAd5 Z H 0 rfl rfl rfl rfl rfl rfl rfl rfl rfl (one_cons rfl (one_cons rfl (one_cons (slS.one (H.slshape 2 rfl)) (one_cons rfl one_nil)))) (Nat.le_of_ble_eq_true rfl) rfl ?_; clear H; intro w4 H
 dsimp only [List.eraseIdx] at H
 refine s_runk tAd5 Z 1 rfl rfl ?_; clear Z a; intro a Z
 refine s_end Z [0, 1, 5, 6, 7, 8, 9] rfl ?_; clear Z; intro Z
 refine p_then ?_
 refine f_cut (fun a' w' => ∃ (e_2 : EEntry), Sl 43 [(0, .pointer (some ⟨b_l, 0, none⟩)), (1, .int .i64 i), (5, .pointer (some ⟨b1, 0, none⟩)), (6, .slice none 0 0), (7, .bool false), (8, .pointer (some ⟨b2, 0, none⟩)), (9, .bool a0.2)] a' ∧ (∃ I2, Hf I D w I2 w' [OErlog_Log b_l l, OEEntry b1 e_2, BxC b2 57 (cEEntry a0.1 q1), SlC NEOp q1 a0.1.batch.ops]) ∧ F_adopt_lay_k1 l i a0 e_2 = some rr) ?_ ?_
 ·rintro a w5 ⟨e_2, Z, ⟨I2, H⟩, hF⟩
  unfold F_adopt_lay_k1 at hF
  try dsimp only at hF
  refine wp_seq ?_
  refine wp_seq ?_
  obtain ⟨t, hx2, hF⟩ := bnd_in hF
  refine f_region Z ?_; clear Z; intro Z
  refine s_runk tAd5 Z 2 rfl rfl ?_; clear Z a; intro a Z
  refine g_ob Z (p := a0.2) (v := .agg #[.int .i64 a0.1.batch.client, .int .i64 a0.1.batch.req, q1, .int .u64 a0.1.ts]) (S' := [(8, .pointer (some ⟨b2, 0, none⟩))]) rfl rfl rfl (wantB_t _) rfl (by decide) (fun hp hS => hS.sub (ts := [8]) rfl) (fun hp => Ob_loads tAd5 rfl rfl rfl ((H.bx 2 rfl).part 0 rfl)) ?_; clear Z a; intro a Z
  obtain ⟨v2, H⟩ := H.openX 1 rfl
  replace H : Hf I D w I2 w5 [BxC b1 57 (cEEntry e_2 v2), SlC NEOp v2 e_2.batch.ops, OErlog_Log b_l l, BxC b2 57 (cEEntry a0.1 q1), SlC NEOp q1 a0.1.batch.ops] := H
  refine g_ob Z (p := a0.2) (v := .agg #[.int .i64 e_2.batch.client, .int .i64 e_2.batch.req, v2, .int .u64 e_2.ts]) (S' := [(5, .pointer (some ⟨b1, 0, none⟩))]) rfl rfl rfl (wantB_t _) rfl (by decide) (fun hp hS => hS.sub (ts := [5]) rfl) (fun hp => Ob_loads tAd5 rfl rfl rfl ((H.bx 0 rfl).part 0 rfl)) ?_; clear Z a; intro a Z
  refine g_call Z (p := a0.2) (v := .bool t) (S' := [(23, .agg #[.int .i64 a0.1.batch.client, .int .i64 a0.1.batch.req, q1, .int .u64 a0.1.ts]), (24, .agg #[.int .i64 e_2.batch.client, .int .i64 e_2.batch.req, v2, .int .u64 e_2.ts])]) (caps := #[]) fn_67_YAd5 rfl rfl rfl (wantB_t _) rfl (by decide) (fun hp hS => ((hS.conv (t := 23) rfl (cond_t hp)).conv (t := 24) rfl (cond_t hp)).sub (ts := [23, 24]) rfl) rfl rfl rfl rfl (fun hp => (have hq := c_item_Twins (gif_in hx2 hp) ((H).pick0 (js := [(4, true), (1, true)]) rfl rfl); plainC hq)) ?_; clear Z a; intro a w6 hb Z
  replace H : Hf I D w I2 w6 [BxC b1 57 (cEEntry e_2 v2), SlC NEOp v2 e_2.batch.ops, OErlog_Log b_l l, BxC b2 57 (cEEntry a0.1 q1), SlC NEOp q1 a0.1.batch.ops] := H.blw hb
  clear hb
  refine s_ob Z (v := .bool (a0.2 && t)) rfl rfl (by decide) rfl (Ob_pick rfl rfl rfl rfl (pick_and _ _)) ?_; clear Z a; intro a Z
  refine s_runk tAd5 Z 1 rfl rfl ?_; clear Z a; intro a Z
  refine g_ob Z (p := (a0.2 && t)) (v := .pointer (some ⟨b2, 3, none⟩)) (S' := [(8, .pointer (some ⟨b2, 0, none⟩))]) rfl rfl rfl (wantB_t _) rfl (by decide) (fun hp hS => hS.sub (ts := [8]) rfl) (fun hp => Ob_c tAd5 rfl) ?_; clear Z a; intro a Z
  refine g_ob Z (p := (a0.2 && t)) (v := .int .u64 a0.1.ts) (S' := [(28, .pointer (some ⟨b2, 3, none⟩))]) rfl rfl rfl (wantB_t _) rfl (by decide) (fun hp hS => (hS.conv (t := 28) rfl (cond_t hp)).sub (ts := [28]) rfl) (fun hp => Ob_load tAd5 rfl rfl rfl ((H.bx 3 rfl).cell 3 rfl)) ?_; clear Z a; intro a Z
  refine g_ob Z (p := (a0.2 && t)) (v := .pointer (some ⟨b1, 3, none⟩)) (S' := [(5, .pointer (some ⟨b1, 0, none⟩))]) rfl rfl rfl (wantB_t _) rfl (by decide) (fun hp hS => hS.sub (ts := [5]) rfl) (fun hp => Ob_c tAd5 rfl) ?_; clear Z a; intro a Z
  refine g_ob Z (p := (a0.2 && t)) (v := .int .u64 e_2.ts) (S' := [(30, .pointer (some ⟨b1, 3, none⟩))]) rfl rfl rfl (wantB_t _) rfl (by decide) (fun hp hS => (hS.conv (t := 30) rfl (cond_t hp)).sub (ts := [30]) rfl) (fun hp => Ob_load tAd5 rfl rfl rfl ((H.bx 0 rfl).cell 3 rfl)) ?_; clear Z a; intro a Z
  refine g_ob Z (p := (a0.2 && t)) (v := .bool (a0.1.ts == e_2.ts)) (S' := [(29, .int .u64 a0.1.ts), (31, .int .u64 e_2.ts)]) rfl rfl rfl (wantB_t _) rfl (by decide) (fun hp hS => ((hS.conv (t := 29) rfl (cond_t hp)).conv (t := 31) rfl (cond_t hp)).sub (ts := [29, 31]) rfl) (fun hp => Ob_c tAd5 rfl) ?_; clear Z a; intro a Z
  refine s_ob Z (v := .bool ((a0.2 && t) && (a0.1.ts == e_2.ts))) rfl rfl (by decide) rfl (Ob_pick rfl rfl rfl rfl (pick_and _ _)) ?_; clear Z a; intro a Z
  refine s_end Z [0, 1, 5, 6, 7, 33] rfl ?_; clear Z; intro Z
  refine p_then ?_
  refine f_cond Z rfl (fun hc1 => ?_) (fun hc1 => ?_)
  ·replace hF := ite_t hc1 hF
   refine wp_seq (f_region Z ?_); clear Z; intro Z
   refine s_runk tAd5 Z 2 rfl rfl ?_; clear Z a; intro a Z
   refine s_end Z [0, 1, 5, 6, 7] rfl ?_; clear Z; intro Z
   refine p_then (wp_ret ?_)
   refine p_then_r ?_
   replace H : Hf I D w I2 w6 [SlC NENote (.slice none 0 0) ([] : List ENote), BxC b1 57 (cEEntry e_2 v2), SlC NEOp v2 e_2.batch.ops, OErlog_Log b_l l, BxC b2 57 (cEEntry a0.1 q1), SlC NEOp q1 a0.1.batch.ops] := H.slNil NENote
   obtain rfl := some_in hF
   exact f_ret Z (run_results2 rfl Z rfl rfl) ⟨.slice none 0 0, rfl, I2, (H.sub [(3, false), (0, true)] rfl).eq rfl⟩
  ·replace hF := ite_f hc1 hF
   refine wp_skip ?_
   refine p_then (wp_seq ?_)
   refine wp_seq ?_
   obtain ⟨s0, hx3, hF⟩ := bnd_in hF
   refine f_region Z ?_; clear Z; intro Z
   refine s_runk tAd5 Z 2 rfl rfl ?_; clear Z a; intro a Z
   refine s_ob Z (v := .agg #[.int .i64 e_2.batch.client, .int .i64 e_2.batch.req, v2, .int .u64 e_2.ts]) rfl rfl (by decide) rfl (Ob_loads tAd5 rfl rfl rfl ((H.bx 0 rfl).part 0 rfl)) ?_; clear Z a; intro a Z
   refine h_call Z H (js := [(2, false), (1, true)]) rfl (caps := #[]) fn_64_YAd5 rfl rfl rfl rfl rfl (by decide) rfl rfl (fun D1 hS => have hq := c_rlog_Log_Set hx3 hS; hq) ?_; clear Z a; intro vv a w7 D2 hr hF2 Z
   obtain ⟨rfl, I3, K⟩ := hr
   have H : Hf I D w I3 w7 [OErlog_Log b_l s0.2, BxC b1 57 (cEEntry e_2 v2), SlC NEOp v2 e_2.batch.ops, BxC b2 57 (cEEntry a0.1 q1), SlC NEOp q1 a0.1.batch.ops] := hF2 K
   clear hF2 K
   refine s_runk tAd5 Z 1 rfl rfl ?_; clear Z a; intro a Z
   refine s_end Z [1, 5, 6, 7, 38] rfl ?_; clear Z; intro Z
   refine p_then ?_
   refine f_cond Z rfl (fun hc2 => ?_) (fun hc2 => ?_)
   ·replace hF := ite_t hc2 hF
    refine wp_seq (f_region Z ?_); clear Z; intro Z
    refine s_runk tAd5 Z 2 rfl rfl ?_; clear Z a; intro a Z
    refine s_end Z [1, 5, 6, 7] rfl ?_; clear Z; intro Z
    refine p_then (wp_ret ?_)
    refine p_then_r ?_
    replace H : Hf I D w I3 w7 [SlC NENote (.slice none 0 0) ([] : List ENote), OErlog_Log b_l s0.2, BxC b1 57 (cEEntry e_2 v2), SlC NEOp v2 e_2.batch.ops, BxC b2 57 (cEEntry a0.1 q1), SlC NEOp q1 a0.1.batch.ops] := H.slNil NENote
    obtain rfl := some_in hF
    exact f_ret Z (run_results2 rfl Z rfl rfl) ⟨.slice none 0 0, rfl, I3, (H.sub [(1, false), (0, true)] rfl).eq rfl⟩
   ·replace hF := ite_f hc2 hF
    refine wp_skip ?_
    refine p_then (wp_seq (f_region Z ?_)); clear Z; intro Z
    refine s_runk tAd5 Z 1 rfl rfl ?_; clear Z a; intro a Z
    refine s_ob Z (v := .agg #[.int .i64 e_2.batch.client, .int .i64 e_2.batch.req, v2, .int .u64 e_2.ts]) rfl rfl (by decide) rfl (Ob_loads tAd5 rfl rfl rfl ((H.bx 1 rfl).part 0 rfl)) ?_; clear Z a; intro a Z
    refine s_ob Z (v := .agg #[.int .i64 2, .int .i64 i, .int .u64 0, .int .i64 0, .slice none 0 0, .int .u64 0, .slice none 0 0, .int .i64 e_2.batch.client, .int .i64 e_2.batch.req, v2, .int .u64 e_2.ts, .int .i64 0, .int .u64 0, .int .i64 0, .int .i64 0, .int .i64 0, .int .i64 0, .int .i64 0]) rfl rfl (by decide) rfl (Ob_build (vs := [(0, .int .i64 2), (1, .int .i64 i), (5, .agg #[.int .i64 e_2.batch.client, .int .i64 e_2.batch.req, v2, .int .u64 e_2.ts])]) rfl rfl (by go_simp <;> rfl)) ?_; clear Z a; intro a Z
    refine h_bslice Z H (vs := [(0, .agg #[.int .i64 2, .int .i64 i, .int .u64 0, .int .i64 0, .slice none 0 0, .int .u64 0, .slice none 0 0, .int .i64 e_2.batch.client, .int .i64 e_2.batch.req, v2, .int .u64 e_2.ts, .int .i64 0, .int .u64 0, .int .i64 0, .int .i64 0, .int .i64 0, .int .i64 0, .int .i64 0])]) (cl := [.int .i64 2, .int .i64 i, .int .u64 0, .int .i64 0, .slice none 0 0, .int .u64 0, .slice none 0 0, .int .i64 e_2.batch.client, .int .i64 e_2.batch.req, v2, .int .u64 e_2.ts, .int .i64 0, .int .u64 0, .int .i64 0, .int .i64 0, .int .i64 0, .int .i64 0, .int .i64 0]) (e := 82) rfl rfl rfl (by decide) rfl rfl (fun w => run_bslice (z := .agg #[.int .i64 0, .int .i64 0, .int .u64 0, .int .i64 0, .slice none 0 0, .int .u64 0, .slice none 0 0, .int .i64 0, .int .i64 0, .slice none 0 0, .int .u64 0, .int .i64 0, .int .u64 0, .int .i64 0, .int .i64 0, .int .i64 0, .int .i64 0, .int .i64 0]) (m := 18) Try.underlying45 (by kernel_rfl) rfl rfl (by decide) (by simp [Instr.fill, Value.cells]) w) ?_; clear Z a H; intro a w8 b3 H Z
    refine s_runk tAd5 Z 2 rfl rfl ?_; clear Z a; intro a Z
    refine s_end Z [6, 7] rfl ?_; clear Z; intro Z
    refine p_then (wp_ret ?_)
    replace H : Hf I D w I3 w8 [SlC NEMember (.slice none 0 0) ([] : List EMember), BxC b3 82 [.int .i64 2, .int .i64 i, .int .u64 0, .int .i64 0, .slice none 0 0, .int .u64 0, .slice none 0 0, .int .i64 e_2.batch.client, .int .i64 e_2.batch.req, v2, .int .u64 e_2.ts, .int .i64 0, .int .u64 0, .int .i64 0, .int .i64 0, .int .i64 0, .int .i64 0, .int .i64 0], OErlog_Log b_l s0.2, BxC b1 57 (cEEntry e_2 v2), SlC NEOp v2 e_2.batch.ops, BxC b2 57 (cEEntry a0.1 q1), SlC NEOp q1 a0.1.batch.ops] := H.slNil NEMember
    replace H : Hf I D w I3 w8 [SlC Ni64 (.slice none 0 0) ([] : List Int), SlC NEMember (.slice none 0 0) ([] : List EMember), BxC b3 82 [.int .i64 2, .int .i64 i, .int .u64 0, .int .i64 0, .slice none 0 0, .int .u64 0, .slice none 0 0, .int .i64 e_2.batch.client, .int .i64 e_2.batch.req, v2, .int .u64 e_2.ts, .int .i64 0, .int .u64 0, .int .i64 0, .int .i64 0, .int .i64 0, .int .i64 0, .int .i64 0], OErlog_Log b_l s0.2, BxC b1 57 (cEEntry e_2 v2), SlC NEOp v2 e_2.batch.ops, BxC b2 57 (cEEntry a0.1 q1), SlC NEOp q1 a0.1.batch.ops] := H.slNil Ni64
    obtain ⟨I4, _, H⟩ := H.frzlit 2 rfl (R := NENote) [[.int .i64 2, .int .i64 i, .int .u64 0, .int .i64 0, .slice none 0 0, .int .u64 0, .slice none 0 0, .int .i64 e_2.batch.client, .int .i64 e_2.batch.req, v2, .int .u64 e_2.ts, .int .i64 0, .int .u64 0, .int .i64 0, .int .i64 0, .int .i64 0, .int .i64 0, .int .i64 0]] [({ (default : ENote) with k := 2, n := i, entry := e_2 } : ENote)] rfl rfl (fun i h1 h2 => by match i, h1, h2 with | 0, _, _ => exact ⟨_, _, _, rfl, (H.sl 1 rfl), (H.sl 0 rfl), (H.sl 5 rfl)⟩) (show 1 ≤ maxLen from by decide) (n := 1) rfl
    replace H : Hf I D w I4 w8 [SlC NENote (.slice (some ⟨b3, 0, none⟩) 1 1) [({ (default : ENote) with k := 2, n := i, entry := e_2 } : ENote)], SlC Ni64 (.slice none 0 0) ([] : List Int), SlC NEMember (.slice none 0 0) ([] : List EMember), OErlog_Log b_l s0.2, BxC b1 57 (cEEntry e_2 v2), SlC NEOp v2 e_2.batch.ops, BxC b2 57 (cEEntry a0.1 q1), SlC NEOp q1 a0.1.batch.ops] := H
    obtain rfl := some_in hF
    exact f_ret Z (run_results2 rfl Z rfl rfl) ⟨.slice (some ⟨b3, 0, none⟩) 1 1, rfl, I4, (H.sub [(3, false), (0, true)] rfl).eq rfl⟩
 ·skip
  refine wp_seq (f_region Z ?_); clear Z; intro Z
  refine s_runk tAd5 Z 1 rfl rfl ?_; clear Z a; intro a Z
  refine s_end Z [0, 1, 5, 6, 7, 8, 9, 16] rfl ?_; clear Z; intro Z
  refine p_then ?_
  refine f_cond Z rfl (fun hc3 => ?_) (fun hc3 => ?_)
  ·replace hF := ite_t hc3 hF
   obtain ⟨o, hx4, hF⟩ := bnd_in hF
   refine f_region Z ?_; clear Z; intro Z
   refine s_ob Z (v := .agg #[.int .i64 a0.1.batch.client, .int .i64 a0.1.batch.req, q1, .int .u64 a0.1.ts]) rfl rfl (by decide) rfl (Ob_loads tAd5 rfl rfl rfl ((H.bx 0 rfl).part 0 rfl)) ?_; clear Z a; intro a Z
   refine h_bslice Z H (vs := [(0, .agg #[.int .i64 a0.1.batch.client, .int .i64 a0.1.batch.req, q1, .int .u64 a0.1.ts])]) (cl := [.int .i64 a0.1.batch.client, .int .i64 a0.1.batch.req, q1, .int .u64 a0.1.ts]) (e := 57) rfl rfl rfl (by decide) rfl rfl (fun w => run_bslice (z := .agg #[.int .i64 0, .int .i64 0, .slice none 0 0, .int .u64 0]) (m := 4) Try.underlying22 (by kernel_rfl) rfl rfl (by decide) (by simp [Instr.fill, Value.cells]) w) ?_; clear Z a H; intro a w9 b4 H Z
   refine s_ob Z (v := .agg #[.int .i64 e.batch.client, .int .i64 e.batch.req, v1_e, .int .u64 e.ts]) rfl rfl (by decide) rfl (Ob_loads tAd5 rfl rfl rfl ((H.bx 4 rfl).part 0 rfl)) ?_; clear Z a; intro a Z
   obtain ⟨I5, _, H⟩ := H.frzlit 0 rfl (R := NEEntry) [[.int .i64 a0.1.batch.client, .int .i64 a0.1.batch.req, q1, .int .u64 a0.1.ts]] [a0.1] rfl rfl (fun i h1 h2 => by match i, h1, h2 with | 0, _, _ => exact ⟨_, rfl, (H.sl 3 rfl)⟩) (show 1 ≤ maxLen from by decide) (n := 1) rfl
   replace H : Hf I D w I5 w9 [SlC NEEntry (.slice (some ⟨b4, 0, none⟩) 1 1) [a0.1], BxC b2 57 (cEEntry a0.1 q1), OErlog_Log b_l l, SlC NEOp q1 a0.1.batch.ops, BxC b1 57 (cEEntry e v1_e), SlC NEOp v1_e e.batch.ops] := H
   refine h_call Z H (js := [(0, true), (5, true)]) rfl (caps := #[]) fn_66_YAd5 rfl rfl rfl rfl rfl (by decide) rfl rfl (fun D1 hS => have hq := c_adopt_One hx4 hS; hq) ?_; clear Z a; intro vv a w10 D2 hr hF2 Z
   obtain ⟨q2, rfl, I6, K⟩ := hr
   have H : Hf I D w I6 w10 [SlC NEOp q2 o.batch.ops, SlC NEEntry (.slice (some ⟨b4, 0, none⟩) 1 1) [a0.1], BxC b2 57 (cEEntry a0.1 q1), OErlog_Log b_l l, SlC NEOp q1 a0.1.batch.ops, BxC b1 57 (cEEntry e v1_e), SlC NEOp v1_e e.batch.ops] := hF2 K
   clear hF2 K
   refine h_store tAd5 Z H 5 rfl rfl rfl rfl rfl rfl rfl rfl rfl (one_cons rfl (one_cons rfl (one_cons (slS.one (H.slshape 0 rfl)) (one_cons rfl one_nil)))) (Nat.le_of_ble_eq_true rfl) rfl ?_; clear H; intro w11 H
   dsimp only [List.eraseIdx] at H
   refine s_end Z [0, 1, 5, 6, 7, 8, 9] rfl ?_; clear Z; intro Z
   refine p_then ?_
   replace H : Hf I D w I6 w11 [OEEntry b1 o, SlC NEOp q2 o.batch.ops, SlC NEEntry (.slice (some ⟨b4, 0, none⟩) 1 1) [a0.1], BxC b2 57 (cEEntry a0.1 q1), OErlog_Log b_l l, SlC NEOp q1 a0.1.batch.ops, SlC NEOp v1_e e.batch.ops] := H.shutX (q2) [(0, false), (0, true)] rfl
   exact ⟨o, Z.sub (ts := [0, 1, 5, 6, 7, 8, 9]) rfl, ⟨I6, (H.sub [(4, false), (0, false), (2, false), (2, true)] rfl).eq rfl⟩, hF⟩
  ·replace hF := ite_f hc3 hF
   refine wp_skip ?_
   refine p_then ?_
   replace H : Hf I D w I1 w4 [OEEntry b1 e, BxC b2 57 (cEEntry a0.1 q1), OErlog_Log b_l l, SlC NEOp q1 a0.1.batch.ops, SlC NEOp v1_e e.batch.ops] := H.shutX (v1_e) [(3, false), (3, true)] rfl
   exact ⟨e, Z.sub (ts := [0, 1, 5, 6, 7, 8, 9]) rfl, ⟨I1, (H.sub [(2, false), (0, false), (0, false), (0, true)] rfl).eq rfl⟩, hF⟩

def F_rlog_Log_none_nil : Option Bool := some true

set_option maxHeartbeats 1000000 in
theorem c_rlog_Log_none_nil {I D : Dm} {w : World} {rr : Bool} (hF : F_rlog_Log_none_nil = some rr) (H : St I D w []) :
  Calls Try.prog 74 #[.pointer none] w (Ret fun vv w' => vv = .bool rr ∧ ∃ I', Hf I D w I' w' []) := by
 replace H := H.hf
 unfold F_rlog_Log_none_nil at hF
 refine f_enter 12 Try.func74 rfl rfl (Nat.le_of_ble_eq_true rfl) fun a Z => ?_
 replace Z := Z.sub (ts := [0]) rfl
 refine wp_seq (f_region Z ?_); clear Z; intro Z
 refine s_runk tAd5 Z 1 rfl rfl ?_; clear Z a; intro a Z
 refine s_end Z [0, 2] rfl ?_; clear Z; intro Z
 refine p_then (wp_seq (f_region Z ?_)); clear Z; intro Z
 refine s_runk tAd5 Z 1 rfl rfl ?_; clear Z a; intro a Z
 refine s_ob Z (v := .bool true) rfl rfl (by decide) rfl (Ob_pnil rfl rfl rfl Try.underlying83 (.inl ⟨rfl, rfl⟩)) ?_; clear Z a; intro a Z
 refine s_runk tAd5 Z 1 rfl rfl ?_; clear Z a; intro a Z
 refine g_if Z rfl rfl rfl (p := false) rfl rfl (by decide) (fun h => by cases h) ?_; clear Z; intro _ a Z
 refine g_if Z rfl rfl rfl (p := false) rfl rfl (by decide) (fun h => by cases h) ?_; clear Z; intro _ a Z
 refine g_if Z rfl rfl rfl (p := false) rfl rfl (by decide) (fun h => by cases h) ?_; clear Z; intro _ a Z
 refine g_if Z rfl rfl rfl (p := false) rfl rfl (by decide) (fun h => by cases h) ?_; clear Z; intro _ a Z
 refine g_if Z rfl rfl rfl (p := false) rfl rfl (by decide) (fun h => by cases h) ?_; clear Z; intro _ a Z
 refine s_ob Z (v := .bool true) rfl rfl (by decide) rfl (Ob_pick rfl rfl rfl rfl rfl) ?_; clear Z a; intro a Z
 refine s_runk tAd5 Z 1 rfl rfl ?_; clear Z a; intro a Z
 refine s_end Z [2] rfl ?_; clear Z; intro Z
 refine p_then (wp_ret ?_)
 obtain rfl := some_in hF
 exact f_ret Z (run_results1 rfl Z rfl) ⟨rfl, I, (H.sub [] rfl).eq rfl⟩

def F_rlog_Log_At_nil (i : Int) : Option (EEntry × Bool) := none

set_option maxHeartbeats 1000000 in
theorem c_rlog_Log_At_nil {I D : Dm} {i : Int} {w : World} {rr : EEntry × Bool} (hF : F_rlog_Log_At_nil i = some rr) (H : St I D w []) :
  Calls Try.prog 65 #[.pointer none, .int .i64 i] w (Ret fun vv w' => ∃ q1 : Value, vv = .tuple #[.agg #[.int .i64 rr.1.batch.client, .int .i64 rr.1.batch.req, q1, .int .u64 rr.1.ts], .bool rr.2] ∧ ∃ I', Hf I D w I' w' [SlC NEOp q1 rr.1.batch.ops]) := by
 replace H := H.hf
 unfold F_rlog_Log_At_nil at hF
 refine f_enter 30 Try.func65 rfl rfl (Nat.le_of_ble_eq_true rfl) fun a Z => ?_
 replace Z := Z.sub (ts := [0, 1]) rfl
 refine wp_seq (f_region Z ?_); clear Z; intro Z
 refine h_alloc Z H (cl := [.int .i64 0, .int .i64 0, .slice none 0 0, .int .u64 0]) (z := .agg #[.int .i64 0, .int .i64 0, .slice none 0 0, .int .u64 0]) rfl rfl rfl (by decide) rfl (by kernel_rfl) rfl ?_; clear Z a H; intro a w1 b1 H Z
 refine s_runk tAd5 Z 1 rfl rfl ?_; clear Z a; intro a Z
 refine s_end Z [0, 1, 4, 5] rfl ?_; clear Z; intro Z
 refine p_then (wp_seq ?_)
 refine wp_seq ?_
 cases hF

def F_rlog_Log_may_nil (i : Int) (e : EEntry) : Option Int := none

set_option maxHeartbeats 1000000 in
theorem c_rlog_Log_may_nil {I D : Dm} {i : Int} {e : EEntry} {v1_e : Value} {w : World} {rr : Int} (hF : F_rlog_Log_may_nil i e = some rr) (H : St I D w [SlC NEOp v1_e e.batch.ops]) :
  Calls Try.prog 75 #[.pointer none, .int .i64 i, .agg #[.int .i64 e.batch.client, .int .i64 e.batch.req, v1_e, .int .u64 e.ts]] w (Ret fun vv w' => vv = .int .i64 rr ∧ ∃ I', Hf I D w I' w' []) := by
 replace H := H.hf
 unfold F_rlog_Log_may_nil at hF
 refine f_enter 77 Try.func75 rfl rfl (Nat.le_of_ble_eq_true rfl) fun a Z => ?_
 replace Z := Z.sub (ts := [0, 1, 2]) rfl
 refine wp_seq (f_region Z ?_); clear Z; intro Z
 refine h_boxv Z H (cl := [.int .i64 e.batch.client, .int .i64 e.batch.req, v1_e, .int .u64 e.ts]) rfl rfl rfl (by decide) rfl rfl rfl ?_; clear Z a H; intro a w1 b1 H Z
 refine s_runk tAd5 Z 1 rfl rfl ?_; clear Z a; intro a Z
 refine s_end Z [0, 1, 5, 6] rfl ?_; clear Z; intro Z
 refine p_then (wp_seq ?_)
 refine wp_seq ?_
 cases hF

def F_rlog_Log_Set_nil (i : Int) (e : EEntry) : Option Int := (F_rlog_Log_none_nil).bind fun n0 => (if (n0) = true then (some 8) else ((F_rlog_Log_may_nil i e).bind fun n0_2 => (if (n0_2 != 0) = true then (some n0_2) else (none))))

set_option maxHeartbeats 1000000 in
theorem c_rlog_Log_Set_nil {I D : Dm} {i : Int} {e : EEntry} {v1_e : Value} {w : World} {rr : Int} (hF : F_rlog_Log_Set_nil i e = some rr) (H : St I D w [SlC NEOp v1_e e.batch.ops]) :
  Calls Try.prog 64 #[.pointer none, .int .i64 i, .agg #[.int .i64 e.batch.client, .int .i64 e.batch.req, v1_e, .int .u64 e.ts]] w (Ret fun vv w' => vv = .int .i64 rr ∧ ∃ I', Hf I D w I' w' []) := by
 replace H := H.hf
 unfold F_rlog_Log_Set_nil at hF
 refine f_enter 107 Try.func64 rfl rfl (Nat.le_of_ble_eq_true rfl) fun a Z => ?_
 replace Z := Z.sub (ts := [0, 1, 2]) rfl
 refine wp_seq (f_region Z ?_); clear Z; intro Z
 refine h_boxv Z H (cl := [.int .i64 e.batch.client, .int .i64 e.batch.req, v1_e, .int .u64 e.ts]) rfl rfl rfl (by decide) rfl rfl rfl ?_; clear Z a H; intro a w1 b1 H Z
 refine s_runk tAd5 Z 1 rfl rfl ?_; clear Z a; intro a Z
 refine s_end Z [0, 1, 5, 6] rfl ?_; clear Z; intro Z
 refine p_then (wp_seq ?_)
 refine wp_seq ?_
 obtain ⟨n0, hx1, hF⟩ := bnd_in hF
 refine f_region Z ?_; clear Z; intro Z
 refine s_runk tAd5 Z 1 rfl rfl ?_; clear Z a; intro a Z
 refine h_call Z H (js := []) rfl (caps := #[]) fn_74_YAd5 rfl rfl rfl rfl rfl (by decide) rfl rfl (fun D1 hS => have hq := c_rlog_Log_none_nil hx1 hS; hq) ?_; clear Z a; intro vv a w2 D2 hr hF2 Z
 obtain ⟨rfl, I1, K⟩ := hr
 have H : Hf I D w I1 w2 [BxC b1 57 (cEEntry e v1_e), SlC NEOp v1_e e.batch.ops] := hF2 K
 clear hF2 K
 refine s_end Z [0, 1, 5, 6, 10] rfl ?_; clear Z; intro Z
 refine p_then ?_
 refine f_cond Z rfl (fun hc1 => ?_) (fun hc1 => ?_)
 ·replace hF := ite_t hc1 hF
  refine wp_seq (f_region Z ?_); clear Z; intro Z
  refine s_runk tAd5 Z 1 rfl rfl ?_; clear Z a; intro a Z
  refine s_end Z [0, 1, 5, 6] rfl ?_; clear Z; intro Z
  refine p_then (wp_ret ?_)
  refine p_then_r ?_
  obtain rfl := some_in hF
  exact f_ret Z (run_results1 rfl Z rfl) ⟨rfl, I1, (H.sub [] rfl).eq rfl⟩
 ·replace hF := ite_f hc1 hF
  refine wp_skip ?_
  refine p_then (wp_seq ?_)
  refine wp_seq ?_
  obtain ⟨n0_2, hx2, hF⟩ := bnd_in hF
  refine f_region Z ?_; clear Z; intro Z
  refine s_runk tAd5 Z 2 rfl rfl ?_; clear Z a; intro a Z
  refine s_ob Z (v := .agg #[.int .i64 e.batch.client, .int .i64 e.batch.req, v1_e, .int .u64 e.ts]) rfl rfl (by decide) rfl (Ob_loads tAd5 rfl rfl rfl ((H.bx 0 rfl).part 0 rfl)) ?_; clear Z a; intro a Z
  refine h_call Z H (js := [(1, true)]) rfl (caps := #[]) fn_75_YAd5 rfl rfl rfl rfl rfl (by decide) rfl rfl (fun D1 hS => have hq := c_rlog_Log_may_nil hx2 hS; hq) ?_; clear Z a; intro vv a w3 D2 hr hF2 Z
  obtain ⟨rfl, I2, K⟩ := hr
  have H : Hf I D w I2 w3 [BxC b1 57 (cEEntry e v1_e), SlC NEOp v1_e e.batch.ops] := hF2 K
  clear hF2 K
  refine s_runk tAd5 Z 1 rfl rfl ?_; clear Z a; intro a Z
  refine s_end Z [0, 1, 5, 6, 7] rfl ?_; clear Z; intro Z
  refine p_then (wp_seq (f_region Z ?_)); clear Z; intro Z
  refine s_runk tAd5 Z 2 rfl rfl ?_; clear Z a; intro a Z
  refine s_end Z [0, 1, 5, 6, 7, 16] rfl ?_; clear Z; intro Z
  refine p_then ?_
  refine f_cond Z rfl (fun hc2 => ?_) (fun hc2 => ?_)
  ·replace hF := ite_t hc2 hF
   refine wp_seq (f_region Z ?_); clear Z; intro Z
   refine s_runk tAd5 Z 2 rfl rfl ?_; clear Z a; intro a Z
   refine s_end Z [0, 1, 5, 6] rfl ?_; clear Z; intro Z
   refine p_then (wp_ret ?_)
   refine p_then_r ?_
   obtain rfl := some_in hF
   exact f_ret Z (run_results1 rfl Z rfl) ⟨rfl, I2, (H.sub [] rfl).eq rfl⟩
  ·replace hF := ite_f hc2 hF
   refine wp_skip ?_
   refine p_then (wp_seq ?_)
   refine wp_seq ?_
   cases hF

def F_adopt_lay_nil_k1 (i : Int) (n0 : EEntry × Bool) (e_2 : EEntry) : Option ((List ENote) × Bool) := (gif n0.2 (F_item_Twins n0.1 e_2) default).bind fun t => (if ((n0.2 && t) && (n0.1.ts == e_2.ts)) = true then (some (([] : List ENote), true)) else ((F_rlog_Log_Set_nil i e_2).bind fun n0_2 => (if (n0_2 != 0) = true then (some (([] : List ENote), false)) else (some ([({ (default : ENote) with k := 2, n := i, entry := e_2 } : ENote)], true)))))

def F_adopt_lay_nil (i : Int) (e : EEntry) : Option ((List ENote) × Bool) := (F_rlog_Log_At_nil i).bind fun n0 => (if (n0.2) = true then ((F_adopt_One [n0.1] 0 e).bind fun o => (F_adopt_lay_nil_k1 i n0 o)) else (F_adopt_lay_nil_k1 i n0 e))

set_option maxHeartbeats 1000000 in
theorem c_adopt_lay_nil {I D : Dm} {i : Int} {e : EEntry} {v1_e : Value} {w : World} {rr : (List ENote) × Bool} (hF : F_adopt_lay_nil i e = some rr) (H : St I D w [SlC NEOp v1_e e.batch.ops]) :
  Calls Try.prog 48 #[.pointer none, .int .i64 i, .agg #[.int .i64 e.batch.client, .int .i64 e.batch.req, v1_e, .int .u64 e.ts]] w (Ret fun vv w' => ∃ q1 : Value, vv = .tuple #[q1, .bool rr.2] ∧ ∃ I', Hf I D w I' w' [SlC NENote q1 rr.1]) := by
 replace H := H.hf
 unfold F_adopt_lay_nil at hF
 refine f_enter 43 Try.func48 rfl rfl (Nat.le_of_ble_eq_true rfl) fun a Z => ?_
 replace Z := Z.sub (ts := [0, 1, 2]) rfl
 refine wp_seq (f_region Z ?_); clear Z; intro Z
 refine h_boxv Z H (cl := [.int .i64 e.batch.client, .int .i64 e.batch.req, v1_e, .int .u64 e.ts]) rfl rfl rfl (by decide) rfl rfl rfl ?_; clear Z a H; intro a w1 b1 H Z
 refine s_runk tAd5 Z 2 rfl rfl ?_; clear Z a; intro a Z
 refine s_end Z [0, 1, 5, 6, 7] rfl ?_; clear Z; intro Z
 refine p_then (wp_seq ?_)
 obtain ⟨n0, hx1, hF⟩ := bnd_in hF
 refine f_region Z ?_; clear Z; intro Z
 refine s_runk tAd5 Z 2 rfl rfl ?_; clear Z a; intro a Z
 refine h_call Z H (js := []) rfl (caps := #[]) fn_65_YAd5 rfl rfl rfl rfl rfl (by decide) rfl rfl (fun D1 hS => have hq := c_rlog_Log_At_nil hx1 hS; hq) ?_; clear Z a; intro vv a w2 D2 hr hF2 Z
 obtain ⟨q1, rfl, I1, K⟩ := hr
 have H : Hf I D w I1 w2 [SlC NEOp q1 n0.1.batch.ops, BxC b1 57 (cEEntry e v1_e), SlC NEOp v1_e e.batch.ops] := hF2 K
 clear hF2 K
 refine s_runk tAd5 Z 3 rfl rfl ?_; clear Z a; intro a Z
 refine h_alloc Z H (cl := [.int .i64 0, .int .i64 0, .slice none 0 0, .int .u64 0]) (z := .agg #[.int .i64 0, .int .i64 0, .slice none 0 0, .int .u64 0]) rfl rfl rfl (by decide) rfl (by kernel_rfl) rfl ?_; clear Z a H; intro a w3 b2 H Z
 refine h_store tAd5 Z H 0 rfl rfl rfl rfl rfl rfl rfl rfl rfl (one_cons rfl (one_cons rfl (one_cons (slS.one (H.slshape 1 rfl)) (one_cons rfl one_nil)))) (Nat.le_of_ble_eq_true rfl) rfl ?_; clear H; intro w4 H
 dsimp only [List.eraseIdx] at H
 refine s_runk tAd5 Z 1 rfl rfl ?_; clear Z a; intro a Z
 refine s_end Z [0, 1, 5, 6, 7, 8, 9] rfl ?_; clear Z; intro Z
 refine p_then ?_
 refine f_cut (fun a' w' => ∃ (e_2 : EEntry), Sl 43 [(0, .pointer none), (1, .int .i64 i), (5, .pointer (some ⟨b1, 0, none⟩)), (6, .slice none 0 0), (7, .bool false), (8, .pointer (some ⟨b2, 0, none⟩)), (9, .bool n0.2)] a' ∧ (∃ I2, Hf I D w I2 w' [OEEntry b1 e_2, BxC b2 57 (cEEntry n0.1 q1), SlC NEOp q1 n0.1.batch.ops]) ∧ F_adopt_lay_nil_k1 i n0 e_2 = some rr) ?_ ?_
 ·rintro a w5 ⟨e_2, Z, ⟨I2, H⟩, hF⟩
  unfold F_adopt_lay_nil_k1 at hF
  try dsimp only at hF
  refine wp_seq ?_
  refine wp_seq ?_
  obtain ⟨t, hx2, hF⟩ := bnd_in hF
  refine f_region Z ?_; clear Z; intro Z
  refine s_runk tAd5 Z 2 rfl rfl ?_; clear Z a; intro a Z
  refine g_ob Z (p := n0.2) (v := .agg #[.int .i64 n0.1.batch.client, .int .i64 n0.1.batch.req, q1, .int .u64 n0.1.ts]) (S' := [(8, .pointer (some ⟨b2, 0, none⟩))]) rfl rfl rfl (wantB_t _) rfl (by decide) (fun hp hS => hS.sub (ts := [8]) rfl) (fun hp => Ob_loads tAd5 rfl rfl rfl ((H.bx 1 rfl).part 0 rfl)) ?_; clear Z a; intro a Z
  obtain ⟨v2, H⟩ := H.openX 0 rfl
  replace H : Hf I D w I2 w5 [BxC b1 57 (cEEntry e_2 v2), SlC NEOp v2 e_2.batch.ops, BxC b2 57 (cEEntry n0.1 q1), SlC NEOp q1 n0.1.batch.ops] := H
  refine g_ob Z (p := n0.2) (v := .agg #[.int .i64 e_2.batch.client, .int .i64 e_2.batch.req, v2, .int .u64 e_2.ts]) (S' := [(5, .pointer (some ⟨b1, 0, none⟩))]) rfl rfl rfl (wantB_t _) rfl (by decide) (fun hp hS => hS.sub (ts := [5]) rfl) (fun hp => Ob_loads tAd5 rfl rfl rfl ((H.bx 0 rfl).part 0 rfl)) ?_; clear Z a; intro a Z
  refine g_call Z (p := n0.2) (v := .bool t) (S' := [(23, .agg #[.int .i64 n0.1.batch.client, .int .i64 n0.1.batch.req, q1, .int .u64 n0.1.ts]), (24, .agg #[.int .i64 e_2.batch.client, .int .i64 e_2.batch.req, v2, .int .u64 e_2.ts])]) (caps := #[]) fn_67_YAd5 rfl rfl rfl (wantB_t _) rfl (by decide) (fun hp hS => ((hS.conv (t := 23) rfl (cond_t hp)).conv (t := 24) rfl (cond_t hp)).sub (ts := [23, 24]) rfl) rfl rfl rfl rfl (fun hp => (have hq := c_item_Twins (gif_in hx2 hp) ((H).pick0 (js := [(3, true), (1, true)]) rfl rfl); plainC hq)) ?_; clear Z a; intro a w6 hb Z
  replace H : Hf I D w I2 w6 [BxC b1 57 (cEEntry e_2 v2), SlC NEOp v2 e_2.batch.ops, BxC b2 57 (cEEntry n0.1 q1), SlC NEOp q1 n0.1.batch.ops] := H.blw hb
  clear hb
  refine s_ob Z (v := .bool (n0.2 && t)) rfl rfl (by decide) rfl (Ob_pick rfl rfl rfl rfl (pick_and _ _)) ?_; clear Z a; intro a Z
  refine s_runk tAd5 Z 1 rfl rfl ?_; clear Z a; intro a Z
  refine g_ob Z (p := (n0.2 && t)) (v := .pointer (some ⟨b2, 3, none⟩)) (S' := [(8, .pointer (some ⟨b2, 0, none⟩))]) rfl rfl rfl (wantB_t _) rfl (by decide) (fun hp hS => hS.sub (ts := [8]) rfl) (fun hp => Ob_c tAd5 rfl) ?_; clear Z a; intro a Z
  refine g_ob Z (p := (n0.2 && t)) (v := .int .u64 n0.1.ts) (S' := [(28, .pointer (some ⟨b2, 3, none⟩))]) rfl rfl rfl (wantB_t _) rfl (by decide) (fun hp hS => (hS.conv (t := 28) rfl (cond_t hp)).sub (ts := [28]) rfl) (fun hp => Ob_load tAd5 rfl rfl rfl ((H.bx 2 rfl).cell 3 rfl)) ?_; clear Z a; intro a Z
  refine g_ob Z (p := (n0.2 && t)) (v := .pointer (some ⟨b1, 3, none⟩)) (S' := [(5, .pointer (some ⟨b1, 0, none⟩))]) rfl rfl rfl (wantB_t _) rfl (by decide) (fun hp hS => hS.sub (ts := [5]) rfl) (fun hp => Ob_c tAd5 rfl) ?_; clear Z a; intro a Z
  refine g_ob Z (p := (n0.2 && t)) (v := .int .u64 e_2.ts) (S' := [(30, .pointer (some ⟨b1, 3, none⟩))]) rfl rfl rfl (wantB_t _) rfl (by decide) (fun hp hS => (hS.conv (t := 30) rfl (cond_t hp)).sub (ts := [30]) rfl) (fun hp => Ob_load tAd5 rfl rfl rfl ((H.bx 0 rfl).cell 3 rfl)) ?_; clear Z a; intro a Z
  refine g_ob Z (p := (n0.2 && t)) (v := .bool (n0.1.ts == e_2.ts)) (S' := [(29, .int .u64 n0.1.ts), (31, .int .u64 e_2.ts)]) rfl rfl rfl (wantB_t _) rfl (by decide) (fun hp hS => ((hS.conv (t := 29) rfl (cond_t hp)).conv (t := 31) rfl (cond_t hp)).sub (ts := [29, 31]) rfl) (fun hp => Ob_c tAd5 rfl) ?_; clear Z a; intro a Z
  refine s_ob Z (v := .bool ((n0.2 && t) && (n0.1.ts == e_2.ts))) rfl rfl (by decide) rfl (Ob_pick rfl rfl rfl rfl (pick_and _ _)) ?_; clear Z a; intro a Z
  refine s_end Z [0, 1, 5, 6, 7, 33] rfl ?_; clear Z; intro Z
  refine p_then ?_
  refine f_cond Z rfl (fun hc1 => ?_) (fun hc1 => ?_)
  ·replace hF := ite_t hc1 hF
   refine wp_seq (f_region Z ?_); clear Z; intro Z
   refine s_runk tAd5 Z 2 rfl rfl ?_; clear Z a; intro a Z
   refine s_end Z [0, 1, 5, 6, 7] rfl ?_; clear Z; intro Z
   refine p_then (wp_ret ?_)
   refine p_then_r ?_
   replace H : Hf I D w I2 w6 [SlC NENote (.slice none 0 0) ([] : List ENote), BxC b1 57 (cEEntry e_2 v2), SlC NEOp v2 e_2.batch.ops, BxC b2 57 (cEEntry n0.1 q1), SlC NEOp q1 n0.1.batch.ops] := H.slNil NENote
   obtain rfl := some_in hF
   exact f_ret Z (run_results2 rfl Z rfl rfl) ⟨.slice none 0 0, rfl, I2, (H.sub [(0, true)] rfl).eq rfl⟩
  ·replace hF := ite_f hc1 hF
   refine wp_skip ?_
   refine p_then (wp_seq ?_)
   refine wp_seq ?_
   obtain ⟨n0_2, hx3, hF⟩ := bnd_in hF
   refine f_region Z ?_; clear Z; intro Z
   refine s_runk tAd5 Z 2 rfl rfl ?_; clear Z a; intro a Z
   refine s_ob Z (v := .agg #[.int .i64 e_2.batch.client, .int .i64 e_2.batch.req, v2, .int .u64 e_2.ts]) rfl rfl (by decide) rfl (Ob_loads tAd5 rfl rfl rfl ((H.bx 0 rfl).part 0 rfl)) ?_; clear Z a; intro a Z
   refine h_call Z H (js := [(1, true)]) rfl (caps := #[]) fn_64_YAd5 rfl rfl rfl rfl rfl (by decide) rfl rfl (fun D1 hS => have hq := c_rlog_Log_Set_nil hx3 hS; hq) ?_; clear Z a; intro vv a w7 D2 hr hF2 Z
   obtain ⟨rfl, I3, K⟩ := hr
   have H : Hf I D w I3 w7 [BxC b1 57 (cEEntry e_2 v2), SlC NEOp v2 e_2.batch.ops, BxC b2 57 (cEEntry n0.1 q1), SlC NEOp q1 n0.1.batch.ops] := hF2 K
   clear hF2 K
   refine s_runk tAd5 Z 1 rfl rfl ?_; clear Z a; intro a Z
   refine s_end Z [1, 5, 6, 7, 38] rfl ?_; clear Z; intro Z
   refine p_then ?_
   refine f_cond Z rfl (fun hc2 => ?_) (fun hc2 => ?_)
   ·replace hF := ite_t hc2 hF
    refine wp_seq (f_region Z ?_); clear Z; intro Z
    refine s_runk tAd5 Z 2 rfl rfl ?_; clear Z a; intro a Z
    refine s_end Z [1, 5, 6, 7] rfl ?_; clear Z; intro Z
    refine p_then (wp_ret ?_)
    refine p_then_r ?_
    replace H : Hf I D w I3 w7 [SlC NENote (.slice none 0 0) ([] : List ENote), BxC b1 57 (cEEntry e_2 v2), SlC NEOp v2 e_2.batch.ops, BxC b2 57 (cEEntry n0.1 q1), SlC NEOp q1 n0.1.batch.ops] := H.slNil NENote
    obtain rfl := some_in hF
    exact f_ret Z (run_results2 rfl Z rfl rfl) ⟨.slice none 0 0, rfl, I3, (H.sub [(0, true)] rfl).eq rfl⟩
   ·replace hF := ite_f hc2 hF
    refine wp_skip ?_
    refine p_then (wp_seq (f_region Z ?_)); clear Z; intro Z
    refine s_runk tAd5 Z 1 rfl rfl ?_; clear Z a; intro a Z
    refine s_ob Z (v := .agg #[.int .i64 e_2.batch.client, .int .i64 e_2.batch.req, v2, .int .u64 e_2.ts]) rfl rfl (by decide) rfl (Ob_loads tAd5 rfl rfl rfl ((H.bx 0 rfl).part 0 rfl)) ?_; clear Z a; intro a Z
    refine s_ob Z (v := .agg #[.int .i64 2, .int .i64 i, .int .u64 0, .int .i64 0, .slice none 0 0, .int .u64 0, .slice none 0 0, .int .i64 e_2.batch.client, .int .i64 e_2.batch.req, v2, .int .u64 e_2.ts, .int .i64 0, .int .u64 0, .int .i64 0, .int .i64 0, .int .i64 0, .int .i64 0, .int .i64 0]) rfl rfl (by decide) rfl (Ob_build (vs := [(0, .int .i64 2), (1, .int .i64 i), (5, .agg #[.int .i64 e_2.batch.client, .int .i64 e_2.batch.req, v2, .int .u64 e_2.ts])]) rfl rfl (by go_simp <;> rfl)) ?_; clear Z a; intro a Z
    refine h_bslice Z H (vs := [(0, .agg #[.int .i64 2, .int .i64 i, .int .u64 0, .int .i64 0, .slice none 0 0, .int .u64 0, .slice none 0 0, .int .i64 e_2.batch.client, .int .i64 e_2.batch.req, v2, .int .u64 e_2.ts, .int .i64 0, .int .u64 0, .int .i64 0, .int .i64 0, .int .i64 0, .int .i64 0, .int .i64 0])]) (cl := [.int .i64 2, .int .i64 i, .int .u64 0, .int .i64 0, .slice none 0 0, .int .u64 0, .slice none 0 0, .int .i64 e_2.batch.client, .int .i64 e_2.batch.req, v2, .int .u64 e_2.ts, .int .i64 0, .int .u64 0, .int .i64 0, .int .i64 0, .int .i64 0, .int .i64 0, .int .i64 0]) (e := 82) rfl rfl rfl (by decide) rfl rfl (fun w => run_bslice (z := .agg #[.int .i64 0, .int .i64 0, .int .u64 0, .int .i64 0, .slice none 0 0, .int .u64 0, .slice none 0 0, .int .i64 0, .int .i64 0, .slice none 0 0, .int .u64 0, .int .i64 0, .int .u64 0, .int .i64 0, .int .i64 0, .int .i64 0, .int .i64 0, .int .i64 0]) (m := 18) Try.underlying45 (by kernel_rfl) rfl rfl (by decide) (by simp [Instr.fill, Value.cells]) w) ?_; clear Z a H; intro a w8 b3 H Z
    refine s_runk tAd5 Z 2 rfl rfl ?_; clear Z a; intro a Z
    refine s_end Z [6, 7] rfl ?_; clear Z; intro Z
    refine p_then (wp_ret ?_)
    replace H : Hf I D w I3 w8 [SlC NEMember (.slice none 0 0) ([] : List EMember), BxC b3 82 [.int .i64 2, .int .i64 i, .int .u64 0, .int .i64 0, .slice none 0 0, .int .u64 0, .slice none 0 0, .int .i64 e_2.batch.client, .int .i64 e_2.batch.req, v2, .int .u64 e_2.ts, .int .i64 0, .int .u64 0, .int .i64 0, .int .i64 0, .int .i64 0, .int .i64 0, .int .i64 0], BxC b1 57 (cEEntry e_2 v2), SlC NEOp v2 e_2.batch.ops, BxC b2 57 (cEEntry n0.1 q1), SlC NEOp q1 n0.1.batch.ops] := H.slNil NEMember
    replace H : Hf I D w I3 w8 [SlC Ni64 (.slice none 0 0) ([] : List Int), SlC NEMember (.slice none 0 0) ([] : List EMember), BxC b3 82 [.int .i64 2, .int .i64 i, .int .u64 0, .int .i64 0, .slice none 0 0, .int .u64 0, .slice none 0 0, .int .i64 e_2.batch.client, .int .i64 e_2.batch.req, v2, .int .u64 e_2.ts, .int .i64 0, .int .u64 0, .int .i64 0, .int .i64 0, .int .i64 0, .int .i64 0, .int .i64 0], BxC b1 57 (cEEntry e_2 v2), SlC NEOp v2 e_2.batch.ops, BxC b2 57 (cEEntry n0.1 q1), SlC NEOp q1 n0.1.batch.ops] := H.slNil Ni64
    obtain ⟨I4, _, H⟩ := H.frzlit 2 rfl (R := NENote) [[.int .i64 2, .int .i64 i, .int .u64 0, .int .i64 0, .slice none 0 0, .int .u64 0, .slice none 0 0, .int .i64 e_2.batch.client, .int .i64 e_2.batch.req, v2, .int .u64 e_2.ts, .int .i64 0, .int .u64 0, .int .i64 0, .int .i64 0, .int .i64 0, .int .i64 0, .int .i64 0]] [({ (default : ENote) with k := 2, n := i, entry := e_2 } : ENote)] rfl rfl (fun i h1 h2 => by match i, h1, h2 with | 0, _, _ => exact ⟨_, _, _, rfl, (H.sl 1 rfl), (H.sl 0 rfl), (H.sl 4 rfl)⟩) (show 1 ≤ maxLen from by decide) (n := 1) rfl
    replace H : Hf I D w I4 w8 [SlC NENote (.slice (some ⟨b3, 0, none⟩) 1 1) [({ (default : ENote) with k := 2, n := i, entry := e_2 } : ENote)], SlC Ni64 (.slice none 0 0) ([] : List Int), SlC NEMember (.slice none 0 0) ([] : List EMember), BxC b1 57 (cEEntry e_2 v2), SlC NEOp v2 e_2.batch.ops, BxC b2 57 (cEEntry n0.1 q1), SlC NEOp q1 n0.1.batch.ops] := H
    obtain rfl := some_in hF
    exact f_ret Z (run_results2 rfl Z rfl rfl) ⟨.slice (some ⟨b3, 0, none⟩) 1 1, rfl, I4, (H.sub [(0, true)] rfl).eq rfl⟩
 ·skip
  refine wp_seq (f_region Z ?_); clear Z; intro Z
  refine s_runk tAd5 Z 1 rfl rfl ?_; clear Z a; intro a Z
  refine s_end Z [0, 1, 5, 6, 7, 8, 9, 16] rfl ?_; clear Z; intro Z
  refine p_then ?_
  refine f_cond Z rfl (fun hc3 => ?_) (fun hc3 => ?_)
  ·replace hF := ite_t hc3 hF
   obtain ⟨o, hx4, hF⟩ := bnd_in hF
   refine f_region Z ?_; clear Z; intro Z
   refine s_ob Z (v := .agg #[.int .i64 n0.1.batch.client, .int .i64 n0.1.batch.req, q1, .int .u64 n0.1.ts]) rfl rfl (by decide) rfl (Ob_loads tAd5 rfl rfl rfl ((H.bx 0 rfl).part 0 rfl)) ?_; clear Z a; intro a Z
   refine h_bslice Z H (vs := [(0, .agg #[.int .i64 n0.1.batch.client, .int .i64 n0.1.batch.req, q1, .int .u64 n0.1.ts])]) (cl := [.int .i64 n0.1.batch.client, .int .i64 n0.1.batch.req, q1, .int .u64 n0.1.ts]) (e := 57) rfl rfl rfl (by decide) rfl rfl (fun w => run_bslice (z := .agg #[.int .i64 0, .int .i64 0, .slice none 0 0, .int .u64 0]) (m := 4) Try.underlying22 (by kernel_rfl) rfl rfl (by decide) (by simp [Instr.fill, Value.cells]) w) ?_; clear Z a H; intro a w9 b4 H Z
   refine s_ob Z (v := .agg #[.int .i64 e.batch.client, .int .i64 e.batch.req, v1_e, .int .u64 e.ts]) rfl rfl (by decide) rfl (Ob_loads tAd5 rfl rfl rfl ((H.bx 3 rfl).part 0 rfl)) ?_; clear Z a; intro a Z
   obtain ⟨I5, _, H⟩ := H.frzlit 0 rfl (R := NEEntry) [[.int .i64 n0.1.batch.client, .int .i64 n0.1.batch.req, q1, .int .u64 n0.1.ts]] [n0.1] rfl rfl (fun i h1 h2 => by match i, h1, h2 with | 0, _, _ => exact ⟨_, rfl, (H.sl 2 rfl)⟩) (show 1 ≤ maxLen from by decide) (n := 1) rfl
   replace H : Hf I D w I5 w9 [SlC NEEntry (.slice (some ⟨b4, 0, none⟩) 1 1) [n0.1], BxC b2 57 (cEEntry n0.1 q1), SlC NEOp q1 n0.1.batch.ops, BxC b1 57 (cEEntry e v1_e), SlC NEOp v1_e e.batch.ops] := H
   refine h_call Z H (js := [(0, true), (4, true)]) rfl (caps := #[]) fn_66_YAd5 rfl rfl rfl rfl rfl (by decide) rfl rfl (fun D1 hS => have hq := c_adopt_One hx4 hS; hq) ?_; clear Z a; intro vv a w10 D2 hr hF2 Z
   obtain ⟨q2, rfl, I6, K⟩ := hr
   have H : Hf I D w I6 w10 [SlC NEOp q2 o.batch.ops, SlC NEEntry (.slice (some ⟨b4, 0, none⟩) 1 1) [n0.1], BxC b2 57 (cEEntry n0.1 q1), SlC NEOp q1 n0.1.batch.ops, BxC b1 57 (cEEntry e v1_e), SlC NEOp v1_e e.batch.ops] := hF2 K
   clear hF2 K
   refine h_store tAd5 Z H 4 rfl rfl rfl rfl rfl rfl rfl rfl rfl (one_cons rfl (one_cons rfl (one_cons (slS.one (H.slshape 0 rfl)) (one_cons rfl one_nil)))) (Nat.le_of_ble_eq_true rfl) rfl ?_; clear H; intro w11 H
   dsimp only [List.eraseIdx] at H
   refine s_end Z [0, 1, 5, 6, 7, 8, 9] rfl ?_; clear Z; intro Z
   refine p_then ?_
   replace H : Hf I D w I6 w11 [OEEntry b1 o, SlC NEOp q2 o.batch.ops, SlC NEEntry (.slice (some ⟨b4, 0, none⟩) 1 1) [n0.1], BxC b2 57 (cEEntry n0.1 q1), SlC NEOp q1 n0.1.batch.ops, SlC NEOp v1_e e.batch.ops] := H.shutX (q2) [(0, false), (0, true)] rfl
   exact ⟨o, Z.sub (ts := [0, 1, 5, 6, 7, 8, 9]) rfl, ⟨I6, (H.sub [(0, false), (2, false), (2, true)] rfl).eq rfl⟩, hF⟩
  ·replace hF := ite_f hc3 hF
   refine wp_skip ?_
   refine p_then ?_
   replace H : Hf I D w I1 w4 [OEEntry b1 e, BxC b2 57 (cEEntry n0.1 q1), SlC NEOp q1 n0.1.batch.ops, SlC NEOp v1_e e.batch.ops] := H.shutX (v1_e) [(2, false), (2, true)] rfl
   exact ⟨e, Z.sub (ts := [0, 1, 5, 6, 7, 8, 9]) rfl, ⟨I1, (H.sub [(0, false), (0, false), (0, true)] rfl).eq rfl⟩, hF⟩

def F_adopt_Take_k1 (good_2 : Int) (out : List ENote) : Option ((List ENote) × Int) := some (out, good_2)

def F_adopt_Take_k3 (x_2 : Int) (rc : (Int × (List ENote) × Int) → Option ((List ENote) × Int)) (good_4 : Int) (out_3 : List ENote) (x_2_2 : List EOp) : Option ((List ENote) × Int) := chk (inI (x_2 + 1)) (rc (good_4, out_3, x_2 + 1))

def F_adopt_Take_l2 (from_ : Int) (l : List EEntry) (rc : (Int × (List ENote) × Int) → Option ((List ENote) × Int)) (sg : Int × (List ENote) × Int) : Option ((List ENote) × Int) := match sg with | (good_3, out_2, x_2) => if (decide (x_2 < (l.length : Int))) = true then (chk ((0 : Int) ≤ x_2 ∧ x_2 < (l.length : Int)) (chk (inI (max from_ 0 + x_2)) (if (decide (max from_ 0 + x_2 < good_3)) = true then (F_adopt_Take_k3 x_2 rc good_3 out_2 (((l.getD (x_2).toNat default).batch).ops)) else (chk (inI (max from_ 0 + x_2)) (if (decide (max from_ 0 + x_2 > good_3)) = true then (F_adopt_Take_k1 good_3 out_2) else ((F_adopt_lay_nil good_3 ({ (l.getD (x_2).toNat default) with batch := ({ client := ((l.getD (x_2).toNat default).batch).client, req := ((l.getD (x_2).toNat default).batch).req, ops := ((l.getD (x_2).toNat default).batch).ops } : EBatch) } : EEntry)).bind fun n0 => (if (!n0.2) = true then (F_adopt_Take_k1 good_3 out_2) else (chk (((out_2.length + n0.1.length : Nat) : Int) * 192 ≤ 140737488355328) (chk (inI (good_3 + 1)) (F_adopt_Take_k3 x_2 rc (good_3 + 1) (out_2 ++ n0.1) (((l.getD (x_2).toNat default).batch).ops))))))))))) else (F_adopt_Take_k1 good_3 out_2)

def F_adopt_Take_k4 (good_5 : Int) (out_4 : List ENote) : Option ((List ENote) × Int) := some (out_4, good_5)

def F_adopt_Take_k6 (x_3 : Int) (rc_2 : (Int × (List ENote) × Int × Erlog_Log) → Option ((List ENote) × Int)) (good_7 : Int) (out_6 : List ENote) (x_2_3 : List EOp) (all_2 : Erlog_Log) : Option ((List ENote) × Int) := chk (inI (x_3 + 1)) (rc_2 (good_7, out_6, x_3 + 1, all_2))

def F_adopt_Take_l5 (from_ : Int) (l : List EEntry) (rc_2 : (Int × (List ENote) × Int × Erlog_Log) → Option ((List ENote) × Int)) (sg : Int × (List ENote) × Int × Erlog_Log) : Option ((List ENote) × Int) := match sg with | (good_6, out_5, x_3, all) => if (decide (x_3 < (l.length : Int))) = true then (chk ((0 : Int) ≤ x_3 ∧ x_3 < (l.length : Int)) (chk (inI (max from_ 0 + x_3)) (if (decide (max from_ 0 + x_3 < good_6)) = true then (F_adopt_Take_k6 x_3 rc_2 good_6 out_5 (((l.getD (x_3).toNat default).batch).ops) all) else (chk (inI (max from_ 0 + x_3)) (if (decide (max from_ 0 + x_3 > good_6)) = true then (F_adopt_Take_k4 good_6 out_5) else ((F_adopt_lay all good_6 ({ (l.getD (x_3).toNat default) with batch := ({ client := ((l.getD (x_3).toNat default).batch).client, req := ((l.getD (x_3).toNat default).batch).req, ops := ((l.getD (x_3).toNat default).batch).ops } : EBatch) } : EEntry)).bind fun l_3 => (if (!l_3.2.1) = true then (F_adopt_Take_k4 good_6 out_5) else (chk (((out_5.length + l_3.1.length : Nat) : Int) * 192 ≤ 140737488355328) (chk (inI (good_6 + 1)) (F_adopt_Take_k6 x_3 rc_2 (good_6 + 1) (out_5 ++ l_3.1) (((l.getD (x_3).toNat default).batch).ops) l_3.2.2)))))))))) else (F_adopt_Take_k4 good_6 out_5)

def F_adopt_Take (own : List EEntry) (good : Int) (from_ : Int) (l : List EEntry) : Option ((List ENote) × Int) := (F_adopt_log own).bind fun l_2 => (optE l_2.1 (if (((!l_2.2) || (decide (good < 0))) || (decide (good > (own.length : Int)))) = true then (some (([] : List ENote), good)) else (iter (F_adopt_Take_l2 from_ l) FU (good, ([] : List ENote), 0))) (fun x => if (((!l_2.2) || (decide (good < 0))) || (decide (good > (own.length : Int)))) = true then (some (([] : List ENote), good)) else (iter (F_adopt_Take_l5 from_ l) FU (good, ([] : List ENote), 0, x))))

set_option maxHeartbeats 1000000 in
theorem c_adopt_Take {I D : Dm} {own : List EEntry} {v1_own : Value} {good : Int} {from_ : Int} {l : List EEntry} {v2_l : Value} {w : World} {rr : (List ENote) × Int} (hF : F_adopt_Take own good from_ l = some rr) (H : St I D w [SlC NEEntry v1_own own, SlC NEEntry v2_l l]) :
  Calls Try.prog 22 #[v1_own, .int .i64 good, .int .i64 from_, v2_l] w (Ret fun vv w' => ∃ q1 : Value, vv = .tuple #[q1, .int .i64 rr.2] ∧ ∃ I', Hf I D w I' w' [SlC NENote q1 rr.1]) := by
 replace H := H.hf
 unfold F_adopt_Take at hF
 refine f_enter 74 Try.func22 rfl rfl (Nat.le_of_ble_eq_true rfl) fun a Z => ?_
 replace Z := Z.sub (ts := [0, 1, 2, 3]) rfl
 refine wp_seq (f_region Z ?_); clear Z; intro Z
 refine s_runk tAd5 Z 2 rfl rfl ?_; clear Z a; intro a Z
 refine s_end Z [0, 1, 2, 3, 8, 9] rfl ?_; clear Z; intro Z
 refine p_then ?_
 refine wp_scope_straight ?_
 refine wp_seq ?_
 obtain ⟨l_2, hx1, hF⟩ := bnd_in hF
 refine f_region Z ?_; clear Z; intro Z
 refine s_runk tAd5 Z 1 rfl rfl ?_; clear Z a; intro a Z
 refine h_call Z H (js := [(0, true)]) rfl (caps := #[]) fn_47_YAd5 rfl rfl rfl rfl rfl (by decide) rfl rfl (fun D1 hS => have hq := c_adopt_log hx1 hS; hq) ?_; clear Z a; intro vv a w1 D2 hr hF2 Z
 obtain ⟨q1, rfl, I1, K⟩ := hr
 have H : Hf I D w I1 w1 [PtC OErlog_Log q1 l_2.1, SlC NEEntry v1_own own, SlC NEEntry v2_l l] := hF2 K
 clear hF2 K
 refine s_runk tAd5 Z 5 rfl rfl ?_; clear Z a; intro a Z
 refine s_end Z [0, 1, 2, 3, 8, 9, 10, 11] rfl ?_; clear Z; intro Z
 rcases optE_in hF with ⟨ho1, hF⟩ | ⟨x, ho1, hF⟩
 ·obtain ⟨hv, H⟩ := H.optN 0 rfl ho1
  subst hv
  replace H : Hf I D w I1 w1 [SlC NEEntry v1_own own, SlC NEEntry v2_l l] := H
  refine p_then (wp_seq ?_)
  refine wp_seq (f_region Z ?_); clear Z; intro Z
  refine s_runk tAd5 Z 3 rfl rfl ?_; clear Z a; intro a Z
  refine g_ob Z (p := (!(!l_2.2))) (v := .int .i64 good) (S' := [(1, .int .i64 good)]) rfl rfl rfl (wantB_f _) rfl (by decide) (fun hp hS => hS.sub (ts := [1]) rfl) (fun hp => Ob_c tAd5 rfl) ?_; clear Z a; intro a Z
  refine g_ob Z (p := (!(!l_2.2))) (v := .bool (decide (good < 0))) (S' := [(26, .int .i64 good)]) rfl rfl rfl (wantB_f _) rfl (by decide) (fun hp hS => (hS.conv (t := 26) rfl (cond_t hp)).sub (ts := [26]) rfl) (fun hp => Ob_c tAd5 rfl) ?_; clear Z a; intro a Z
  refine s_ob Z (v := .bool ((!l_2.2) || (decide (good < 0)))) rfl rfl (by decide) rfl (Ob_pick rfl rfl rfl rfl (pick_or _ _)) ?_; clear Z a; intro a Z
  refine s_runk tAd5 Z 1 rfl rfl ?_; clear Z a; intro a Z
  refine g_ob Z (p := (!((!l_2.2) || (decide (good < 0))))) (v := .int .i64 good) (S' := [(1, .int .i64 good)]) rfl rfl rfl (wantB_f _) rfl (by decide) (fun hp hS => hS.sub (ts := [1]) rfl) (fun hp => Ob_c tAd5 rfl) ?_; clear Z a; intro a Z
  refine g_ob Z (p := (!((!l_2.2) || (decide (good < 0))))) (v := v1_own) (S' := [(0, v1_own)]) rfl rfl rfl (wantB_f _) rfl (by decide) (fun hp hS => hS.sub (ts := [0]) rfl) (fun hp => Ob_c tAd5 rfl) ?_; clear Z a; intro a Z
  refine g_ob Z (p := (!((!l_2.2) || (decide (good < 0))))) (v := .int .i64 (own.length : Int)) (S' := [(31, v1_own)]) rfl rfl rfl (wantB_f _) rfl (by decide) (fun hp hS => (hS.conv (t := 31) rfl (cond_t hp)).sub (ts := [31]) rfl) (fun hp => Ob_slen tAd5 rfl rfl rfl (H.slshape 0 rfl)) ?_; clear Z a; intro a Z
  refine g_ob Z (p := (!((!l_2.2) || (decide (good < 0))))) (v := .bool (decide (good > (own.length : Int)))) (S' := [(30, .int .i64 good), (32, .int .i64 (own.length : Int))]) rfl rfl rfl (wantB_f _) rfl (by decide) (fun hp hS => ((hS.conv (t := 30) rfl (cond_t hp)).conv (t := 32) rfl (cond_t hp)).sub (ts := [30, 32]) rfl) (fun hp => Ob_c tAd5 rfl) ?_; clear Z a; intro a Z
  refine s_ob Z (v := .bool (((!l_2.2) || (decide (good < 0))) || (decide (good > (own.length : Int))))) rfl rfl (by decide) rfl (Ob_pick rfl rfl rfl rfl (pick_or _ _)) ?_; clear Z a; intro a Z
  refine s_end Z [1, 2, 3, 8, 9, 10, 34] rfl ?_; clear Z; intro Z
  refine p_then ?_
  refine f_cond Z rfl (fun hc1 => ?_) (fun hc1 => ?_)
  ·replace hF := ite_t hc1 hF
   refine wp_seq (f_region Z ?_); clear Z; intro Z
   refine s_runk tAd5 Z 3 rfl rfl ?_; clear Z a; intro a Z
   refine s_end Z [1, 2, 3, 8, 9, 10] rfl ?_; clear Z; intro Z
   refine p_then (wp_ret ?_)
   refine p_then_r ?_
   refine p_scp_r ?_
   replace H : Hf I D w I1 w1 [SlC NENote (.slice none 0 0) ([] : List ENote), SlC NEEntry v1_own own, SlC NEEntry v2_l l] := H.slNil NENote
   obtain rfl := some_in hF
   exact f_ret Z (run_results2 rfl Z rfl rfl) ⟨.slice none 0 0, rfl, I1, (H.sub [(0, true)] rfl).eq rfl⟩
  ·replace hF := ite_f hc1 hF
   refine wp_skip ?_
   refine p_then (wp_seq (f_region Z ?_)); clear Z; intro Z
   refine s_runk tAd5 Z 1 rfl rfl ?_; clear Z a; intro a Z
   refine s_end Z [1, 2, 3, 8, 9, 10, 12] rfl ?_; clear Z; intro Z
   refine p_then (wp_seq (f_region Z ?_)); clear Z; intro Z
   refine s_runk tAd5 Z 3 rfl rfl ?_; clear Z a; intro a Z
   refine s_end Z [1, 3, 8, 9, 10, 12, 13] rfl ?_; clear Z; intro Z
   refine p_then (wp_seq ?_)
   refine wp_label ?_
   refine p_then ?_
   refine f_cut (fun a' w' => ∃ (good_2 : Int) (out : List ENote), ∃ v3 : Value, Sl 74 [(1, .int .i64 good_2), (8, .slice none 0 0), (9, .int .i64 0), (12, v3)] a' ∧ (∃ I2, Hf I D w I2 w' [OwC NENote 82 v3 out]) ∧ F_adopt_Take_k1 good_2 out = some rr) ?_ ?_
   ·rintro a w2 ⟨good_2, out, v3, Z, ⟨I2, H⟩, hF⟩
    unfold F_adopt_Take_k1 at hF
    try dsimp only at hF
    refine wp_seq (f_region Z ?_); clear Z; intro Z
    refine s_runk tAd5 Z 4 rfl rfl ?_; clear Z a; intro a Z
    refine s_end Z [8, 9] rfl ?_; clear Z; intro Z
    refine p_then (wp_ret ?_)
    refine p_scp_r ?_
    obtain ⟨I3, _, H⟩ := H.frzow 0 rfl
    replace H : Hf I D w I3 w2 [SlC NENote v3 out] := H
    obtain rfl := some_in hF
    exact f_ret Z (run_results2 rfl Z rfl rfl) ⟨v3, rfl, I3, (H.sub [(0, true)] rfl).eq rfl⟩
   ·skip
    refine wp_seq (f_region Z ?_); clear Z; intro Z
    refine s_runk tAd5 Z 1 rfl rfl ?_; clear Z a; intro a Z
    refine s_ob Z (v := .int .i64 (l.length : Int)) rfl rfl (by decide) rfl (Ob_slen tAd5 rfl rfl rfl (H.slshape 1 rfl)) ?_; clear Z a; intro a Z
    refine s_runk tAd5 Z 1 rfl rfl ?_; clear Z a; intro a Z
    refine s_end Z [1, 8, 9, 10, 12, 13, 38, 39, 40] rfl ?_; clear Z; intro Z
    refine p_then (wp_block ?_)
    replace H : Hf I D w I1 w1 [OwC NENote 82 (.slice none 0 0) ([] : List ENote), SlC NEEntry v1_own own, SlC NEEntry v2_l l] := H.nilow NENote 82
    refine f_iter hF (fun sg a' w' => match sg with | (good_3, out_2, x_2) => ∃ v4 : Value, Sl 74 [(1, .int .i64 good_3), (8, .slice none 0 0), (9, .int .i64 0), (10, .pointer none), (12, v4), (13, .int .i64 (max from_ 0)), (38, v2_l), (39, .int .i64 (l.length : Int)), (40, .int .i64 x_2)] a' ∧ ∃ I2, Hf I D w I2 w' [SlC NEEntry v2_l l, OwC NENote 82 v4 out_2]) ⟨.slice none 0 0, Z.sub (ts := [1, 8, 9, 10, 12, 13, 38, 39, 40]) rfl, ⟨I1, (H.sub [(2, true), (0, false)] rfl).eq rfl⟩⟩ ?_
    clear Z H hF a
    rintro rc ⟨good_3, out_2, x_2⟩ a w3 ⟨v4, Z, I4, H⟩ hF
    unfold F_adopt_Take_l2 at hF
    try dsimp only at hF
    refine wp_seq (f_region Z ?_); clear Z; intro Z
    refine s_runk tAd5 Z 1 rfl rfl ?_; clear Z a; intro a Z
    refine s_end Z [1, 8, 9, 10, 12, 13, 38, 39, 40, 41] rfl ?_; clear Z; intro Z
    refine p_then (wp_seq ?_)
    refine f_cond Z rfl (fun hc2 => ?_) (fun hc2 => ?_)
    ·replace hF := ite_t hc2 hF
     refine wp_skip ?_
     refine p_then ?_
     refine f_cut (fun a' w' => ∃ (good_4 : Int) (out_3 : List ENote) (x_2_2 : List EOp), ∃ v5 v6 : Value, Sl 74 [(1, .int .i64 good_4), (8, .slice none 0 0), (9, .int .i64 0), (10, .pointer none), (12, v5), (13, .int .i64 (max from_ 0)), (14, .int .i64 x_2), (38, v2_l), (39, .int .i64 (l.length : Int)), (40, .int .i64 x_2), (41, .bool (decide (x_2 < (l.length : Int)))), (42, .int .i64 x_2), (43, .pointer (some ⟨blkOf v2_l, oofOf v2_l + (x_2).toNat * 4, none⟩)), (44, .agg #[.int .i64 (((l.getD (x_2).toNat default).batch).client), .int .i64 (((l.getD (x_2).toNat default).batch).req), v6, .int .u64 ((l.getD (x_2).toNat default).ts)]), (45, .bool (decide (max from_ 0 + x_2 < good_3))), (46, .int .i64 (max from_ 0)), (47, .int .i64 x_2), (48, .int .i64 (max from_ 0 + x_2)), (49, .int .i64 good_3), (50, .bool (decide (max from_ 0 + x_2 < good_3)))] a' ∧ (∃ I2, Hf I D w I2 w' [SlC NEEntry v2_l l, OwC NENote 82 v5 out_3, SlC NEOp v6 x_2_2]) ∧ F_adopt_Take_k3 x_2 rc good_4 out_3 x_2_2 = some rr) ?_ ?_
     ·rintro a w4 ⟨good_4, out_3, x_2_2, v5, v6, Z, ⟨I5, H⟩, hF⟩
      unfold F_adopt_Take_k3 at hF
      try dsimp only at hF
      obtain ⟨hg1, hF⟩ := chk_in hF
      refine f_region Z ?_; clear Z; intro Z
      refine s_ob Z (v := .int .i64 (x_2 + 1)) rfl rfl (by decide) rfl (Ob_add rfl rfl rfl (wrI hg1)) ?_; clear Z a; intro a Z
      refine s_runk tAd5 Z 1 rfl rfl ?_; clear Z a; intro a Z
      refine s_end Z [1, 8, 9, 10, 12, 13, 14, 38, 39, 40, 41, 42, 43, 44, 45, 46, 47, 48, 49, 50, 71] rfl ?_; clear Z; intro Z
      refine p_then ?_
      exact ⟨(good_4, out_3, x_2 + 1), ⟨v5, Z.sub (ts := [1, 8, 9, 10, 12, 13, 38, 39, 40]) rfl, ⟨I5, (H.sub [(0, true), (1, false)] rfl).eq rfl⟩⟩, hF⟩
     ·skip
      refine wp_block ?_
      refine wp_seq ?_
      obtain ⟨hg2, hF⟩ := chk_in hF
      refine f_region Z ?_; clear Z; intro Z
      refine s_runk tAd5 Z 1 rfl rfl ?_; clear Z a; intro a Z
      refine s_ob Z (v := .pointer (some ⟨blkOf v2_l, oofOf v2_l + (x_2).toNat * 4, none⟩)) rfl rfl (by decide) rfl (Ob_sidx tAd5 rfl rfl rfl rfl (slPl (H.sl 0 rfl) hg2) hg2) ?_; clear Z a; intro a Z
      obtain ⟨_, ⟨u1, rfl, L1⟩, H⟩ := H.elG 0 rfl (x_2) (NEEntry.dft _ _)
      replace H := H.addsl L1
      replace H : Hf I D w I4 w3 [SlC NEOp u1 (((l.getD (x_2).toNat default).batch).ops), AtG ((0 : Int) ≤ x_2 ∧ x_2 < (l.length : Int)) (blkOf v2_l) (oofOf v2_l + (x_2).toNat * 4) [.int .i64 (((l.getD (x_2).toNat default).batch).client), .int .i64 (((l.getD (x_2).toNat default).batch).req), u1, .int .u64 ((l.getD (x_2).toNat default).ts)], SlC NEEntry v2_l l, OwC NENote 82 v4 out_2] := H
      refine s_ob Z (v := .agg #[.int .i64 (((l.getD (x_2).toNat default).batch).client), .int .i64 (((l.getD (x_2).toNat default).batch).req), u1, .int .u64 ((l.getD (x_2).toNat default).ts)]) rfl rfl (by decide) rfl (Ob_loads tAd5 rfl rfl rfl ((H.atg 1 rfl hg2).part 0 rfl)) ?_; clear Z a; intro a Z
      refine h_alloc Z H (cl := [.int .i64 0, .int .i64 0, .slice none 0 0, .int .u64 0]) (z := .agg #[.int .i64 0, .int .i64 0, .slice none 0 0, .int .u64 0]) rfl rfl rfl (by decide) rfl (by kernel_rfl) rfl ?_; clear Z a H; intro a w5 b2 H Z
      refine s_runk tAd5 Z 1 rfl rfl ?_; clear Z a; intro a Z
      refine h_store tAd5 Z H 0 rfl rfl rfl rfl rfl rfl rfl rfl rfl (one_cons rfl (one_cons rfl (one_cons (slS.one (H.slshape 1 rfl)) (one_cons rfl one_nil)))) (Nat.le_of_ble_eq_true rfl) rfl ?_; clear H; intro w6 H
      dsimp only [List.eraseIdx] at H
      refine s_end Z [1, 8, 9, 10, 12, 13, 38, 39, 40, 41, 42, 43, 44, 15, 14] rfl ?_; clear Z; intro Z
      refine p_then (wp_seq ?_)
      refine wp_block ?_
      refine wp_seq ?_
      obtain ⟨hg3, hF⟩ := chk_in hF
      refine f_region Z ?_; clear Z; intro Z
      refine s_runk tAd5 Z 2 rfl rfl ?_; clear Z a; intro a Z
      refine s_ob Z (v := .int .i64 (max from_ 0 + x_2)) rfl rfl (by decide) rfl (Ob_add rfl rfl rfl (wrI hg3)) ?_; clear Z a; intro a Z
      refine s_runk tAd5 Z 3 rfl rfl ?_; clear Z a; intro a Z
      refine s_end Z [1, 8, 9, 10, 12, 13, 38, 39, 40, 41, 42, 43, 44, 15, 14, 46, 47, 48, 49, 50, 45] rfl ?_; clear Z; intro Z
      refine p_then ?_
      refine f_cond Z rfl (fun hc3 => ?_) (fun hc3 => ?_)
      ·replace hF := ite_t hc3 hF
       refine wp_exit ?_
       refine f_exit_out (by decide) ?_
       refine p_then_x ?_
       refine f_exit_here ?_
       refine p_then ?_
       exact ⟨good_3, out_2, ((l.getD (x_2).toNat default).batch).ops, v4, u1, Z.sub (ts := [1, 8, 9, 10, 12, 13, 14, 38, 39, 40, 41, 42, 43, 44, 45, 46, 47, 48, 49, 50]) rfl, ⟨I4, (H.sub [(3, true), (4, false), (1, true)] rfl).eq rfl⟩, hF⟩
      ·replace hF := ite_f hc3 hF
       refine wp_seq ?_
       obtain ⟨hg4, hF⟩ := chk_in hF
       refine f_region Z ?_; clear Z; intro Z
       refine s_runk tAd5 Z 2 rfl rfl ?_; clear Z a; intro a Z
       refine s_ob Z (v := .int .i64 (max from_ 0 + x_2)) rfl rfl (by decide) rfl (Ob_add rfl rfl rfl (wrI hg4)) ?_; clear Z a; intro a Z
       refine s_runk tAd5 Z 3 rfl rfl ?_; clear Z a; intro a Z
       refine s_end Z [1, 8, 9, 10, 12, 13, 38, 39, 40, 41, 42, 43, 44, 15, 14, 46, 47, 48, 49, 50, 45, 52, 53, 54, 55, 56, 51] rfl ?_; clear Z; intro Z
       refine p_then ?_
       refine f_cond Z rfl (fun hc4 => ?_) (fun hc4 => ?_)
       ·replace hF := ite_t hc4 hF
        refine wp_exit ?_
        refine f_exit_out (by decide) ?_
        refine p_then_x ?_
        refine f_exit_out (by decide) ?_
        refine p_then_x ?_
        refine p_then_x ?_
        refine f_exit_here ?_
        refine p_then ?_
        exact ⟨good_3, out_2, v4, Z.sub (ts := [1, 8, 9, 12]) rfl, ⟨I4, (H.sub [(4, false)] rfl).eq rfl⟩, hF⟩
       ·replace hF := ite_f hc4 hF
        refine wp_skip ?_
        refine p_blk ?_
        refine p_then (wp_seq ?_)
        obtain ⟨n0, hx2, hF⟩ := bnd_in hF
        refine f_region Z ?_; clear Z; intro Z
        refine s_runk tAd5 Z 2 rfl rfl ?_; clear Z a; intro a Z
        refine s_ob Z (v := .agg #[.int .i64 (((l.getD (x_2).toNat default).batch).client), .int .i64 (((l.getD (x_2).toNat default).batch).req), u1, .int .u64 ((l.getD (x_2).toNat default).ts)]) rfl rfl (by decide) rfl (Ob_loads tAd5 rfl rfl rfl ((H.bx 0 rfl).part 0 rfl)) ?_; clear Z a; intro a Z
        refine h_call Z H (js := [(1, true)]) rfl (caps := #[]) fn_48_YAd5 rfl rfl rfl rfl rfl (by decide) rfl rfl (fun D1 hS => have hq := c_adopt_lay_nil hx2 hS; hq) ?_; clear Z a; intro vv a w7 D2 hr hF2 Z
        obtain ⟨q2, rfl, I6, K⟩ := hr
        have H : Hf I D w I6 w7 [SlC NENote q2 n0.1, BxC b2 57 [.int .i64 (((l.getD (x_2).toNat default).batch).client), .int .i64 (((l.getD (x_2).toNat default).batch).req), u1, .int .u64 ((l.getD (x_2).toNat default).ts)], SlC NEOp u1 (((l.getD (x_2).toNat default).batch).ops), AtG ((0 : Int) ≤ x_2 ∧ x_2 < (l.length : Int)) (blkOf v2_l) (oofOf v2_l + (x_2).toNat * 4) [.int .i64 (((l.getD (x_2).toNat default).batch).client), .int .i64 (((l.getD (x_2).toNat default).batch).req), u1, .int .u64 ((l.getD (x_2).toNat default).ts)], SlC NEEntry v2_l l, OwC NENote 82 v4 out_2] := hF2 K
        clear hF2 K
        refine s_runk tAd5 Z 5 rfl rfl ?_; clear Z a; intro a Z
        refine s_end Z [1, 8, 9, 10, 12, 13, 38, 39, 40, 41, 42, 43, 44, 15, 14, 46, 47, 48, 49, 50, 45, 52, 53, 54, 55, 56, 51, 58, 59, 60, 61, 57, 62, 63, 16, 17] rfl ?_; clear Z; intro Z
        refine p_then (wp_seq ?_)
        refine wp_seq (f_region Z ?_); clear Z; intro Z
        refine s_runk tAd5 Z 2 rfl rfl ?_; clear Z a; intro a Z
        refine s_end Z [1, 8, 9, 10, 12, 13, 38, 39, 40, 41, 42, 43, 44, 15, 14, 46, 47, 48, 49, 50, 45, 52, 53, 54, 55, 56, 51, 58, 59, 60, 61, 57, 62, 63, 16, 17, 64, 65] rfl ?_; clear Z; intro Z
        refine p_then ?_
        refine f_cond Z rfl (fun hc5 => ?_) (fun hc5 => ?_)
        ·replace hF := ite_t hc5 hF
         refine wp_exit ?_
         refine p_then_x ?_
         refine f_exit_out (by decide) ?_
         refine p_then_x ?_
         refine p_then_x ?_
         refine f_exit_here ?_
         refine p_then ?_
         exact ⟨good_3, out_2, v4, Z.sub (ts := [1, 8, 9, 12]) rfl, ⟨I6, (H.sub [(5, false)] rfl).eq rfl⟩, hF⟩
        ·replace hF := ite_f hc5 hF
         refine wp_skip ?_
         refine p_then (wp_seq ?_)
         obtain ⟨hg5, hF⟩ := chk_in hF
         refine f_region Z ?_; clear Z; intro Z
         refine s_runk tAd5 Z 2 rfl rfl ?_; clear Z a; intro a Z
         refine h_appO Z H 5 E_45_YAd5 n0.1 rfl rfl rfl rfl rfl (by decide) rfl rfl rfl (H.sl2 0 rfl) hg5 (by decide) ?_; clear Z a H; intro v7 a w8 H Z
         dsimp only [List.eraseIdx] at H
         refine s_runk tAd5 Z 1 rfl rfl ?_; clear Z a; intro a Z
         refine s_end Z [1, 8, 9, 10, 12, 13, 38, 39, 40, 41, 42, 43, 44, 15, 14, 46, 47, 48, 49, 50, 45, 52, 53, 54, 55, 56, 51, 58, 59, 60, 61, 57, 62, 63, 16, 17, 64, 65, 66, 67, 68] rfl ?_; clear Z; intro Z
         refine p_then ?_
         obtain ⟨hg6, hF⟩ := chk_in hF
         refine f_region Z ?_; clear Z; intro Z
         refine s_runk tAd5 Z 1 rfl rfl ?_; clear Z a; intro a Z
         refine s_ob Z (v := .int .i64 (good_3 + 1)) rfl rfl (by decide) rfl (Ob_add rfl rfl rfl (wrI hg6)) ?_; clear Z a; intro a Z
         refine s_runk tAd5 Z 1 rfl rfl ?_; clear Z a; intro a Z
         refine s_end Z [1, 8, 9, 10, 12, 13, 38, 39, 40, 41, 42, 43, 44, 15, 14, 46, 47, 48, 49, 50, 45, 52, 53, 54, 55, 56, 51, 58, 59, 60, 61, 57, 62, 63, 16, 17, 64, 65, 66, 67, 68, 69, 70] rfl ?_; clear Z; intro Z
         refine p_blk ?_
         refine p_then ?_
         exact ⟨good_3 + 1, out_2 ++ n0.1, ((l.getD (x_2).toNat default).batch).ops, v7, u1, Z.sub (ts := [1, 8, 9, 10, 12, 13, 14, 38, 39, 40, 41, 42, 43, 44, 45, 46, 47, 48, 49, 50]) rfl, ⟨I6, (H.sub [(5, true), (0, false), (2, true)] rfl).eq rfl⟩, hF⟩
    ·replace hF := ite_f hc2 hF
     refine wp_exit ?_
     refine p_then_x ?_
     refine p_then_x ?_
     refine f_exit_here ?_
     refine p_then ?_
     exact ⟨good_3, out_2, v4, Z.sub (ts := [1, 8, 9, 12]) rfl, ⟨I4, (H.sub [(1, false)] rfl).eq rfl⟩, hF⟩
 ·obtain ⟨b1, hv, H⟩ := H.optS 0 rfl ho1
  subst hv
  replace H : Hf I D w I1 w1 [OErlog_Log b1 x, SlC NEEntry v1_own own, SlC NEEntry v2_l l] := H
  refine p_then (wp_seq ?_)
  refine wp_seq (f_region Z ?_); clear Z; intro Z
  refine s_runk tAd5 Z 3 rfl rfl ?_; clear Z a; intro a Z
  refine g_ob Z (p := (!(!l_2.2))) (v := .int .i64 good) (S' := [(1, .int .i64 good)]) rfl rfl rfl (wantB_f _) rfl (by decide) (fun hp hS => hS.sub (ts := [1]) rfl) (fun hp => Ob_c tAd5 rfl) ?_; clear Z a; intro a Z
  refine g_ob Z (p := (!(!l_2.2))) (v := .bool (decide (good < 0))) (S' := [(26, .int .i64 good)]) rfl rfl rfl (wantB_f _) rfl (by decide) (fun hp hS => (hS.conv (t := 26) rfl (cond_t hp)).sub (ts := [26]) rfl) (fun hp => Ob_c tAd5 rfl) ?_; clear Z a; intro a Z
  refine s_ob Z (v := .bool ((!l_2.2) || (decide (good < 0)))) rfl rfl (by decide) rfl (Ob_pick rfl rfl rfl rfl (pick_or _ _)) ?_; clear Z a; intro a Z
  refine s_runk tAd5 Z 1 rfl rfl ?_; clear Z a; intro a Z
  refine g_ob Z (p := (!((!l_2.2) || (decide (good < 0))))) (v := .int .i64 good) (S' := [(1, .int .i64 good)]) rfl rfl rfl (wantB_f _) rfl (by decide) (fun hp hS => hS.sub (ts := [1]) rfl) (fun hp => Ob_c tAd5 rfl) ?_; clear Z a; intro a Z
  refine g_ob Z (p := (!((!l_2.2) || (decide (good < 0))))) (v := v1_own) (S' := [(0, v1_own)]) rfl rfl rfl (wantB_f _) rfl (by decide) (fun hp hS => hS.sub (ts := [0]) rfl) (fun hp => Ob_c tAd5 rfl) ?_; clear Z a; intro a Z
  refine g_ob Z (p := (!((!l_2.2) || (decide (good < 0))))) (v := .int .i64 (own.length : Int)) (S' := [(31, v1_own)]) rfl rfl rfl (wantB_f _) rfl (by decide) (fun hp hS => (hS.conv (t := 31) rfl (cond_t hp)).sub (ts := [31]) rfl) (fun hp => Ob_slen tAd5 rfl rfl rfl (H.slshape 1 rfl)) ?_; clear Z a; intro a Z
  refine g_ob Z (p := (!((!l_2.2) || (decide (good < 0))))) (v := .bool (decide (good > (own.length : Int)))) (S' := [(30, .int .i64 good), (32, .int .i64 (own.length : Int))]) rfl rfl rfl (wantB_f _) rfl (by decide) (fun hp hS => ((hS.conv (t := 30) rfl (cond_t hp)).conv (t := 32) rfl (cond_t hp)).sub (ts := [30, 32]) rfl) (fun hp => Ob_c tAd5 rfl) ?_; clear Z a; intro a Z
  refine s_ob Z (v := .bool (((!l_2.2) || (decide (good < 0))) || (decide (good > (own.length : Int))))) rfl rfl (by decide) rfl (Ob_pick rfl rfl rfl rfl (pick_or _ _)) ?_; clear Z a; intro a Z
  refine s_end Z [1, 2, 3, 8, 9, 10, 34] rfl ?_; clear Z; intro Z
  refine p_then ?_
  refine f_cond Z rfl (fun hc6 => ?_) (fun hc6 => ?_)
  ·replace hF := ite_t hc6 hF
   refine wp_seq (f_region Z ?_); clear Z; intro Z
   refine s_runk tAd5 Z 3 rfl rfl ?_; clear Z a; intro a Z
   refine s_end Z [1, 2, 3, 8, 9, 10] rfl ?_; clear Z; intro Z
   refine p_then (wp_ret ?_)
   refine p_then_r ?_
   refine p_scp_r ?_
   replace H : Hf I D w I1 w1 [SlC NENote (.slice none 0 0) ([] : List ENote), OErlog_Log b1 x, SlC NEEntry v1_own own, SlC NEEntry v2_l l] := H.slNil NENote
   obtain rfl := some_in hF
   exact f_ret Z (run_results2 rfl Z rfl rfl) ⟨.slice none 0 0, rfl, I1, (H.sub [(0, true)] rfl).eq rfl⟩
  ·replace hF := ite_f hc6 hF
   refine wp_skip ?_
   refine p_then (wp_seq (f_region Z ?_)); clear Z; intro Z
   refine s_runk tAd5 Z 1 rfl rfl ?_; clear Z a; intro a Z
   refine s_end Z [1, 2, 3, 8, 9, 10, 12] rfl ?_; clear Z; intro Z
   refine p_then (wp_seq (f_region Z ?_)); clear Z; intro Z
   refine s_runk tAd5 Z 3 rfl rfl ?_; clear Z a; intro a Z
   refine s_end Z [1, 3, 8, 9, 10, 12, 13] rfl ?_; clear Z; intro Z
   refine p_then (wp_seq ?_)
   refine wp_label ?_
   refine p_then ?_
   refine f_cut (fun a' w' => ∃ (good_5 : Int) (out_4 : List ENote), ∃ v8 : Value, Sl 74 [(1, .int .i64 good_5), (8, .slice none 0 0), (9, .int .i64 0), (12, v8)] a' ∧ (∃ I2, Hf I D w I2 w' [OwC NENote 82 v8 out_4]) ∧ F_adopt_Take_k4 good_5 out_4 = some rr) ?_ ?_
   ·rintro a w9 ⟨good_5, out_4, v8, Z, ⟨I7, H⟩, hF⟩
    unfold F_adopt_Take_k4 at hF
    try dsimp only at hF
    refine wp_seq (f_region Z ?_); clear Z; intro Z
    refine s_runk tAd5 Z 4 rfl rfl ?_; clear Z a; intro a Z
    refine s_end Z [8, 9] rfl ?_; clear Z; intro Z
    refine p_then (wp_ret ?_)
    refine p_scp_r ?_
    obtain ⟨I8, _, H⟩ := H.frzow 0 rfl
    replace H : Hf I D w I8 w9 [SlC NENote v8 out_4] := H
    obtain rfl := some_in hF
    exact f_ret Z (run_results2 rfl Z rfl rfl) ⟨v8, rfl, I8, (H.sub [(0, true)] rfl).eq rfl⟩
   ·skip
    refine wp_seq (f_region Z ?_); clear Z; intro Z
    refine s_runk tAd5 Z 1 rfl rfl ?_; clear Z a; intro a Z
    refine s_ob Z (v := .int .i64 (l.length : Int)) rfl rfl (by decide) rfl (Ob_slen tAd5 rfl rfl rfl (H.slshape 2 rfl)) ?_; clear Z a; intro a Z
    refine s_runk tAd5 Z 1 rfl rfl ?_; clear Z a; intro a Z
    refine s_end Z [1, 8, 9, 10, 12, 13, 38, 39, 40] rfl ?_; clear Z; intro Z
    refine p_then (wp_block ?_)
    replace H : Hf I D w I1 w1 [OwC NENote 82 (.slice none 0 0) ([] : List ENote), OErlog_Log b1 x, SlC NEEntry v1_own own, SlC NEEntry v2_l l] := H.nilow NENote 82
    refine f_iter hF (fun sg a' w' => match sg with | (good_6, out_5, x_3, all) => ∃ v9 : Value, Sl 74 [(1, .int .i64 good_6), (8, .slice none 0 0), (9, .int .i64 0), (10, .pointer (some ⟨b1, 0, none⟩)), (12, v9), (13, .int .i64 (max from_ 0)), (38, v2_l), (39, .int .i64 (l.length : Int)), (40, .int .i64 x_3)] a' ∧ ∃ I2, Hf I D w I2 w' [OErlog_Log b1 all, SlC NEEntry v2_l l, OwC NENote 82 v9 out_5]) ⟨.slice none 0 0, Z.sub (ts := [1, 8, 9, 10, 12, 13, 38, 39, 40]) rfl, ⟨I1, (H.sub [(1, false), (2, true), (0, false)] rfl).eq rfl⟩⟩ ?_
    clear Z H hF a
    rintro rc_2 ⟨good_6, out_5, x_3, all⟩ a w10 ⟨v9, Z, I9, H⟩ hF
    unfold F_adopt_Take_l5 at hF
    try dsimp only at hF
    refine wp_seq (f_region Z ?_); clear Z; intro Z
    refine s_runk tAd5 Z 1 rfl rfl ?_; clear Z a; intro a Z
    refine s_end Z [1, 8, 9, 10, 12, 13, 38, 39, 40, 41] rfl ?_; clear Z; intro Z
    refine p_then (wp_seq ?_)
    refine f_cond Z rfl (fun hc7 => ?_) (fun hc7 => ?_)
    ·replace hF := ite_t hc7 hF
     refine wp_skip ?_
     refine p_then ?_
     refine f_cut (fun a' w' => ∃ (good_7 : Int) (out_6 : List ENote) (x_2_3 : List EOp) (all_2 : Erlog_Log), ∃ v10 v11 : Value, Sl 74 [(1, .int .i64 good_7), (8, .slice none 0 0), (9, .int .i64 0), (10, .pointer (some ⟨b1, 0, none⟩)), (12, v10), (13, .int .i64 (max from_ 0)), (14, .int .i64 x_3), (38, v2_l), (39, .int .i64 (l.length : Int)), (40, .int .i64 x_3), (41, .bool (decide (x_3 < (l.length : Int)))), (42, .int .i64 x_3), (43, .pointer (some ⟨blkOf v2_l, oofOf v2_l + (x_3).toNat * 4, none⟩)), (44, .agg #[.int .i64 (((l.getD (x_3).toNat default).batch).client), .int .i64 (((l.getD (x_3).toNat default).batch).req), v11, .int .u64 ((l.getD (x_3).toNat default).ts)]), (45, .bool (decide (max from_ 0 + x_3 < good_6))), (46, .int .i64 (max from_ 0)), (47, .int .i64 x_3), (48, .int .i64 (max from_ 0 + x_3)), (49, .int .i64 good_6), (50, .bool (decide (max from_ 0 + x_3 < good_6)))] a' ∧ (∃ I2, Hf I D w I2 w' [OErlog_Log b1 all_2, SlC NEEntry v2_l l, OwC NENote 82 v10 out_6, SlC NEOp v11 x_2_3]) ∧ F_adopt_Take_k6 x_3 rc_2 good_7 out_6 x_2_3 all_2 = some rr) ?_ ?_
     ·rintro a w11 ⟨good_7, out_6, x_2_3, all_2, v10, v11, Z, ⟨I10, H⟩, hF⟩
      unfold F_adopt_Take_k6 at hF
      try dsimp only at hF
      obtain ⟨hg7, hF⟩ := chk_in hF
      refine f_region Z ?_; clear Z; intro Z
      refine s_ob Z (v := .int .i64 (x_3 + 1)) rfl rfl (by decide) rfl (Ob_add rfl rfl rfl (wrI hg7)) ?_; clear Z a; intro a Z
      refine s_runk tAd5 Z 1 rfl rfl ?_; clear Z a; intro a Z
      refine s_end Z [1, 8, 9, 10, 12, 13, 14, 38, 39, 40, 41, 42, 43, 44, 45, 46, 47, 48, 49, 50, 71] rfl ?_; clear Z; intro Z
      refine p_then ?_
      exact ⟨(good_7, out_6, x_3 + 1, all_2), ⟨v10, Z.sub (ts := [1, 8, 9, 10, 12, 13, 38, 39, 40]) rfl, ⟨I10, (H.sub [(0, false), (0, true), (1, false)] rfl).eq rfl⟩⟩, hF⟩
     ·skip
      refine wp_block ?_
      refine wp_seq ?_
      obtain ⟨hg8, hF⟩ := chk_in hF
      refine f_region Z ?_; clear Z; intro Z
      refine s_runk tAd5 Z 1 rfl rfl ?_; clear Z a; intro a Z
      refine s_ob Z (v := .pointer (some ⟨blkOf v2_l, oofOf v2_l + (x_3).toNat * 4, none⟩)) rfl rfl (by decide) rfl (Ob_sidx tAd5 rfl rfl rfl rfl (slPl (H.sl 1 rfl) hg8) hg8) ?_; clear Z a; intro a Z
      obtain ⟨_, ⟨u2, rfl, L2⟩, H⟩ := H.elG 1 rfl (x_3) (NEEntry.dft _ _)
      replace H := H.addsl L2
      replace H : Hf I D w I9 w10 [SlC NEOp u2 (((l.getD (x_3).toNat default).batch).ops), AtG ((0 : Int) ≤ x_3 ∧ x_3 < (l.length : Int)) (blkOf v2_l) (oofOf v2_l + (x_3).toNat * 4) [.int .i64 (((l.getD (x_3).toNat default).batch).client), .int .i64 (((l.getD (x_3).toNat default).batch).req), u2, .int .u64 ((l.getD (x_3).toNat default).ts)], OErlog_Log b1 all, SlC NEEntry v2_l l, OwC NENote 82 v9 out_5] := H
      refine s_ob Z (v := .agg #[.int .i64 (((l.getD (x_3).toNat default).batch).client), .int .i64 (((l.getD (x_3).toNat default).batch).req), u2, .int .u64 ((l.getD (x_3).toNat default).ts)]) rfl rfl (by decide) rfl (Ob_loads tAd5 rfl rfl rfl ((H.atg 1 rfl hg8).part 0 rfl)) ?_; clear Z a; intro a Z
      refine h_alloc Z H (cl := [.int .i64 0, .int .i64 0, .slice none 0 0, .int .u64 0]) (z := .agg #[.int .i64 0, .int .i64 0, .slice none 0 0, .int .u64 0]) rfl rfl rfl (by decide) rfl (by kernel_rfl) rfl ?_; clear Z a H; intro a w12 b3 H Z
      refine s_runk tAd5 Z 1 rfl rfl ?_; clear Z a; intro a Z
      refine h_store tAd5 Z H 0 rfl rfl rfl rfl rfl rfl rfl rfl rfl (one_cons rfl (one_cons rfl (one_cons (slS.one (H.slshape 1 rfl)) (one_cons rfl one_nil)))) (Nat.le_of_ble_eq_true rfl) rfl ?_; clear H; intro w13 H
      dsimp only [List.eraseIdx] at H
      refine s_end Z [1, 8, 9, 10, 12, 13, 38, 39, 40, 41, 42, 43, 44, 15, 14] rfl ?_; clear Z; intro Z
      refine p_then (wp_seq ?_)
      refine wp_block ?_
      refine wp_seq ?_
      obtain ⟨hg9, hF⟩ := chk_in hF
      refine f_region Z ?_; clear Z; intro Z
      refine s_runk tAd5 Z 2 rfl rfl ?_; clear Z a; intro a Z
      refine s_ob Z (v := .int .i64 (max from_ 0 + x_3)) rfl rfl (by decide) rfl (Ob_add rfl rfl rfl (wrI hg9)) ?_; clear Z a; intro a Z
      refine s_runk tAd5 Z 3 rfl rfl ?_; clear Z a; intro a Z
      refine s_end Z [1, 8, 9, 10, 12, 13, 38, 39, 40, 41, 42, 43, 44, 15, 14, 46, 47, 48, 49, 50, 45] rfl ?_; clear Z; intro Z
      refine p_then ?_
      refine f_cond Z rfl (fun hc8 => ?_) (fun hc8 => ?_)
      ·replace hF := ite_t hc8 hF
       refine wp_exit ?_
       refine f_exit_out (by decide) ?_
       refine p_then_x ?_
       refine f_exit_here ?_
       refine p_then ?_
       exact ⟨good_6, out_5, ((l.getD (x_3).toNat default).batch).ops, all, v9, u2, Z.sub (ts := [1, 8, 9, 10, 12, 13, 14, 38, 39, 40, 41, 42, 43, 44, 45, 46, 47, 48, 49, 50]) rfl, ⟨I9, (H.sub [(3, false), (3, true), (4, false), (1, true)] rfl).eq rfl⟩, hF⟩
      ·replace hF := ite_f hc8 hF
       refine wp_seq ?_
       obtain ⟨hg10, hF⟩ := chk_in hF
       refine f_region Z ?_; clear Z; intro Z
       refine s_runk tAd5 Z 2 rfl rfl ?_; clear Z a; intro a Z
       refine s_ob Z (v := .int .i64 (max from_ 0 + x_3)) rfl rfl (by decide) rfl (Ob_add rfl rfl rfl (wrI hg10)) ?_; clear Z a; intro a Z
       refine s_runk tAd5 Z 3 rfl rfl ?_; clear Z a; intro a Z
       refine s_end Z [1, 8, 9, 10, 12, 13, 38, 39, 40, 41, 42, 43, 44, 15, 14, 46, 47, 48, 49, 50, 45, 52, 53, 54, 55, 56, 51] rfl ?_; clear Z; intro Z
       refine p_then ?_
       refine f_cond Z rfl (fun hc9 => ?_) (fun hc9 => ?_)
       ·replace hF := ite_t hc9 hF
        refine wp_exit ?_
        refine f_exit_out (by decide) ?_
        refine p_then_x ?_
        refine f_exit_out (by decide) ?_
        refine p_then_x ?_
        refine p_then_x ?_
        refine f_exit_here ?_
        refine p_then ?_
        exact ⟨good_6, out_5, v9, Z.sub (ts := [1, 8, 9, 12]) rfl, ⟨I9, (H.sub [(5, false)] rfl).eq rfl⟩, hF⟩
       ·replace hF := ite_f hc9 hF
        refine wp_skip ?_
        refine p_blk ?_
        refine p_then (wp_seq ?_)
        obtain ⟨l_3, hx3, hF⟩ := bnd_in hF
        refine f_region Z ?_; clear Z; intro Z
        refine s_runk tAd5 Z 2 rfl rfl ?_; clear Z a; intro a Z
        refine s_ob Z (v := .agg #[.int .i64 (((l.getD (x_3).toNat default).batch).client), .int .i64 (((l.getD (x_3).toNat default).batch).req), u2, .int .u64 ((l.getD (x_3).toNat default).ts)]) rfl rfl (by decide) rfl (Ob_loads tAd5 rfl rfl rfl ((H.bx 0 rfl).part 0 rfl)) ?_; clear Z a; intro a Z
        refine h_call Z H (js := [(3, false), (1, true)]) rfl (caps := #[]) fn_48_YAd5 rfl rfl rfl rfl rfl (by decide) rfl rfl (fun D1 hS => have hq := c_adopt_lay hx3 hS; hq) ?_; clear Z a; intro vv a w14 D2 hr hF2 Z
        obtain ⟨q3, rfl, I11, K⟩ := hr
        have H : Hf I D w I11 w14 [OErlog_Log b1 l_3.2.2, SlC NENote q3 l_3.1, BxC b3 57 [.int .i64 (((l.getD (x_3).toNat default).batch).client), .int .i64 (((l.getD (x_3).toNat default).batch).req), u2, .int .u64 ((l.getD (x_3).toNat default).ts)], SlC NEOp u2 (((l.getD (x_3).toNat default).batch).ops), AtG ((0 : Int) ≤ x_3 ∧ x_3 < (l.length : Int)) (blkOf v2_l) (oofOf v2_l + (x_3).toNat * 4) [.int .i64 (((l.getD (x_3).toNat default).batch).client), .int .i64 (((l.getD (x_3).toNat default).batch).req), u2, .int .u64 ((l.getD (x_3).toNat default).ts)], SlC NEEntry v2_l l, OwC NENote 82 v9 out_5] := hF2 K
        clear hF2 K
        refine s_runk tAd5 Z 5 rfl rfl ?_; clear Z a; intro a Z
        refine s_end Z [1, 8, 9, 10, 12, 13, 38, 39, 40, 41, 42, 43, 44, 15, 14, 46, 47, 48, 49, 50, 45, 52, 53, 54, 55, 56, 51, 58, 59, 60, 61, 57, 62, 63, 16, 17] rfl ?_; clear Z; intro Z
        refine p_then (wp_seq ?_)
        refine wp_seq (f_region Z ?_); clear Z; intro Z
        refine s_runk tAd5 Z 2 rfl rfl ?_; clear Z a; intro a Z
        refine s_end Z [1, 8, 9, 10, 12, 13, 38, 39, 40, 41, 42, 43, 44, 15, 14, 46, 47, 48, 49, 50, 45, 52, 53, 54, 55, 56, 51, 58, 59, 60, 61, 57, 62, 63, 16, 17, 64, 65] rfl ?_; clear Z; intro Z
        refine p_then ?_
        refine f_cond Z rfl (fun hc10 => ?_) (fun hc10 => ?_)
        ·replace hF := ite_t hc10 hF
         refine wp_exit ?_
         refine p_then_x ?_
         refine f_exit_out (by decide) ?_
         refine p_then_x ?_
         refine p_then_x ?_
         refine f_exit_here ?_
         refine p_then ?_
         exact ⟨good_6, out_5, v9, Z.sub (ts := [1, 8, 9, 12]) rfl, ⟨I11, (H.sub [(6, false)] rfl).eq rfl⟩, hF⟩
        ·replace hF := ite_f hc10 hF
         refine wp_skip ?_
         refine p_then (wp_seq ?_)
         obtain ⟨hg11, hF⟩ := chk_in hF
         refine f_region Z ?_; clear Z; intro Z
         refine s_runk tAd5 Z 2 rfl rfl ?_; clear Z a; intro a Z
         refine h_appO Z H 6 E_45_YAd5 l_3.1 rfl rfl rfl rfl rfl (by decide) rfl rfl rfl (H.sl2 1 rfl) hg11 (by decide) ?_; clear Z a H; intro v12 a w15 H Z
         dsimp only [List.eraseIdx] at H
         refine s_runk tAd5 Z 1 rfl rfl ?_; clear Z a; intro a Z
         refine s_end Z [1, 8, 9, 10, 12, 13, 38, 39, 40, 41, 42, 43, 44, 15, 14, 46, 47, 48, 49, 50, 45, 52, 53, 54, 55, 56, 51, 58, 59, 60, 61, 57, 62, 63, 16, 17, 64, 65, 66, 67, 68] rfl ?_; clear Z; intro Z
         refine p_then ?_
         obtain ⟨hg12, hF⟩ := chk_in hF
         refine f_region Z ?_; clear Z; intro Z
         refine s_runk tAd5 Z 1 rfl rfl ?_; clear Z a; intro a Z
         refine s_ob Z (v := .int .i64 (good_6 + 1)) rfl rfl (by decide) rfl (Ob_add rfl rfl rfl (wrI hg12)) ?_; clear Z a; intro a Z
         refine s_runk tAd5 Z 1 rfl rfl ?_; clear Z a; intro a Z
         refine s_end Z [1, 8, 9, 10, 12, 13, 38, 39, 40, 41, 42, 43, 44, 15, 14, 46, 47, 48, 49, 50, 45, 52, 53, 54, 55, 56, 51, 58, 59, 60, 61, 57, 62, 63, 16, 17, 64, 65, 66, 67, 68, 69, 70] rfl ?_; clear Z; intro Z
         refine p_blk ?_
         refine p_then ?_
         exact ⟨good_6 + 1, out_5 ++ l_3.1, ((l.getD (x_3).toNat default).batch).ops, l_3.2.2, v12, u2, Z.sub (ts := [1, 8, 9, 10, 12, 13, 14, 38, 39, 40, 41, 42, 43, 44, 45, 46, 47, 48, 49, 50]) rfl, ⟨I11, (H.sub [(1, false), (5, true), (0, false), (2, true)] rfl).eq rfl⟩, hF⟩
    ·replace hF := ite_f hc7 hF
     refine wp_exit ?_
     refine p_then_x ?_
     refine p_then_x ?_
     refine f_exit_here ?_
     refine p_then ?_
     exact ⟨good_6, out_5, v9, Z.sub (ts := [1, 8, 9, 12]) rfl, ⟨I9, (H.sub [(2, false)] rfl).eq rfl⟩, hF⟩

end Go.Proofs.Ytmdoimpeacndaaa
