/- Links: what comes in. -/
import Derived.Test.YtghkhndlpfmpfaaYLinkA
namespace Go.Proofs.Ytghkhndlpfmpfaa
open Go.RowKit
def tLinkBL : TabL := ⟨[(59392, 0), (59393, 1), (59394, 2), (59395, 3), (59396, 4), (59397, 5), (59398, 6), (59399, 7), (67584, 0), (67585, 1), (67586, 2), (69632, 0), (69633, 1), (69634, 2), (71680, 0), (71681, 1), (71682, 2), (71683, 5), (71684, 8)], [], [], [(28, (9, 1))], [(3, (1, false)), (4, (1, false)), (9, (1, false)), (28, (1, false)), (58, (8, true)), (68, (3, true))]⟩

def tLinkB : Tab Try.prog := ⟨tLinkBL, by kernel_rfl⟩

theorem fn_24_YLinkB : IsFn Try.prog 24 := ⟨_, Try.func24, by kernel_rfl, by kernel_rfl⟩

theorem fn_38_YLinkB : IsFn Try.prog 38 := ⟨_, Try.func38, by kernel_rfl, by kernel_rfl⟩

theorem fn_39_YLinkB : IsFn Try.prog 39 := ⟨_, Try.func39, by kernel_rfl, by kernel_rfl⟩

theorem fn_40_YLinkB : IsFn Try.prog 40 := ⟨_, Try.func40, by kernel_rfl, by kernel_rfl⟩

theorem fn_54_YLinkB : IsFn Try.prog 54 := ⟨_, Try.func54, by kernel_rfl, by kernel_rfl⟩

theorem E_28_YLinkB : Elem Try.prog 28 9 1 16 := ⟨Try.underlying28, by
 have h : (Try.prog.info? 9).map (fun i => (i.zero, i.size, i.bytes)) = some (some (.string ByteArray.empty), 1, 16) := by kernel_rfl
 obtain ⟨i, hi, h1⟩ := Option.map_eq_some_iff.1 h
 simp only [Prod.mk.injEq] at h1
 exact ⟨i, _, hi, h1.1, h1.2.1, h1.2.2, by rfl⟩, by decide⟩

def F_link_queue_string_anew (q : Elink_Link) : Option Elink_Link := some ({ q with q := ({ (default : Elink_queue_string) with l := q.q.l } : Elink_queue_string) } : Elink_Link)

set_option maxHeartbeats 1000000 in
theorem c_link_queue_string_anew {I D : Dm} {b_q : Nat} {q : Elink_Link} {w : World} {rr : Elink_Link} (hF : F_link_queue_string_anew q = some rr) (H : St I D w [OElink_Link b_q q]) :
  Calls Try.prog 54 #[.pointer (some ⟨b_q, 2, none⟩)] w (Ret fun vv w' => vv = .tuple #[] ∧ ∃ I', Hf I D w I' w' [OElink_Link b_q rr]) := by
 replace H := H.hf
 unfold F_link_queue_string_anew at hF
 refine f_enter 8 Try.func54 rfl rfl (Nat.le_of_ble_eq_true rfl) fun a Z => ?_
 replace Z := Z.sub (ts := [0]) rfl
 refine f_region Z ?_; clear Z; intro Z
 refine s_runk tLinkB Z 4 rfl rfl ?_; clear Z a; intro a Z
 obtain ⟨v1, H⟩ := H.openX 0 rfl
 replace H : Hf I D w I w [BxC b_q 70 (cElink_Link q v1), OwC NS 9 v1 q.q.l] := H
 refine h_store tLinkB Z H 0 rfl rfl rfl rfl rfl rfl rfl rfl rfl (one_cons rfl one_nil) (Nat.le_of_ble_eq_true rfl) rfl ?_; clear H; intro w1 H
 dsimp only [List.eraseIdx] at H
 refine s_runk tLinkB Z 2 rfl rfl ?_; clear Z a; intro a Z
 refine h_store tLinkB Z H 0 rfl rfl rfl rfl rfl rfl rfl rfl rfl (one_cons rfl one_nil) (Nat.le_of_ble_eq_true rfl) rfl ?_; clear H; intro w2 H
 dsimp only [List.eraseIdx] at H
 refine s_end Z [] rfl ?_; clear Z; intro Z
 replace H : Hf I D w I w2 [OElink_Link b_q ({ q with q := ({ (default : Elink_queue_string) with l := q.q.l } : Elink_queue_string) } : Elink_Link)] := H.shutX (v1) [(0, false), (0, false)] rfl
 obtain rfl := some_in hF
 exact f_fall Z (run_results0 rfl) ⟨rfl, I, (H.sub [(0, false)] rfl).eq rfl⟩

def F_link_Link_learn_k1 (s0 : ESeg) (l_2 : Elink_Link) : Option Elink_Link := some ({ l_2 with peer := ({ boot := s0.boot, stream := s0.stream, next := 0 } : Elink_side) } : Elink_Link)

def F_link_Link_learn (l : Elink_Link) (s0 : ESeg) : Option Elink_Link := if (decide (s0.boot > l.peer.boot)) = true then (if (decide (l.peer.boot > 0)) = true then (chk (inI (l.stream + 1)) ((F_link_queue_string_anew ({ l with stream := l.stream + 1 } : Elink_Link)).bind fun a0 => (F_link_Link_learn_k1 s0 a0))) else (F_link_Link_learn_k1 s0 l)) else (if (decide (s0.stream > l.peer.stream)) = true then (some ({ l with peer := ({ l.peer with stream := s0.stream, next := 0 } : Elink_side) } : Elink_Link)) else (some l))

set_option maxHeartbeats 1000000 in
theorem c_link_Link_learn {I D : Dm} {b_l : Nat} {l : Elink_Link} {s0 : ESeg} {w : World} {rr : Elink_Link} (hF : F_link_Link_learn l s0 = some rr) (H : St I D w [OElink_Link b_l l]) :
  Calls Try.prog 39 #[.pointer (some ⟨b_l, 0, none⟩), .agg #[.int .i64 s0.boot, .int .i64 s0.stream, .int .i64 s0.seq, .int .i64 s0.ackBoot, .int .i64 s0.ackStream, .int .i64 s0.ackSeq, .bool s0.has, .string s0.body]] w (Ret fun vv w' => vv = .tuple #[] ∧ ∃ I', Hf I D w I' w' [OElink_Link b_l rr]) := by
 replace H := H.hf
 unfold F_link_Link_learn at hF
 refine f_enter 57 Try.func39 rfl rfl (Nat.le_of_ble_eq_true rfl) fun a Z => ?_
 replace Z := Z.sub (ts := [0, 1]) rfl
 refine wp_seq (f_region Z ?_); clear Z; intro Z
 refine h_boxv Z H (cl := [.int .i64 s0.boot, .int .i64 s0.stream, .int .i64 s0.seq, .int .i64 s0.ackBoot, .int .i64 s0.ackStream, .int .i64 s0.ackSeq, .bool s0.has, .string s0.body]) rfl rfl rfl (by decide) rfl rfl rfl ?_; clear Z a H; intro a w1 b1 H Z
 refine s_end Z [0, 3] rfl ?_; clear Z; intro Z
 refine p_then (wp_block ?_)
 refine wp_seq ?_
 obtain ⟨v1, H⟩ := H.openX 1 rfl
 replace H : Hf I D w I w1 [BxC b_l 70 (cElink_Link l v1), OwC NS 9 v1 l.q.l, BxC b1 58 (cESeg s0)] := H
 refine f_quietd (by kernel_rfl) (by kernel_rfl) Z ?_; clear Z; intro Z
 refine q_runk tLinkB Z 1 rfl rfl ?_; clear Z a; intro a Z
 refine q_ob Z (v := .int .i64 s0.boot) rfl rfl (by decide) rfl (fun _ hw => Ob_load tLinkB rfl rfl rfl (((H.blw hw).bx 2 rfl).cell 0 rfl)) ?_; clear Z a; intro a Z
 refine q_runk tLinkB Z 4 rfl rfl ?_; clear Z a; intro a Z
 refine q_ob Z (v := .int .i64 l.peer.boot) rfl rfl (by decide) rfl (fun _ hw => Ob_load tLinkB rfl rfl rfl (((H.blw hw).bx 0 rfl).cell 5 rfl)) ?_; clear Z a; intro a Z
 refine q_runk tLinkB Z 2 rfl rfl ?_; clear Z a; intro a Z
 refine q_end Z [0, 3, 4] rfl ?_; clear Z; intro w2 hb Z
 replace H : Hf I D w I w2 [BxC b_l 70 (cElink_Link l v1), OwC NS 9 v1 l.q.l, BxC b1 58 (cESeg s0)] := H.blw hb
 clear hb
 refine p_then ?_
 refine f_cond Z rfl (fun hc1 => ?_) (fun hc1 => ?_)
 ·replace hF := ite_t hc1 hF
  refine f_cut (fun a' w' => ∃ (l_2 : Elink_Link), Sl 57 [(0, .pointer (some ⟨b_l, 0, none⟩)), (3, .pointer (some ⟨b1, 0, none⟩))] a' ∧ (∃ I2, Hf I D w I2 w' [OElink_Link b_l l_2, BxC b1 58 (cESeg s0)]) ∧ F_link_Link_learn_k1 s0 l_2 = some rr) ?_ ?_
  ·rintro a w3 ⟨l_2, Z, ⟨I1, H⟩, hF⟩
   unfold F_link_Link_learn_k1 at hF
   try dsimp only at hF
   refine f_region Z ?_; clear Z; intro Z
   refine s_runk tLinkB Z 2 rfl rfl ?_; clear Z a; intro a Z
   refine s_ob Z (v := .int .i64 s0.boot) rfl rfl (by decide) rfl (Ob_load tLinkB rfl rfl rfl ((H.bx 1 rfl).cell 0 rfl)) ?_; clear Z a; intro a Z
   refine s_runk tLinkB Z 1 rfl rfl ?_; clear Z a; intro a Z
   refine s_ob Z (v := .int .i64 s0.stream) rfl rfl (by decide) rfl (Ob_load tLinkB rfl rfl rfl ((H.bx 1 rfl).cell 1 rfl)) ?_; clear Z a; intro a Z
   refine s_ob Z (v := .agg #[.int .i64 s0.boot, .int .i64 s0.stream, .int .i64 0]) rfl rfl (by decide) rfl (Ob_build (vs := [(0, .int .i64 s0.boot), (1, .int .i64 s0.stream), (2, .int .i64 0)]) rfl rfl (by go_simp <;> rfl)) ?_; clear Z a; intro a Z
   refine s_runk tLinkB Z 2 rfl rfl ?_; clear Z a; intro a Z
   obtain ⟨v2, H⟩ := H.openX 0 rfl
   replace H : Hf I D w I1 w3 [BxC b_l 70 (cElink_Link l_2 v2), OwC NS 9 v2 l_2.q.l, BxC b1 58 (cESeg s0)] := H
   refine h_store tLinkB Z H 0 rfl rfl rfl rfl rfl rfl rfl rfl rfl (one_cons rfl (one_cons rfl (one_cons rfl one_nil))) (Nat.le_of_ble_eq_true rfl) rfl ?_; clear H; intro w4 H
   dsimp only [List.eraseIdx] at H
   refine s_end Z [] rfl ?_; clear Z; intro Z
   refine p_blk ?_
   replace H : Hf I D w I1 w4 [OElink_Link b_l ({ l_2 with peer := ({ boot := s0.boot, stream := s0.stream, next := 0 } : Elink_side) } : Elink_Link), BxC b1 58 (cESeg s0)] := H.shutX (v2) [(0, false), (0, false)] rfl
   obtain rfl := some_in hF
   exact f_fall Z (run_results0 rfl) ⟨rfl, I1, (H.sub [(0, false)] rfl).eq rfl⟩
  ·skip
   refine wp_seq (f_region Z ?_); clear Z; intro Z
   refine s_runk tLinkB Z 4 rfl rfl ?_; clear Z a; intro a Z
   refine s_ob Z (v := .int .i64 l.peer.boot) rfl rfl (by decide) rfl (Ob_load tLinkB rfl rfl rfl ((H.bx 0 rfl).cell 5 rfl)) ?_; clear Z a; intro a Z
   refine s_runk tLinkB Z 1 rfl rfl ?_; clear Z a; intro a Z
   refine s_end Z [0, 3, 18] rfl ?_; clear Z; intro Z
   refine p_then ?_
   refine f_cond Z rfl (fun hc2 => ?_) (fun hc2 => ?_)
   ·replace hF := ite_t hc2 hF
    refine wp_seq ?_
    obtain ⟨hg1, hF⟩ := chk_in hF
    refine f_region Z ?_; clear Z; intro Z
    refine s_runk tLinkB Z 3 rfl rfl ?_; clear Z a; intro a Z
    refine s_ob Z (v := .int .i64 l.stream) rfl rfl (by decide) rfl (Ob_load tLinkB rfl rfl rfl ((H.bx 0 rfl).cell 1 rfl)) ?_; clear Z a; intro a Z
    refine s_ob Z (v := .int .i64 (l.stream + 1)) rfl rfl (by decide) rfl (Ob_add rfl rfl rfl (wrI hg1)) ?_; clear Z a; intro a Z
    refine s_runk tLinkB Z 2 rfl rfl ?_; clear Z a; intro a Z
    refine h_store tLinkB Z H 0 rfl rfl rfl rfl rfl rfl rfl rfl rfl (one_cons rfl one_nil) (Nat.le_of_ble_eq_true rfl) rfl ?_; clear H; intro w5 H
    dsimp only [List.eraseIdx] at H
    refine s_end Z [0, 3] rfl ?_; clear Z; intro Z
    refine p_then ?_
    obtain ⟨a0, hx1, hF⟩ := bnd_in hF
    refine f_region Z ?_; clear Z; intro Z
    refine s_runk tLinkB Z 3 rfl rfl ?_; clear Z a; intro a Z
    replace H : Hf I D w I w5 [OElink_Link b_l ({ l with stream := l.stream + 1 } : Elink_Link), BxC b1 58 (cESeg s0)] := H.shutX (v1) [(0, false), (0, false)] rfl
    refine h_call Z H (js := [(0, false)]) rfl (caps := #[]) fn_54_YLinkB rfl rfl rfl rfl rfl (by decide) rfl rfl (fun D1 hS => have hq := c_link_queue_string_anew hx1 hS; hq) ?_; clear Z a; intro vv a w6 D2 hr hF2 Z
    obtain ⟨rfl, I2, K⟩ := hr
    have H : Hf I D w I2 w6 [OElink_Link b_l a0, BxC b1 58 (cESeg s0)] := hF2 K
    clear hF2 K
    refine s_end Z [0, 3] rfl ?_; clear Z; intro Z
    refine p_then ?_
    exact ⟨a0, Z.sub (ts := [0, 3]) rfl, ⟨I2, (H.sub [(0, false), (0, false)] rfl).eq rfl⟩, hF⟩
   ·replace hF := ite_f hc2 hF
    refine wp_skip ?_
    refine p_then ?_
    replace H : Hf I D w I w2 [OElink_Link b_l l, BxC b1 58 (cESeg s0)] := H.shutX (v1) [(0, false), (0, false)] rfl
    exact ⟨l, Z.sub (ts := [0, 3]) rfl, ⟨I, (H.sub [(0, false), (0, false)] rfl).eq rfl⟩, hF⟩
 ·replace hF := ite_f hc1 hF
  refine wp_seq ?_
  refine f_quietd (by kernel_rfl) (by kernel_rfl) Z ?_; clear Z; intro Z
  refine q_runk tLinkB Z 1 rfl rfl ?_; clear Z a; intro a Z
  refine q_ob Z (v := .int .i64 s0.stream) rfl rfl (by decide) rfl (fun _ hw => Ob_load tLinkB rfl rfl rfl (((H.blw hw).bx 2 rfl).cell 1 rfl)) ?_; clear Z a; intro a Z
  refine q_runk tLinkB Z 4 rfl rfl ?_; clear Z a; intro a Z
  refine q_ob Z (v := .int .i64 l.peer.stream) rfl rfl (by decide) rfl (fun _ hw => Ob_load tLinkB rfl rfl rfl (((H.blw hw).bx 0 rfl).cell 6 rfl)) ?_; clear Z a; intro a Z
  refine q_runk tLinkB Z 2 rfl rfl ?_; clear Z a; intro a Z
  refine q_end Z [0, 3, 38] rfl ?_; clear Z; intro w7 hb Z
  replace H : Hf I D w I w7 [BxC b_l 70 (cElink_Link l v1), OwC NS 9 v1 l.q.l, BxC b1 58 (cESeg s0)] := H.blw hb
  clear hb
  refine p_then ?_
  refine f_cond Z rfl (fun hc3 => ?_) (fun hc3 => ?_)
  ·replace hF := ite_t hc3 hF
   refine f_region Z ?_; clear Z; intro Z
   refine s_runk tLinkB Z 3 rfl rfl ?_; clear Z a; intro a Z
   refine s_ob Z (v := .int .i64 s0.stream) rfl rfl (by decide) rfl (Ob_load tLinkB rfl rfl rfl ((H.bx 2 rfl).cell 1 rfl)) ?_; clear Z a; intro a Z
   refine s_runk tLinkB Z 3 rfl rfl ?_; clear Z a; intro a Z
   refine h_store tLinkB Z H 0 rfl rfl rfl rfl rfl rfl rfl rfl rfl (one_cons rfl one_nil) (Nat.le_of_ble_eq_true rfl) rfl ?_; clear H; intro w8 H
   dsimp only [List.eraseIdx] at H
   refine s_runk tLinkB Z 3 rfl rfl ?_; clear Z a; intro a Z
   refine h_store tLinkB Z H 0 rfl rfl rfl rfl rfl rfl rfl rfl rfl (one_cons rfl one_nil) (Nat.le_of_ble_eq_true rfl) rfl ?_; clear H; intro w9 H
   dsimp only [List.eraseIdx] at H
   refine s_end Z [] rfl ?_; clear Z; intro Z
   refine p_blk ?_
   replace H : Hf I D w I w9 [OElink_Link b_l ({ l with peer := ({ l.peer with stream := s0.stream, next := 0 } : Elink_side) } : Elink_Link), BxC b1 58 (cESeg s0)] := H.shutX (v1) [(0, false), (0, false)] rfl
   obtain rfl := some_in hF
   exact f_fall Z (run_results0 rfl) ⟨rfl, I, (H.sub [(0, false)] rfl).eq rfl⟩
  ·replace hF := ite_f hc3 hF
   refine wp_skip ?_
   refine p_blk ?_
   replace H : Hf I D w I w7 [OElink_Link b_l l, BxC b1 58 (cESeg s0)] := H.shutX (v1) [(0, false), (0, false)] rfl
   obtain rfl := some_in hF
   exact f_fall Z (run_results0 rfl) ⟨rfl, I, (H.sub [(0, false)] rfl).eq rfl⟩

def F_link_queue_string_upto (q : Elink_Link) (n0 : Int) : Option Elink_Link := chk (inI (n0 - q.q.first)) (chk ((0 : Int) ≤ min (max (n0 - q.q.first) 0) (q.q.l.length : Int) ∧ min (max (n0 - q.q.first) 0) (q.q.l.length : Int) ≤ (q.q.l.length : Int)) (chk (((([] : List ByteArray).length + (q.q.l.drop ((min (max (n0 - q.q.first) 0) (q.q.l.length : Int)).toNat)).length : Nat) : Int) * 16 ≤ 140737488355328) (chk (inI (q.q.first + (min (max (n0 - q.q.first) 0) (q.q.l.length : Int)))) (chk (inI (q.q.told - (min (max (n0 - q.q.first) 0) (q.q.l.length : Int)))) (some ({ q with q := ({ first := q.q.first + (min (max (n0 - q.q.first) 0) (q.q.l.length : Int)), l := ([] : List ByteArray) ++ (q.q.l.drop ((min (max (n0 - q.q.first) 0) (q.q.l.length : Int)).toNat)), told := max (q.q.told - (min (max (n0 - q.q.first) 0) (q.q.l.length : Int))) 0 } : Elink_queue_string) } : Elink_Link))))))

set_option maxHeartbeats 1000000 in
theorem c_link_queue_string_upto {I D : Dm} {b_q : Nat} {q : Elink_Link} {n0 : Int} {w : World} {rr : Elink_Link} (hF : F_link_queue_string_upto q n0 = some rr) (H : St I D w [OElink_Link b_q q]) :
  Calls Try.prog 40 #[.pointer (some ⟨b_q, 2, none⟩), .int .i64 n0] w (Ret fun vv w' => vv = .tuple #[] ∧ ∃ I', Hf I D w I' w' [OElink_Link b_q rr]) := by
 replace H := H.hf
 unfold F_link_queue_string_upto at hF
 refine f_enter 46 Try.func40 rfl rfl (Nat.le_of_ble_eq_true rfl) fun a Z => ?_
 replace Z := Z.sub (ts := [0, 1]) rfl
 refine wp_seq ?_
 obtain ⟨v1, H⟩ := H.openX 0 rfl
 replace H : Hf I D w I w [BxC b_q 70 (cElink_Link q v1), OwC NS 9 v1 q.q.l] := H
 obtain ⟨hg1, hF⟩ := chk_in hF
 refine f_quietd (by kernel_rfl) (by kernel_rfl) Z ?_; clear Z; intro Z
 refine q_runk tLinkB Z 4 rfl rfl ?_; clear Z a; intro a Z
 refine q_ob Z (v := .int .i64 q.q.first) rfl rfl (by decide) rfl (fun _ hw => Ob_load tLinkB rfl rfl rfl (((H.blw hw).bx 0 rfl).cell 2 rfl)) ?_; clear Z a; intro a Z
 refine q_ob Z (v := .int .i64 (n0 - q.q.first)) rfl rfl (by decide) rfl (fun _ hw => Ob_sub rfl rfl rfl (wrI hg1)) ?_; clear Z a; intro a Z
 refine q_runk tLinkB Z 4 rfl rfl ?_; clear Z a; intro a Z
 refine q_ob Z (v := v1) rfl rfl (by decide) rfl (fun _ hw => Ob_load tLinkB rfl rfl rfl (((H.blw hw).bx 0 rfl).cell 3 rfl)) ?_; clear Z a; intro a Z
 refine q_ob Z (v := .int .i64 (q.q.l.length : Int)) rfl rfl (by decide) rfl (fun _ hw => Ob_slen tLinkB rfl rfl rfl ((H.blw hw).owshape 1 rfl)) ?_; clear Z a; intro a Z
 refine q_runk tLinkB Z 2 rfl rfl ?_; clear Z a; intro a Z
 refine q_end Z [0, 4] rfl ?_; clear Z; intro w1 hb Z
 replace H : Hf I D w I w1 [BxC b_q 70 (cElink_Link q v1), OwC NS 9 v1 q.q.l] := H.blw hb
 clear hb
 refine p_then (wp_seq ?_)
 obtain ⟨hg2, hF⟩ := chk_in hF
 obtain ⟨hg3, hF⟩ := chk_in hF
 refine f_region Z ?_; clear Z; intro Z
 refine s_runk tLinkB Z 4 rfl rfl ?_; clear Z a; intro a Z
 refine s_ob Z (v := v1) rfl rfl (by decide) rfl (Ob_load tLinkB rfl rfl rfl ((H.bx 0 rfl).cell 3 rfl)) ?_; clear Z a; intro a Z
 refine s_runk tLinkB Z 1 rfl rfl ?_; clear Z a; intro a Z
 refine s_ob Z (v := subV v1 ((min (max (n0 - q.q.first) 0) (q.q.l.length : Int)).toNat) q.q.l.length 1) rfl rfl (by decide) rfl (Ob_sub_from tLinkB rfl rfl rfl rfl (H.owshape 1 rfl) hg2) ?_; clear Z a; intro a Z
 replace H : Hf I D w I w1 [OwC NS 9 (.slice none 0 0) ([] : List ByteArray), BxC b_q 70 (cElink_Link q v1), OwC NS 9 v1 q.q.l] := H.nilow NS 9
 refine h_appO Z H 0 E_28_YLinkB (q.q.l.drop ((min (max (n0 - q.q.first) 0) (q.q.l.length : Int)).toNat)) rfl rfl rfl rfl rfl (by decide) rfl rfl rfl ((H.ow2 2 rfl).part_from hg2 1 rfl) hg3 (by decide) ?_; clear Z a H; intro v2 a w2 H Z
 dsimp only [List.eraseIdx] at H
 refine s_runk tLinkB Z 2 rfl rfl ?_; clear Z a; intro a Z
 refine h_store tLinkB Z H 1 rfl rfl rfl rfl rfl rfl (slS.cells (H.owshape 0 rfl)) rfl rfl (one_cons (slS.one (H.owshape 0 rfl)) one_nil) (Nat.le_of_ble_eq_true rfl) rfl ?_; clear H; intro w3 H
 dsimp only [List.eraseIdx] at H
 refine s_end Z [0, 4] rfl ?_; clear Z; intro Z
 refine p_then (wp_seq ?_)
 obtain ⟨hg4, hF⟩ := chk_in hF
 refine f_region Z ?_; clear Z; intro Z
 refine s_runk tLinkB Z 3 rfl rfl ?_; clear Z a; intro a Z
 refine s_ob Z (v := .int .i64 q.q.first) rfl rfl (by decide) rfl (Ob_load tLinkB rfl rfl rfl ((H.bx 0 rfl).cell 2 rfl)) ?_; clear Z a; intro a Z
 refine s_runk tLinkB Z 1 rfl rfl ?_; clear Z a; intro a Z
 refine s_ob Z (v := .int .i64 (q.q.first + (min (max (n0 - q.q.first) 0) (q.q.l.length : Int)))) rfl rfl (by decide) rfl (Ob_add rfl rfl rfl (wrI hg4)) ?_; clear Z a; intro a Z
 refine s_runk tLinkB Z 2 rfl rfl ?_; clear Z a; intro a Z
 refine h_store tLinkB Z H 0 rfl rfl rfl rfl rfl rfl rfl rfl rfl (one_cons rfl one_nil) (Nat.le_of_ble_eq_true rfl) rfl ?_; clear H; intro w4 H
 dsimp only [List.eraseIdx] at H
 refine s_end Z [0, 4] rfl ?_; clear Z; intro Z
 refine p_then ?_
 obtain ⟨hg5, hF⟩ := chk_in hF
 refine f_region Z ?_; clear Z; intro Z
 refine s_runk tLinkB Z 4 rfl rfl ?_; clear Z a; intro a Z
 refine s_ob Z (v := .int .i64 q.q.told) rfl rfl (by decide) rfl (Ob_load tLinkB rfl rfl rfl ((H.bx 0 rfl).cell 4 rfl)) ?_; clear Z a; intro a Z
 refine s_runk tLinkB Z 1 rfl rfl ?_; clear Z a; intro a Z
 refine s_ob Z (v := .int .i64 (q.q.told - (min (max (n0 - q.q.first) 0) (q.q.l.length : Int)))) rfl rfl (by decide) rfl (Ob_sub rfl rfl rfl (wrI hg5)) ?_; clear Z a; intro a Z
 refine s_runk tLinkB Z 3 rfl rfl ?_; clear Z a; intro a Z
 refine h_store tLinkB Z H 0 rfl rfl rfl rfl rfl rfl rfl rfl rfl (one_cons rfl one_nil) (Nat.le_of_ble_eq_true rfl) rfl ?_; clear H; intro w5 H
 dsimp only [List.eraseIdx] at H
 refine s_end Z [] rfl ?_; clear Z; intro Z
 replace H : Hf I D w I w5 [OElink_Link b_q ({ q with q := ({ first := q.q.first + (min (max (n0 - q.q.first) 0) (q.q.l.length : Int)), l := ([] : List ByteArray) ++ (q.q.l.drop ((min (max (n0 - q.q.first) 0) (q.q.l.length : Int)).toNat)), told := max (q.q.told - (min (max (n0 - q.q.first) 0) (q.q.l.length : Int))) 0 } : Elink_queue_string) } : Elink_Link), OwC NS 9 v1 q.q.l] := H.shutX (v2) [(0, false), (0, false)] rfl
 obtain rfl := some_in hF
 exact f_fall Z (run_results0 rfl) ⟨rfl, I, (H.sub [(0, false)] rfl).eq rfl⟩

def F_link_Link_In_k1 (s0 : ESeg) (l_2 : Elink_Link) (l_3 : Elink_Link) : Option ((List ByteArray) × Int × Elink_Link) := if (!s0.has) = true then (some (([] : List ByteArray), 0, l_3)) else (if (((!(s0.ackBoot == l_2.boot)) || (s0.stream != l_3.peer.stream)) || (s0.seq != l_3.peer.next)) = true then (some (([] : List ByteArray), 0, ({ l_3 with owes := true } : Elink_Link))) else (chk (inI (l_3.peer.next + 1)) (some ([s0.body], 0, ({ l_3 with peer := ({ l_3.peer with next := l_3.peer.next + 1 } : Elink_side), owes := true } : Elink_Link)))))

def F_link_Link_In (l : Elink_Link) (s0 : ESeg) : Option ((List ByteArray) × Int × Elink_Link) := (F_link_Link_none l).bind fun n0 => (if (n0) = true then (some (([] : List ByteArray), 8, l)) else ((F_link_may s0).bind fun m => (if (!m) = true then (some (([] : List ByteArray), 1, l)) else (if (decide (s0.boot < l.peer.boot)) = true then (some (([] : List ByteArray), 0, l)) else ((F_link_Link_learn l s0).bind fun l_2 => (if ((s0.ackBoot == l_2.boot) && (s0.ackStream == l_2.stream)) = true then ((F_link_queue_string_upto l_2 s0.ackSeq).bind fun u => (F_link_Link_In_k1 s0 l_2 u)) else (F_link_Link_In_k1 s0 l_2 l_2)))))))

set_option maxHeartbeats 1000000 in
theorem c_link_Link_In {I D : Dm} {b_l : Nat} {l : Elink_Link} {s0 : ESeg} {w : World} {rr : (List ByteArray) × Int × Elink_Link} (hF : F_link_Link_In l s0 = some rr) (H : St I D w [OElink_Link b_l l]) :
  Calls Try.prog 21 #[.pointer (some ⟨b_l, 0, none⟩), .agg #[.int .i64 s0.boot, .int .i64 s0.stream, .int .i64 s0.seq, .int .i64 s0.ackBoot, .int .i64 s0.ackStream, .int .i64 s0.ackSeq, .bool s0.has, .string s0.body]] w (Ret fun vv w' => ∃ q1 : Value, vv = .tuple #[q1, .int .i64 rr.2.1] ∧ ∃ I', Hf I D w I' w' [OElink_Link b_l rr.2.2, SlC NS q1 rr.1]) := by
 replace H := H.hf
 unfold F_link_Link_In at hF
 refine f_enter 89 Try.func21 rfl rfl (Nat.le_of_ble_eq_true rfl) fun a Z => ?_
 replace Z := Z.sub (ts := [0, 1]) rfl
 refine wp_seq (f_region Z ?_); clear Z; intro Z
 refine h_boxv Z H (cl := [.int .i64 s0.boot, .int .i64 s0.stream, .int .i64 s0.seq, .int .i64 s0.ackBoot, .int .i64 s0.ackStream, .int .i64 s0.ackSeq, .bool s0.has, .string s0.body]) rfl rfl rfl (by decide) rfl rfl rfl ?_; clear Z a H; intro a w1 b1 H Z
 refine s_runk tLinkB Z 2 rfl rfl ?_; clear Z a; intro a Z
 refine s_end Z [0, 3, 4, 5] rfl ?_; clear Z; intro Z
 refine p_then (wp_seq ?_)
 refine wp_block ?_
 refine wp_seq ?_
 obtain ⟨n0, hx1, hF⟩ := bnd_in hF
 refine f_region Z ?_; clear Z; intro Z
 refine s_runk tLinkB Z 1 rfl rfl ?_; clear Z a; intro a Z
 refine h_call Z H (js := [(1, false)]) rfl (caps := #[]) fn_24_YLinkB rfl rfl rfl rfl rfl (by decide) rfl rfl (fun D1 hS => have hq := c_link_Link_none hx1 hS; hq) ?_; clear Z a; intro vv a w2 D2 hr hF2 Z
 obtain ⟨rfl, I1, K⟩ := hr
 have H : Hf I D w I1 w2 [OElink_Link b_l l, BxC b1 58 (cESeg s0)] := hF2 K
 clear hF2 K
 refine s_runk tLinkB Z 1 rfl rfl ?_; clear Z a; intro a Z
 refine s_end Z [0, 3, 4, 5, 7] rfl ?_; clear Z; intro Z
 refine p_then ?_
 refine f_cond Z rfl (fun hc1 => ?_) (fun hc1 => ?_)
 ·replace hF := ite_t hc1 hF
  refine wp_seq (f_region Z ?_); clear Z; intro Z
  refine s_runk tLinkB Z 2 rfl rfl ?_; clear Z a; intro a Z
  refine s_end Z [0, 3, 4, 5] rfl ?_; clear Z; intro Z
  refine p_then (wp_ret ?_)
  refine p_blk_r ?_
  refine p_then_r ?_
  replace H : Hf I D w I1 w2 [SlC NS (.slice none 0 0) ([] : List ByteArray), OElink_Link b_l l, BxC b1 58 (cESeg s0)] := H.slNil NS
  obtain rfl := some_in hF
  exact f_ret Z (run_results2 rfl Z rfl rfl) ⟨.slice none 0 0, rfl, I1, (H.sub [(1, false), (0, true)] rfl).eq rfl⟩
 ·replace hF := ite_f hc1 hF
  refine wp_seq ?_
  obtain ⟨m, hx2, hF⟩ := bnd_in hF
  refine f_region Z ?_; clear Z; intro Z
  refine s_ob Z (v := .agg #[.int .i64 s0.boot, .int .i64 s0.stream, .int .i64 s0.seq, .int .i64 s0.ackBoot, .int .i64 s0.ackStream, .int .i64 s0.ackSeq, .bool s0.has, .string s0.body]) rfl rfl (by decide) rfl (Ob_loads tLinkB rfl rfl rfl ((H.bx 1 rfl).part 0 rfl)) ?_; clear Z a; intro a Z
  refine h_call Z H (js := []) rfl (caps := #[]) fn_38_YLinkB rfl rfl rfl rfl rfl (by decide) rfl rfl (fun D1 hS => have hq := c_link_may hx2 hS; hq) ?_; clear Z a; intro vv a w3 D2 hr hF2 Z
  obtain ⟨rfl, I2, K⟩ := hr
  have H : Hf I D w I2 w3 [OElink_Link b_l l, BxC b1 58 (cESeg s0)] := hF2 K
  clear hF2 K
  refine s_runk tLinkB Z 2 rfl rfl ?_; clear Z a; intro a Z
  refine s_end Z [0, 3, 4, 5, 10] rfl ?_; clear Z; intro Z
  refine p_then ?_
  refine f_cond Z rfl (fun hc2 => ?_) (fun hc2 => ?_)
  ·replace hF := ite_t hc2 hF
   refine wp_seq (f_region Z ?_); clear Z; intro Z
   refine s_runk tLinkB Z 2 rfl rfl ?_; clear Z a; intro a Z
   refine s_end Z [0, 3, 4, 5] rfl ?_; clear Z; intro Z
   refine p_then (wp_ret ?_)
   refine p_blk_r ?_
   refine p_then_r ?_
   replace H : Hf I D w I2 w3 [SlC NS (.slice none 0 0) ([] : List ByteArray), OElink_Link b_l l, BxC b1 58 (cESeg s0)] := H.slNil NS
   obtain rfl := some_in hF
   exact f_ret Z (run_results2 rfl Z rfl rfl) ⟨.slice none 0 0, rfl, I2, (H.sub [(1, false), (0, true)] rfl).eq rfl⟩
  ·replace hF := ite_f hc2 hF
   refine wp_seq ?_
   obtain ⟨v1, H⟩ := H.openX 0 rfl
   replace H : Hf I D w I2 w3 [BxC b_l 70 (cElink_Link l v1), OwC NS 9 v1 l.q.l, BxC b1 58 (cESeg s0)] := H
   refine f_quietd (by kernel_rfl) (by kernel_rfl) Z ?_; clear Z; intro Z
   refine q_runk tLinkB Z 1 rfl rfl ?_; clear Z a; intro a Z
   refine q_ob Z (v := .int .i64 s0.boot) rfl rfl (by decide) rfl (fun _ hw => Ob_load tLinkB rfl rfl rfl (((H.blw hw).bx 2 rfl).cell 0 rfl)) ?_; clear Z a; intro a Z
   refine q_runk tLinkB Z 4 rfl rfl ?_; clear Z a; intro a Z
   refine q_ob Z (v := .int .i64 l.peer.boot) rfl rfl (by decide) rfl (fun _ hw => Ob_load tLinkB rfl rfl rfl (((H.blw hw).bx 0 rfl).cell 5 rfl)) ?_; clear Z a; intro a Z
   refine q_runk tLinkB Z 2 rfl rfl ?_; clear Z a; intro a Z
   refine q_end Z [0, 3, 4, 5, 14] rfl ?_; clear Z; intro w4 hb Z
   replace H : Hf I D w I2 w4 [BxC b_l 70 (cElink_Link l v1), OwC NS 9 v1 l.q.l, BxC b1 58 (cESeg s0)] := H.blw hb
   clear hb
   refine p_then ?_
   refine f_cond Z rfl (fun hc3 => ?_) (fun hc3 => ?_)
   ·replace hF := ite_t hc3 hF
    refine wp_seq (f_region Z ?_); clear Z; intro Z
    refine s_runk tLinkB Z 2 rfl rfl ?_; clear Z a; intro a Z
    refine s_end Z [0, 3, 4, 5] rfl ?_; clear Z; intro Z
    refine p_then (wp_ret ?_)
    refine p_blk_r ?_
    refine p_then_r ?_
    replace H : Hf I D w I2 w4 [SlC NS (.slice none 0 0) ([] : List ByteArray), BxC b_l 70 (cElink_Link l v1), OwC NS 9 v1 l.q.l, BxC b1 58 (cESeg s0)] := H.slNil NS
    replace H : Hf I D w I2 w4 [OElink_Link b_l l, SlC NS (.slice none 0 0) ([] : List ByteArray), BxC b1 58 (cESeg s0)] := H.shutX (v1) [(1, false), (1, false)] rfl
    obtain rfl := some_in hF
    exact f_ret Z (run_results2 rfl Z rfl rfl) ⟨.slice none 0 0, rfl, I2, (H.sub [(0, false), (0, true)] rfl).eq rfl⟩
   ·replace hF := ite_f hc3 hF
    refine wp_skip ?_
    refine p_blk ?_
    refine p_then (wp_seq ?_)
    obtain ⟨l_2, hx3, hF⟩ := bnd_in hF
    refine f_region Z ?_; clear Z; intro Z
    refine s_runk tLinkB Z 1 rfl rfl ?_; clear Z a; intro a Z
    refine s_ob Z (v := .agg #[.int .i64 s0.boot, .int .i64 s0.stream, .int .i64 s0.seq, .int .i64 s0.ackBoot, .int .i64 s0.ackStream, .int .i64 s0.ackSeq, .bool s0.has, .string s0.body]) rfl rfl (by decide) rfl (Ob_loads tLinkB rfl rfl rfl ((H.bx 2 rfl).part 0 rfl)) ?_; clear Z a; intro a Z
    replace H : Hf I D w I2 w4 [OElink_Link b_l l, BxC b1 58 (cESeg s0)] := H.shutX (v1) [(0, false), (0, false)] rfl
    refine h_call Z H (js := [(0, false)]) rfl (caps := #[]) fn_39_YLinkB rfl rfl rfl rfl rfl (by decide) rfl rfl (fun D1 hS => have hq := c_link_Link_learn hx3 hS; hq) ?_; clear Z a; intro vv a w5 D2 hr hF2 Z
    obtain ⟨rfl, I3, K⟩ := hr
    have H : Hf I D w I3 w5 [OElink_Link b_l l_2, BxC b1 58 (cESeg s0)] := hF2 K
    clear hF2 K
    refine s_end Z [0, 3, 4, 5] rfl ?_; clear Z; intro Z
    refine p_then (wp_seq ?_)
    obtain ⟨v2, H⟩ := H.openX 0 rfl
    replace H : Hf I D w I3 w5 [BxC b_l 70 (cElink_Link l_2 v2), OwC NS 9 v2 l_2.q.l, BxC b1 58 (cESeg s0)] := H
    refine f_quietd (by kernel_rfl) (by kernel_rfl) Z ?_; clear Z; intro Z
    refine q_runk tLinkB Z 1 rfl rfl ?_; clear Z a; intro a Z
    refine q_ob Z (v := .int .i64 s0.ackBoot) rfl rfl (by decide) rfl (fun _ hw => Ob_load tLinkB rfl rfl rfl (((H.blw hw).bx 2 rfl).cell 3 rfl)) ?_; clear Z a; intro a Z
    refine q_runk tLinkB Z 3 rfl rfl ?_; clear Z a; intro a Z
    refine q_ob Z (v := .int .i64 l_2.boot) rfl rfl (by decide) rfl (fun _ hw => Ob_load tLinkB rfl rfl rfl (((H.blw hw).bx 0 rfl).cell 0 rfl)) ?_; clear Z a; intro a Z
    refine q_runk tLinkB Z 2 rfl rfl ?_; clear Z a; intro a Z
    refine q_end Z [0, 3, 4, 5, 6] rfl ?_; clear Z; intro w6 hb Z
    replace H : Hf I D w I3 w6 [BxC b_l 70 (cElink_Link l_2 v2), OwC NS 9 v2 l_2.q.l, BxC b1 58 (cESeg s0)] := H.blw hb
    clear hb
    refine p_then ?_
    refine f_cut (fun a' w' => ∃ (l_3 : Elink_Link), Sl 89 [(0, .pointer (some ⟨b_l, 0, none⟩)), (3, .pointer (some ⟨b1, 0, none⟩)), (4, .slice none 0 0), (5, .int .i64 0), (6, .bool (s0.ackBoot == l_2.boot))] a' ∧ (∃ I2, Hf I D w I2 w' [OElink_Link b_l l_3, BxC b1 58 (cESeg s0)]) ∧ F_link_Link_In_k1 s0 l_2 l_3 = some rr) ?_ ?_
    ·rintro a w7 ⟨l_3, Z, ⟨I4, H⟩, hF⟩
     unfold F_link_Link_In_k1 at hF
     try dsimp only at hF
     refine wp_seq ?_
     refine wp_seq (f_region Z ?_); clear Z; intro Z
     refine s_runk tLinkB Z 1 rfl rfl ?_; clear Z a; intro a Z
     refine s_ob Z (v := .bool s0.has) rfl rfl (by decide) rfl (Ob_load tLinkB rfl rfl rfl ((H.bx 1 rfl).cell 6 rfl)) ?_; clear Z a; intro a Z
     refine s_runk tLinkB Z 1 rfl rfl ?_; clear Z a; intro a Z
     refine s_end Z [0, 3, 4, 5, 6, 51] rfl ?_; clear Z; intro Z
     refine p_then ?_
     refine f_cond Z rfl (fun hc4 => ?_) (fun hc4 => ?_)
     ·replace hF := ite_t hc4 hF
      refine wp_seq (f_region Z ?_); clear Z; intro Z
      refine s_runk tLinkB Z 2 rfl rfl ?_; clear Z a; intro a Z
      refine s_end Z [0, 3, 4, 5, 6] rfl ?_; clear Z; intro Z
      refine p_then (wp_ret ?_)
      refine p_then_r ?_
      replace H : Hf I D w I4 w7 [SlC NS (.slice none 0 0) ([] : List ByteArray), OElink_Link b_l l_3, BxC b1 58 (cESeg s0)] := H.slNil NS
      obtain rfl := some_in hF
      exact f_ret Z (run_results2 rfl Z rfl rfl) ⟨.slice none 0 0, rfl, I4, (H.sub [(1, false), (0, true)] rfl).eq rfl⟩
     ·replace hF := ite_f hc4 hF
      refine wp_skip ?_
      refine p_then (wp_seq (f_region Z ?_)); clear Z; intro Z
      refine s_runk tLinkB Z 3 rfl rfl ?_; clear Z a; intro a Z
      obtain ⟨v3, H⟩ := H.openX 0 rfl
      replace H : Hf I D w I4 w7 [BxC b_l 70 (cElink_Link l_3 v3), OwC NS 9 v3 l_3.q.l, BxC b1 58 (cESeg s0)] := H
      refine h_store tLinkB Z H 0 rfl rfl rfl rfl rfl rfl rfl rfl rfl (one_cons rfl one_nil) (Nat.le_of_ble_eq_true rfl) rfl ?_; clear H; intro w8 H
      dsimp only [List.eraseIdx] at H
      refine s_end Z [0, 3, 4, 5, 6] rfl ?_; clear Z; intro Z
      refine p_then (wp_seq ?_)
      refine wp_seq ?_
      refine f_quietd (by kernel_rfl) (by kernel_rfl) Z ?_; clear Z; intro Z
      refine q_runk tLinkB Z 3 rfl rfl ?_; clear Z a; intro a Z
      refine gq_ob Z (p := (!(!(s0.ackBoot == l_2.boot)))) (v := .pointer (some ⟨b1, 1, none⟩)) (S' := [(3, .pointer (some ⟨b1, 0, none⟩))]) rfl rfl rfl (wantB_f _) rfl (by decide) (fun hp hS => hS.sub (ts := [3]) rfl) (fun hp _ hw => Ob_c tLinkB rfl) ?_; clear Z a; intro a Z
      refine gq_ob Z (p := (!(!(s0.ackBoot == l_2.boot)))) (v := .int .i64 s0.stream) (S' := [(58, .pointer (some ⟨b1, 1, none⟩))]) rfl rfl rfl (wantB_f _) rfl (by decide) (fun hp hS => (hS.conv (t := 58) rfl (cond_t hp)).sub (ts := [58]) rfl) (fun hp _ hw => Ob_load tLinkB rfl rfl rfl (((H.blw hw).bx 2 rfl).cell 1 rfl)) ?_; clear Z a; intro a Z
      refine gq_ob Z (p := (!(!(s0.ackBoot == l_2.boot)))) (v := .pointer (some ⟨b_l, 0, none⟩)) (S' := [(0, .pointer (some ⟨b_l, 0, none⟩))]) rfl rfl rfl (wantB_f _) rfl (by decide) (fun hp hS => hS.sub (ts := [0]) rfl) (fun hp _ hw => Ob_c tLinkB rfl) ?_; clear Z a; intro a Z
      refine gq_ob Z (p := (!(!(s0.ackBoot == l_2.boot)))) (v := .pointer (some ⟨b_l, 0, none⟩)) (S' := [(60, .pointer (some ⟨b_l, 0, none⟩))]) rfl rfl rfl (wantB_f _) rfl (by decide) (fun hp hS => (hS.conv (t := 60) rfl (cond_t hp)).sub (ts := [60]) rfl) (fun hp _ hw => Ob_c tLinkB rfl) ?_; clear Z a; intro a Z
      refine gq_ob Z (p := (!(!(s0.ackBoot == l_2.boot)))) (v := .pointer (some ⟨b_l, 5, none⟩)) (S' := [(61, .pointer (some ⟨b_l, 0, none⟩))]) rfl rfl rfl (wantB_f _) rfl (by decide) (fun hp hS => (hS.conv (t := 61) rfl (cond_t hp)).sub (ts := [61]) rfl) (fun hp _ hw => Ob_c tLinkB rfl) ?_; clear Z a; intro a Z
      refine gq_ob Z (p := (!(!(s0.ackBoot == l_2.boot)))) (v := .pointer (some ⟨b_l, 6, none⟩)) (S' := [(62, .pointer (some ⟨b_l, 5, none⟩))]) rfl rfl rfl (wantB_f _) rfl (by decide) (fun hp hS => (hS.conv (t := 62) rfl (cond_t hp)).sub (ts := [62]) rfl) (fun hp _ hw => Ob_c tLinkB rfl) ?_; clear Z a; intro a Z
      refine gq_ob Z (p := (!(!(s0.ackBoot == l_2.boot)))) (v := .int .i64 l_3.peer.stream) (S' := [(63, .pointer (some ⟨b_l, 6, none⟩))]) rfl rfl rfl (wantB_f _) rfl (by decide) (fun hp hS => (hS.conv (t := 63) rfl (cond_t hp)).sub (ts := [63]) rfl) (fun hp _ hw => Ob_load tLinkB rfl rfl rfl (((H.blw hw).bx 0 rfl).cell 6 rfl)) ?_; clear Z a; intro a Z
      refine gq_ob Z (p := (!(!(s0.ackBoot == l_2.boot)))) (v := .bool (s0.stream != l_3.peer.stream)) (S' := [(59, .int .i64 s0.stream), (64, .int .i64 l_3.peer.stream)]) rfl rfl rfl (wantB_f _) rfl (by decide) (fun hp hS => ((hS.conv (t := 59) rfl (cond_t hp)).conv (t := 64) rfl (cond_t hp)).sub (ts := [59, 64]) rfl) (fun hp _ hw => Ob_c tLinkB rfl) ?_; clear Z a; intro a Z
      refine q_ob Z (v := .bool ((!(s0.ackBoot == l_2.boot)) || (s0.stream != l_3.peer.stream))) rfl rfl (by decide) rfl (fun _ hw => Ob_pick rfl rfl rfl rfl (pick_or _ _)) ?_; clear Z a; intro a Z
      refine q_runk tLinkB Z 1 rfl rfl ?_; clear Z a; intro a Z
      refine gq_ob Z (p := (!((!(s0.ackBoot == l_2.boot)) || (s0.stream != l_3.peer.stream)))) (v := .pointer (some ⟨b1, 2, none⟩)) (S' := [(3, .pointer (some ⟨b1, 0, none⟩))]) rfl rfl rfl (wantB_f _) rfl (by decide) (fun hp hS => hS.sub (ts := [3]) rfl) (fun hp _ hw => Ob_c tLinkB rfl) ?_; clear Z a; intro a Z
      refine gq_ob Z (p := (!((!(s0.ackBoot == l_2.boot)) || (s0.stream != l_3.peer.stream)))) (v := .int .i64 s0.seq) (S' := [(68, .pointer (some ⟨b1, 2, none⟩))]) rfl rfl rfl (wantB_f _) rfl (by decide) (fun hp hS => (hS.conv (t := 68) rfl (cond_t hp)).sub (ts := [68]) rfl) (fun hp _ hw => Ob_load tLinkB rfl rfl rfl (((H.blw hw).bx 2 rfl).cell 2 rfl)) ?_; clear Z a; intro a Z
      refine gq_ob Z (p := (!((!(s0.ackBoot == l_2.boot)) || (s0.stream != l_3.peer.stream)))) (v := .pointer (some ⟨b_l, 0, none⟩)) (S' := [(0, .pointer (some ⟨b_l, 0, none⟩))]) rfl rfl rfl (wantB_f _) rfl (by decide) (fun hp hS => hS.sub (ts := [0]) rfl) (fun hp _ hw => Ob_c tLinkB rfl) ?_; clear Z a; intro a Z
      refine gq_ob Z (p := (!((!(s0.ackBoot == l_2.boot)) || (s0.stream != l_3.peer.stream)))) (v := .pointer (some ⟨b_l, 0, none⟩)) (S' := [(70, .pointer (some ⟨b_l, 0, none⟩))]) rfl rfl rfl (wantB_f _) rfl (by decide) (fun hp hS => (hS.conv (t := 70) rfl (cond_t hp)).sub (ts := [70]) rfl) (fun hp _ hw => Ob_c tLinkB rfl) ?_; clear Z a; intro a Z
      refine gq_ob Z (p := (!((!(s0.ackBoot == l_2.boot)) || (s0.stream != l_3.peer.stream)))) (v := .pointer (some ⟨b_l, 5, none⟩)) (S' := [(71, .pointer (some ⟨b_l, 0, none⟩))]) rfl rfl rfl (wantB_f _) rfl (by decide) (fun hp hS => (hS.conv (t := 71) rfl (cond_t hp)).sub (ts := [71]) rfl) (fun hp _ hw => Ob_c tLinkB rfl) ?_; clear Z a; intro a Z
      refine gq_ob Z (p := (!((!(s0.ackBoot == l_2.boot)) || (s0.stream != l_3.peer.stream)))) (v := .pointer (some ⟨b_l, 7, none⟩)) (S' := [(72, .pointer (some ⟨b_l, 5, none⟩))]) rfl rfl rfl (wantB_f _) rfl (by decide) (fun hp hS => (hS.conv (t := 72) rfl (cond_t hp)).sub (ts := [72]) rfl) (fun hp _ hw => Ob_c tLinkB rfl) ?_; clear Z a; intro a Z
      refine gq_ob Z (p := (!((!(s0.ackBoot == l_2.boot)) || (s0.stream != l_3.peer.stream)))) (v := .int .i64 l_3.peer.next) (S' := [(73, .pointer (some ⟨b_l, 7, none⟩))]) rfl rfl rfl (wantB_f _) rfl (by decide) (fun hp hS => (hS.conv (t := 73) rfl (cond_t hp)).sub (ts := [73]) rfl) (fun hp _ hw => Ob_load tLinkB rfl rfl rfl (((H.blw hw).bx 0 rfl).cell 7 rfl)) ?_; clear Z a; intro a Z
      refine gq_ob Z (p := (!((!(s0.ackBoot == l_2.boot)) || (s0.stream != l_3.peer.stream)))) (v := .bool (s0.seq != l_3.peer.next)) (S' := [(69, .int .i64 s0.seq), (74, .int .i64 l_3.peer.next)]) rfl rfl rfl (wantB_f _) rfl (by decide) (fun hp hS => ((hS.conv (t := 69) rfl (cond_t hp)).conv (t := 74) rfl (cond_t hp)).sub (ts := [69, 74]) rfl) (fun hp _ hw => Ob_c tLinkB rfl) ?_; clear Z a; intro a Z
      refine q_ob Z (v := .bool (((!(s0.ackBoot == l_2.boot)) || (s0.stream != l_3.peer.stream)) || (s0.seq != l_3.peer.next))) rfl rfl (by decide) rfl (fun _ hw => Ob_pick rfl rfl rfl rfl (pick_or _ _)) ?_; clear Z a; intro a Z
      refine q_end Z [0, 3, 4, 5, 76] rfl ?_; clear Z; intro w9 hb Z
      replace H : Hf I D w I4 w9 [BxC b_l 70 [.int .i64 l_3.boot, .int .i64 l_3.stream, .int .i64 l_3.q.first, v3, .int .i64 l_3.q.told, .int .i64 l_3.peer.boot, .int .i64 l_3.peer.stream, .int .i64 l_3.peer.next, .bool true], OwC NS 9 v3 l_3.q.l, BxC b1 58 (cESeg s0)] := H.blw hb
      clear hb
      refine p_then ?_
      refine f_cond Z rfl (fun hc5 => ?_) (fun hc5 => ?_)
      ·replace hF := ite_t hc5 hF
       refine wp_seq (f_region Z ?_); clear Z; intro Z
       refine s_runk tLinkB Z 2 rfl rfl ?_; clear Z a; intro a Z
       refine s_end Z [0, 3, 4, 5] rfl ?_; clear Z; intro Z
       refine p_then (wp_ret ?_)
       refine p_then_r ?_
       replace H : Hf I D w I4 w9 [SlC NS (.slice none 0 0) ([] : List ByteArray), BxC b_l 70 [.int .i64 l_3.boot, .int .i64 l_3.stream, .int .i64 l_3.q.first, v3, .int .i64 l_3.q.told, .int .i64 l_3.peer.boot, .int .i64 l_3.peer.stream, .int .i64 l_3.peer.next, .bool true], OwC NS 9 v3 l_3.q.l, BxC b1 58 (cESeg s0)] := H.slNil NS
       replace H : Hf I D w I4 w9 [OElink_Link b_l ({ l_3 with owes := true } : Elink_Link), SlC NS (.slice none 0 0) ([] : List ByteArray), BxC b1 58 (cESeg s0)] := H.shutX (v3) [(1, false), (1, false)] rfl
       obtain rfl := some_in hF
       exact f_ret Z (run_results2 rfl Z rfl rfl) ⟨.slice none 0 0, rfl, I4, (H.sub [(0, false), (0, true)] rfl).eq rfl⟩
      ·replace hF := ite_f hc5 hF
       refine wp_skip ?_
       refine p_then (wp_seq ?_)
       obtain ⟨hg1, hF⟩ := chk_in hF
       refine f_region Z ?_; clear Z; intro Z
       refine s_runk tLinkB Z 4 rfl rfl ?_; clear Z a; intro a Z
       refine s_ob Z (v := .int .i64 l_3.peer.next) rfl rfl (by decide) rfl (Ob_load tLinkB rfl rfl rfl ((H.bx 0 rfl).cell 7 rfl)) ?_; clear Z a; intro a Z
       refine s_ob Z (v := .int .i64 (l_3.peer.next + 1)) rfl rfl (by decide) rfl (Ob_add rfl rfl rfl (wrI hg1)) ?_; clear Z a; intro a Z
       refine s_runk tLinkB Z 3 rfl rfl ?_; clear Z a; intro a Z
       refine h_store tLinkB Z H 0 rfl rfl rfl rfl rfl rfl rfl rfl rfl (one_cons rfl one_nil) (Nat.le_of_ble_eq_true rfl) rfl ?_; clear H; intro w10 H
       dsimp only [List.eraseIdx] at H
       refine s_end Z [3, 4, 5] rfl ?_; clear Z; intro Z
       refine p_then (wp_seq (f_region Z ?_)); clear Z; intro Z
       refine s_runk tLinkB Z 1 rfl rfl ?_; clear Z a; intro a Z
       refine s_ob Z (v := .string s0.body) rfl rfl (by decide) rfl (Ob_load tLinkB rfl rfl rfl ((H.bx 2 rfl).cell 7 rfl)) ?_; clear Z a; intro a Z
       refine h_bslice Z H (vs := [(0, .string s0.body)]) (cl := [.string s0.body]) (e := 9) rfl rfl rfl (by decide) rfl rfl (fun w => run_bslice (z := .string ByteArray.empty) (m := 1) Try.underlying28 (by kernel_rfl) rfl rfl (by decide) (by simp [Instr.fill, Value.cells]) w) ?_; clear Z a H; intro a w11 b2 H Z
       refine s_runk tLinkB Z 2 rfl rfl ?_; clear Z a; intro a Z
       refine s_end Z [4, 5] rfl ?_; clear Z; intro Z
       refine p_then (wp_ret ?_)
       obtain ⟨I5, _, H⟩ := H.frzlit 0 rfl (R := NS) [[.string s0.body]] [s0.body] rfl rfl (fun i h1 h2 => by match i, h1, h2 with | 0, _, _ => exact ⟨rfl, trivial⟩) (show 1 ≤ maxLen from by decide) (n := 1) rfl
       replace H : Hf I D w I5 w11 [SlC NS (.slice (some ⟨b2, 0, none⟩) 1 1) [s0.body], BxC b_l 70 [.int .i64 l_3.boot, .int .i64 l_3.stream, .int .i64 l_3.q.first, v3, .int .i64 l_3.q.told, .int .i64 l_3.peer.boot, .int .i64 l_3.peer.stream, .int .i64 (l_3.peer.next + 1), .bool true], OwC NS 9 v3 l_3.q.l, BxC b1 58 (cESeg s0)] := H
       replace H : Hf I D w I5 w11 [OElink_Link b_l ({ l_3 with peer := ({ l_3.peer with next := l_3.peer.next + 1 } : Elink_side), owes := true } : Elink_Link), SlC NS (.slice (some ⟨b2, 0, none⟩) 1 1) [s0.body], BxC b1 58 (cESeg s0)] := H.shutX (v3) [(1, false), (1, false)] rfl
       obtain rfl := some_in hF
       exact f_ret Z (run_results2 rfl Z rfl rfl) ⟨.slice (some ⟨b2, 0, none⟩) 1 1, rfl, I5, (H.sub [(0, false), (0, true)] rfl).eq rfl⟩
    ·skip
     refine wp_seq ?_
     refine f_quietd (by kernel_rfl) (by kernel_rfl) Z ?_; clear Z; intro Z
     refine q_runk tLinkB Z 2 rfl rfl ?_; clear Z a; intro a Z
     refine gq_ob Z (p := (s0.ackBoot == l_2.boot)) (v := .pointer (some ⟨b1, 4, none⟩)) (S' := [(3, .pointer (some ⟨b1, 0, none⟩))]) rfl rfl rfl (wantB_t _) rfl (by decide) (fun hp hS => hS.sub (ts := [3]) rfl) (fun hp _ hw => Ob_c tLinkB rfl) ?_; clear Z a; intro a Z
     refine gq_ob Z (p := (s0.ackBoot == l_2.boot)) (v := .int .i64 s0.ackStream) (S' := [(35, .pointer (some ⟨b1, 4, none⟩))]) rfl rfl rfl (wantB_t _) rfl (by decide) (fun hp hS => (hS.conv (t := 35) rfl (cond_t hp)).sub (ts := [35]) rfl) (fun hp _ hw => Ob_load tLinkB rfl rfl rfl (((H.blw hw).bx 2 rfl).cell 4 rfl)) ?_; clear Z a; intro a Z
     refine gq_ob Z (p := (s0.ackBoot == l_2.boot)) (v := .pointer (some ⟨b_l, 0, none⟩)) (S' := [(0, .pointer (some ⟨b_l, 0, none⟩))]) rfl rfl rfl (wantB_t _) rfl (by decide) (fun hp hS => hS.sub (ts := [0]) rfl) (fun hp _ hw => Ob_c tLinkB rfl) ?_; clear Z a; intro a Z
     refine gq_ob Z (p := (s0.ackBoot == l_2.boot)) (v := .pointer (some ⟨b_l, 0, none⟩)) (S' := [(37, .pointer (some ⟨b_l, 0, none⟩))]) rfl rfl rfl (wantB_t _) rfl (by decide) (fun hp hS => (hS.conv (t := 37) rfl (cond_t hp)).sub (ts := [37]) rfl) (fun hp _ hw => Ob_c tLinkB rfl) ?_; clear Z a; intro a Z
     refine gq_ob Z (p := (s0.ackBoot == l_2.boot)) (v := .pointer (some ⟨b_l, 1, none⟩)) (S' := [(38, .pointer (some ⟨b_l, 0, none⟩))]) rfl rfl rfl (wantB_t _) rfl (by decide) (fun hp hS => (hS.conv (t := 38) rfl (cond_t hp)).sub (ts := [38]) rfl) (fun hp _ hw => Ob_c tLinkB rfl) ?_; clear Z a; intro a Z
     refine gq_ob Z (p := (s0.ackBoot == l_2.boot)) (v := .int .i64 l_2.stream) (S' := [(39, .pointer (some ⟨b_l, 1, none⟩))]) rfl rfl rfl (wantB_t _) rfl (by decide) (fun hp hS => (hS.conv (t := 39) rfl (cond_t hp)).sub (ts := [39]) rfl) (fun hp _ hw => Ob_load tLinkB rfl rfl rfl (((H.blw hw).bx 0 rfl).cell 1 rfl)) ?_; clear Z a; intro a Z
     refine gq_ob Z (p := (s0.ackBoot == l_2.boot)) (v := .bool (s0.ackStream == l_2.stream)) (S' := [(36, .int .i64 s0.ackStream), (40, .int .i64 l_2.stream)]) rfl rfl rfl (wantB_t _) rfl (by decide) (fun hp hS => ((hS.conv (t := 36) rfl (cond_t hp)).conv (t := 40) rfl (cond_t hp)).sub (ts := [36, 40]) rfl) (fun hp _ hw => Ob_c tLinkB rfl) ?_; clear Z a; intro a Z
     refine q_ob Z (v := .bool ((s0.ackBoot == l_2.boot) && (s0.ackStream == l_2.stream))) rfl rfl (by decide) rfl (fun _ hw => Ob_pick rfl rfl rfl rfl (pick_and _ _)) ?_; clear Z a; intro a Z
     refine q_end Z [0, 3, 4, 5, 6, 42] rfl ?_; clear Z; intro w12 hb Z
     replace H : Hf I D w I3 w12 [BxC b_l 70 (cElink_Link l_2 v2), OwC NS 9 v2 l_2.q.l, BxC b1 58 (cESeg s0)] := H.blw hb
     clear hb
     refine p_then ?_
     refine f_cond Z rfl (fun hc6 => ?_) (fun hc6 => ?_)
     ·replace hF := ite_t hc6 hF
      obtain ⟨u, hx4, hF⟩ := bnd_in hF
      refine f_quietS 5 (by kernel_rfl) (by kernel_rfl) (by kernel_rfl) (by kernel_rfl) (by kernel_rfl) Z ?_; clear Z; intro Z
      refine q_runk tLinkB Z 4 rfl rfl ?_; clear Z a; intro a Z
      refine q_ob Z (v := .int .i64 s0.ackSeq) rfl rfl (by decide) rfl (fun _ hw => Ob_load tLinkB rfl rfl rfl (((H.blw hw).bx 2 rfl).cell 5 rfl)) ?_; clear Z a; intro a Z
      refine q_endS Z [0, 3, 4, 5, 6, 42, 43, 44, 45, 46, 47] rfl ?_; clear Z; intro w13 hb Z
      replace H : Hf I D w I3 w13 [BxC b_l 70 (cElink_Link l_2 v2), OwC NS 9 v2 l_2.q.l, BxC b1 58 (cESeg s0)] := H.blw hb
      clear hb
      replace H : Hf I D w I3 w13 [OElink_Link b_l l_2, BxC b1 58 (cESeg s0)] := H.shutX (v2) [(0, false), (0, false)] rfl
      refine h_call Z H (js := [(0, false)]) rfl (caps := #[]) fn_40_YLinkB rfl rfl rfl rfl rfl (by decide) rfl rfl (fun D1 hS => have hq := c_link_queue_string_upto hx4 hS; hq) ?_; clear Z a; intro vv a w14 D2 hr hF2 Z
      obtain ⟨rfl, I6, K⟩ := hr
      have H : Hf I D w I6 w14 [OElink_Link b_l u, BxC b1 58 (cESeg s0)] := hF2 K
      clear hF2 K
      refine s_end Z [0, 3, 4, 5, 6] rfl ?_; clear Z; intro Z
      refine p_then ?_
      exact ⟨u, Z.sub (ts := [0, 3, 4, 5, 6]) rfl, ⟨I6, (H.sub [(0, false), (0, false)] rfl).eq rfl⟩, hF⟩
     ·replace hF := ite_f hc6 hF
      refine wp_skip ?_
      refine p_then ?_
      replace H : Hf I D w I3 w12 [OElink_Link b_l l_2, BxC b1 58 (cESeg s0)] := H.shutX (v2) [(0, false), (0, false)] rfl
      exact ⟨l_2, Z.sub (ts := [0, 3, 4, 5, 6]) rfl, ⟨I3, (H.sub [(0, false), (0, false)] rfl).eq rfl⟩, hF⟩

end Go.Proofs.Ytghkhndlpfmpfaa
