/- The program's data; small functions. -/
import Derived.Test.YtghkhndlpfmpfaaYB
import Derived.Test.YtghkhndlpfmpfaaProg
namespace Go.Proofs.Ytghkhndlpfmpfaa
open Go.RowKit
structure ESeg where
 boot : Int
 stream : Int
 seq : Int
 ackBoot : Int
 ackStream : Int
 ackSeq : Int
 has : Bool
 body : ByteArray

instance : Inhabited ESeg := ⟨⟨0, 0, 0, 0, 0, 0, false, ByteArray.empty⟩⟩

def cESeg (x : ESeg) : List Value := [.int .i64 x.boot, .int .i64 x.stream, .int .i64 x.seq, .int .i64 x.ackBoot, .int .i64 x.ackStream, .int .i64 x.ackSeq, .bool x.has, .string x.body]

def NESeg : Rp ESeg := Rp.flat 8 (fun _ => True) (fun x => cESeg x) (fun _ => rfl) (fun x c hc => by simp only [cESeg, List.mem_cons, List.not_mem_nil, or_false] at hc; rcases hc with rfl | rfl | rfl | rfl | rfl | rfl | rfl | rfl <;> rfl)

structure Elink_queue_string where
 first : Int
 l : List ByteArray
 told : Int

instance : Inhabited Elink_queue_string := ⟨⟨0, [], 0⟩⟩

structure Elink_side where
 boot : Int
 stream : Int
 next : Int

instance : Inhabited Elink_side := ⟨⟨0, 0, 0⟩⟩

structure Elink_Link where
 boot : Int
 stream : Int
 q : Elink_queue_string
 peer : Elink_side
 owes : Bool

instance : Inhabited Elink_Link := ⟨⟨0, 0, default, default, false⟩⟩

def cElink_Link (x : Elink_Link) (v0 : Value) : List Value := [.int .i64 x.boot, .int .i64 x.stream, .int .i64 x.q.first, v0, .int .i64 x.q.told, .int .i64 x.peer.boot, .int .i64 x.peer.stream, .int .i64 x.peer.next, .bool x.owes]

def OElink_Link (b : Nat) (x : Elink_Link) : Ch := ExC fun (p : Value) => [BxC b 70 (cElink_Link x p), OwC NS 9 p x.q.l]

def tLink0L : TabL := ⟨[(59392, 0), (59393, 1), (59394, 2), (59395, 3), (59396, 4), (59397, 5), (67584, 0), (67585, 1), (69632, 0), (69633, 1), (69634, 2), (71680, 0), (71681, 1), (71682, 2), (71683, 5)], [9], [], [(28, (9, 1))], [(3, (1, false)), (9, (1, false)), (28, (1, false)), (58, (8, true)), (70, (9, true))]⟩

def tLink0 : Tab Try.prog := ⟨tLink0L, by kernel_rfl⟩

theorem fn_24_YLink0 : IsFn Try.prog 24 := ⟨_, Try.func24, by kernel_rfl, by kernel_rfl⟩

theorem E_28_YLink0 : Elem Try.prog 28 9 1 16 := ⟨Try.underlying28, by
 have h : (Try.prog.info? 9).map (fun i => (i.zero, i.size, i.bytes)) = some (some (.string ByteArray.empty), 1, 16) := by kernel_rfl
 obtain ⟨i, hi, h1⟩ := Option.map_eq_some_iff.1 h
 simp only [Prod.mk.injEq] at h1
 exact ⟨i, _, hi, h1.1, h1.2.1, h1.2.2, by rfl⟩, by decide⟩

def F_link_Link_none (l : Elink_Link) : Option Bool := some (l.boot == 0)

set_option maxHeartbeats 1000000 in
theorem c_link_Link_none {I D : Dm} {b_l : Nat} {l : Elink_Link} {w : World} {rr : Bool} (hF : F_link_Link_none l = some rr) (H : St I D w [OElink_Link b_l l]) :
  Calls Try.prog 24 #[.pointer (some ⟨b_l, 0, none⟩)] w (Ret fun vv w' => vv = .bool rr ∧ ∃ I', Hf I D w I' w' [OElink_Link b_l l]) := by
 replace H := H.hf
 unfold F_link_Link_none at hF
 refine f_enter 12 Try.func24 rfl rfl (Nat.le_of_ble_eq_true rfl) fun a Z => ?_
 replace Z := Z.sub (ts := [0]) rfl
 refine wp_seq (f_region Z ?_); clear Z; intro Z
 refine s_runk tLink0 Z 1 rfl rfl ?_; clear Z a; intro a Z
 refine s_end Z [0, 2] rfl ?_; clear Z; intro Z
 refine p_then (wp_seq (f_region Z ?_)); clear Z; intro Z
 refine s_runk tLink0 Z 1 rfl rfl ?_; clear Z a; intro a Z
 refine s_ob Z (v := .bool false) rfl rfl (by decide) rfl (Ob_pnil rfl rfl rfl Try.underlying45 (.inl ⟨rfl, rfl⟩)) ?_; clear Z a; intro a Z
 refine s_runk tLink0 Z 1 rfl rfl ?_; clear Z a; intro a Z
 refine g_if Z rfl rfl rfl (p := true) rfl rfl (by decide) (fun _ => ?_) (fun h => by cases h)
 refine s_runk tLink0 Z 1 rfl rfl ?_; clear Z a; intro a Z
 refine g_if Z rfl rfl rfl (p := true) rfl rfl (by decide) (fun _ => ?_) (fun h => by cases h)
 refine s_runk tLink0 Z 1 rfl rfl ?_; clear Z a; intro a Z
 refine g_if Z rfl rfl rfl (p := true) rfl rfl (by decide) (fun _ => ?_) (fun h => by cases h)
 refine s_runk tLink0 Z 1 rfl rfl ?_; clear Z a; intro a Z
 refine g_if Z rfl rfl rfl (p := true) rfl rfl (by decide) (fun _ => ?_) (fun h => by cases h)
 obtain ⟨v1, H⟩ := H.openX 0 rfl
 replace H : Hf I D w I w [BxC b_l 70 (cElink_Link l v1), OwC NS 9 v1 l.q.l] := H
 refine s_ob Z (v := .int .i64 l.boot) rfl rfl (by decide) rfl (Ob_load tLink0 rfl rfl rfl ((H.bx 0 rfl).cell 0 rfl)) ?_; clear Z a; intro a Z
 refine g_if Z rfl rfl rfl (p := true) rfl rfl (by decide) (fun _ => ?_) (fun h => by cases h)
 refine s_runk tLink0 Z 1 rfl rfl ?_; clear Z a; intro a Z
 refine s_ob Z (v := .bool (l.boot == 0)) rfl rfl (by decide) rfl (Ob_pick rfl rfl rfl rfl rfl) ?_; clear Z a; intro a Z
 refine s_runk tLink0 Z 1 rfl rfl ?_; clear Z a; intro a Z
 refine s_end Z [2] rfl ?_; clear Z; intro Z
 refine p_then (wp_ret ?_)
 replace H : Hf I D w I w [OElink_Link b_l l] := H.shutX (v1) [(0, false), (0, false)] rfl
 obtain rfl := some_in hF
 exact f_ret Z (run_results1 rfl Z rfl) ⟨rfl, I, (H.sub [(0, false)] rfl).eq rfl⟩

def F_link_Link_Waiting (l : Elink_Link) : Option Int := (F_link_Link_none l).bind fun n0 => (if (n0) = true then (some 0) else (some (l.q.l.length : Int)))

set_option maxHeartbeats 1000000 in
theorem c_link_Link_Waiting {I D : Dm} {b_l : Nat} {l : Elink_Link} {w : World} {rr : Int} (hF : F_link_Link_Waiting l = some rr) (H : St I D w [OElink_Link b_l l]) :
  Calls Try.prog 23 #[.pointer (some ⟨b_l, 0, none⟩)] w (Ret fun vv w' => vv = .int .i64 rr ∧ ∃ I', Hf I D w I' w' [OElink_Link b_l l]) := by
 replace H := H.hf
 unfold F_link_Link_Waiting at hF
 refine f_enter 11 Try.func23 rfl rfl (Nat.le_of_ble_eq_true rfl) fun a Z => ?_
 replace Z := Z.sub (ts := [0]) rfl
 refine wp_seq (f_region Z ?_); clear Z; intro Z
 refine s_runk tLink0 Z 1 rfl rfl ?_; clear Z a; intro a Z
 refine s_end Z [0, 2] rfl ?_; clear Z; intro Z
 refine p_then (wp_seq ?_)
 refine wp_seq ?_
 obtain ⟨n0, hx1, hF⟩ := bnd_in hF
 refine f_region Z ?_; clear Z; intro Z
 refine s_runk tLink0 Z 1 rfl rfl ?_; clear Z a; intro a Z
 refine h_call Z H (js := [(0, false)]) rfl (caps := #[]) fn_24_YLink0 rfl rfl rfl rfl rfl (by decide) rfl rfl (fun D1 hS => have hq := c_link_Link_none hx1 hS; hq) ?_; clear Z a; intro vv a w1 D2 hr hF2 Z
 obtain ⟨rfl, I1, K⟩ := hr
 have H : Hf I D w I1 w1 [OElink_Link b_l l] := hF2 K
 clear hF2 K
 refine s_end Z [0, 2, 4] rfl ?_; clear Z; intro Z
 refine p_then ?_
 refine f_cond Z rfl (fun hc1 => ?_) (fun hc1 => ?_)
 ·replace hF := ite_t hc1 hF
  refine wp_seq (f_region Z ?_); clear Z; intro Z
  refine s_runk tLink0 Z 1 rfl rfl ?_; clear Z a; intro a Z
  refine s_end Z [0, 2] rfl ?_; clear Z; intro Z
  refine p_then (wp_ret ?_)
  refine p_then_r ?_
  obtain rfl := some_in hF
  exact f_ret Z (run_results1 rfl Z rfl) ⟨rfl, I1, (H.sub [(0, false)] rfl).eq rfl⟩
 ·replace hF := ite_f hc1 hF
  refine wp_skip ?_
  refine p_then (wp_seq (f_region Z ?_)); clear Z; intro Z
  refine s_runk tLink0 Z 4 rfl rfl ?_; clear Z a; intro a Z
  obtain ⟨v1, H⟩ := H.openX 0 rfl
  replace H : Hf I D w I1 w1 [BxC b_l 70 (cElink_Link l v1), OwC NS 9 v1 l.q.l] := H
  refine s_ob Z (v := v1) rfl rfl (by decide) rfl (Ob_load tLink0 rfl rfl rfl ((H.bx 0 rfl).cell 3 rfl)) ?_; clear Z a; intro a Z
  refine s_ob Z (v := .int .i64 (l.q.l.length : Int)) rfl rfl (by decide) rfl (Ob_slen tLink0 rfl rfl rfl (H.owshape 1 rfl)) ?_; clear Z a; intro a Z
  refine s_runk tLink0 Z 1 rfl rfl ?_; clear Z a; intro a Z
  refine s_end Z [2] rfl ?_; clear Z; intro Z
  refine p_then (wp_ret ?_)
  replace H : Hf I D w I1 w1 [OElink_Link b_l l] := H.shutX (v1) [(0, false), (0, false)] rfl
  obtain rfl := some_in hF
  exact f_ret Z (run_results1 rfl Z rfl) ⟨rfl, I1, (H.sub [(0, false)] rfl).eq rfl⟩

def F_link_Link_head (l : Elink_Link) : Option ESeg := some ({ (default : ESeg) with boot := l.boot, stream := l.stream, seq := l.q.first, ackBoot := l.peer.boot, ackStream := l.peer.stream, ackSeq := l.peer.next } : ESeg)

set_option maxHeartbeats 1000000 in
theorem c_link_Link_head {I D : Dm} {b_l : Nat} {l : Elink_Link} {w : World} {rr : ESeg} (hF : F_link_Link_head l = some rr) (H : St I D w [OElink_Link b_l l]) :
  Calls Try.prog 26 #[.pointer (some ⟨b_l, 0, none⟩)] w (Ret fun vv w' => vv = .agg #[.int .i64 rr.boot, .int .i64 rr.stream, .int .i64 rr.seq, .int .i64 rr.ackBoot, .int .i64 rr.ackStream, .int .i64 rr.ackSeq, .bool rr.has, .string rr.body] ∧ ∃ I', Hf I D w I' w' [OElink_Link b_l l]) := by
 replace H := H.hf
 unfold F_link_Link_head at hF
 refine f_enter 32 Try.func26 rfl rfl (Nat.le_of_ble_eq_true rfl) fun a Z => ?_
 replace Z := Z.sub (ts := [0]) rfl
 refine wp_seq (f_region Z ?_); clear Z; intro Z
 refine h_alloc Z H (cl := [.int .i64 0, .int .i64 0, .int .i64 0, .int .i64 0, .int .i64 0, .int .i64 0, .bool false, .string ByteArray.empty]) (z := .agg #[.int .i64 0, .int .i64 0, .int .i64 0, .int .i64 0, .int .i64 0, .int .i64 0, .bool false, .string ByteArray.empty]) rfl rfl rfl (by decide) rfl (by kernel_rfl) rfl ?_; clear Z a H; intro a w1 b1 H Z
 refine s_end Z [0, 2] rfl ?_; clear Z; intro Z
 refine p_then (wp_seq ?_)
 obtain ⟨v1, H⟩ := H.openX 1 rfl
 replace H : Hf I D w I w1 [BxC b_l 70 (cElink_Link l v1), OwC NS 9 v1 l.q.l, BxC b1 58 [.int .i64 0, .int .i64 0, .int .i64 0, .int .i64 0, .int .i64 0, .int .i64 0, .bool false, .string ByteArray.empty]] := H
 refine f_quietS 28 (by kernel_rfl) (by kernel_rfl) (by kernel_rfl) (by kernel_rfl) (by kernel_rfl) Z ?_; clear Z; intro Z
 refine q_runk tLink0 Z 3 rfl rfl ?_; clear Z a; intro a Z
 refine q_ob Z (v := .int .i64 l.boot) rfl rfl (by decide) rfl (fun _ hw => Ob_load tLink0 rfl rfl rfl (((H.blw hw).bx 0 rfl).cell 0 rfl)) ?_; clear Z a; intro a Z
 refine q_runk tLink0 Z 3 rfl rfl ?_; clear Z a; intro a Z
 refine q_ob Z (v := .int .i64 l.stream) rfl rfl (by decide) rfl (fun _ hw => Ob_load tLink0 rfl rfl rfl (((H.blw hw).bx 0 rfl).cell 1 rfl)) ?_; clear Z a; intro a Z
 refine q_runk tLink0 Z 4 rfl rfl ?_; clear Z a; intro a Z
 refine q_ob Z (v := .int .i64 l.q.first) rfl rfl (by decide) rfl (fun _ hw => Ob_load tLink0 rfl rfl rfl (((H.blw hw).bx 0 rfl).cell 2 rfl)) ?_; clear Z a; intro a Z
 refine q_runk tLink0 Z 4 rfl rfl ?_; clear Z a; intro a Z
 refine q_ob Z (v := .int .i64 l.peer.boot) rfl rfl (by decide) rfl (fun _ hw => Ob_load tLink0 rfl rfl rfl (((H.blw hw).bx 0 rfl).cell 5 rfl)) ?_; clear Z a; intro a Z
 refine q_runk tLink0 Z 4 rfl rfl ?_; clear Z a; intro a Z
 refine q_ob Z (v := .int .i64 l.peer.stream) rfl rfl (by decide) rfl (fun _ hw => Ob_load tLink0 rfl rfl rfl (((H.blw hw).bx 0 rfl).cell 6 rfl)) ?_; clear Z a; intro a Z
 refine q_runk tLink0 Z 4 rfl rfl ?_; clear Z a; intro a Z
 refine q_ob Z (v := .int .i64 l.peer.next) rfl rfl (by decide) rfl (fun _ hw => Ob_load tLink0 rfl rfl rfl (((H.blw hw).bx 0 rfl).cell 7 rfl)) ?_; clear Z a; intro a Z
 refine q_endS Z [0, 2, 3, 4, 5, 6, 7, 8, 9, 10, 11, 12, 13, 14, 15, 16, 17, 18, 19, 20, 21, 22, 23, 24, 25, 26, 27, 28, 29, 30] rfl ?_; clear Z; intro w2 hb Z
 replace H : Hf I D w I w2 [BxC b_l 70 (cElink_Link l v1), OwC NS 9 v1 l.q.l, BxC b1 58 [.int .i64 0, .int .i64 0, .int .i64 0, .int .i64 0, .int .i64 0, .int .i64 0, .bool false, .string ByteArray.empty]] := H.blw hb
 clear hb
 refine s_ob Z (v := .agg #[.int .i64 l.boot, .int .i64 l.stream, .int .i64 l.q.first, .int .i64 l.peer.boot, .int .i64 l.peer.stream, .int .i64 l.peer.next, .bool false, .string ByteArray.empty]) rfl rfl (by decide) rfl (Ob_build (vs := [(0, .int .i64 l.boot), (1, .int .i64 l.stream), (2, .int .i64 l.q.first), (3, .int .i64 l.peer.boot), (4, .int .i64 l.peer.stream), (5, .int .i64 l.peer.next)]) rfl rfl (by go_simp <;> rfl)) ?_; clear Z a; intro a Z
 refine h_store tLink0 Z H 2 rfl rfl rfl rfl rfl rfl rfl rfl rfl (one_cons rfl (one_cons rfl (one_cons rfl (one_cons rfl (one_cons rfl (one_cons rfl (one_cons rfl (one_cons rfl one_nil)))))))) (Nat.le_of_ble_eq_true rfl) rfl ?_; clear H; intro w3 H
 dsimp only [List.eraseIdx] at H
 refine s_end Z [2] rfl ?_; clear Z; intro Z
 refine p_then (wp_ret ?_)
 replace H : Hf I D w I w3 [OElink_Link b_l l, BxC b1 58 [.int .i64 l.boot, .int .i64 l.stream, .int .i64 l.q.first, .int .i64 l.peer.boot, .int .i64 l.peer.stream, .int .i64 l.peer.next, .bool false, .string ByteArray.empty]] := H.shutX (v1) [(1, false), (1, false)] rfl
 obtain rfl := some_in hF
 exact f_ret Z (run_resultsC rfl Z rfl (run_loadVar_agg tLink0 rfl (H.bx 1 rfl).at)) ⟨rfl, I, (H.sub [(0, false)] rfl).eq rfl⟩

def F_link_New (boot : Int) : Option ((Option Elink_Link) × Int) := if ((decide (boot < 1)) || (decide (boot > 1073741824))) = true then (some (none, 1)) else (some (some ({ (default : Elink_Link) with boot := boot, stream := 1 } : Elink_Link), 0))

set_option maxHeartbeats 1000000 in
theorem c_link_New {I D : Dm} {boot : Int} {w : World} {rr : (Option Elink_Link) × Int} (hF : F_link_New boot = some rr) (H : St I D w []) :
  Calls Try.prog 11 #[.int .i64 boot] w (Ret fun vv w' => ∃ q1 : Value, vv = .tuple #[q1, .int .i64 rr.2] ∧ ∃ I', Hf I D w I' w' [PtC OElink_Link q1 rr.1]) := by
 replace H := H.hf
 unfold F_link_New at hF
 refine f_enter 13 Try.func11 rfl rfl (Nat.le_of_ble_eq_true rfl) fun a Z => ?_
 replace Z := Z.sub (ts := [0]) rfl
 refine wp_seq (f_region Z ?_); clear Z; intro Z
 refine s_runk tLink0 Z 2 rfl rfl ?_; clear Z a; intro a Z
 refine s_end Z [0, 2, 3] rfl ?_; clear Z; intro Z
 refine p_then (wp_seq ?_)
 refine wp_seq (f_region Z ?_); clear Z; intro Z
 refine s_runk tLink0 Z 3 rfl rfl ?_; clear Z a; intro a Z
 refine g_ob Z (p := (!(decide (boot < 1)))) (v := .int .i64 boot) (S' := [(0, .int .i64 boot)]) rfl rfl rfl (wantB_f _) rfl (by decide) (fun hp hS => hS.sub (ts := [0]) rfl) (fun hp => Ob_c tLink0 rfl) ?_; clear Z a; intro a Z
 refine g_ob Z (p := (!(decide (boot < 1)))) (v := .bool (decide (boot > 1073741824))) (S' := [(7, .int .i64 boot)]) rfl rfl rfl (wantB_f _) rfl (by decide) (fun hp hS => (hS.conv (t := 7) rfl (cond_t hp)).sub (ts := [7]) rfl) (fun hp => Ob_c tLink0 rfl) ?_; clear Z a; intro a Z
 refine s_ob Z (v := .bool ((decide (boot < 1)) || (decide (boot > 1073741824)))) rfl rfl (by decide) rfl (Ob_pick rfl rfl rfl rfl (pick_or _ _)) ?_; clear Z a; intro a Z
 refine s_end Z [0, 2, 3, 9] rfl ?_; clear Z; intro Z
 refine p_then ?_
 refine f_cond Z rfl (fun hc1 => ?_) (fun hc1 => ?_)
 ·replace hF := ite_t hc1 hF
  refine wp_seq (f_region Z ?_); clear Z; intro Z
  refine s_runk tLink0 Z 2 rfl rfl ?_; clear Z a; intro a Z
  refine s_end Z [0, 2, 3] rfl ?_; clear Z; intro Z
  refine p_then (wp_ret ?_)
  refine p_then_r ?_
  replace H : Hf I D w I w [PtC OElink_Link (.pointer none) none] := H.mkN OElink_Link
  obtain rfl := some_in hF
  exact f_ret Z (run_results2 rfl Z rfl rfl) ⟨.pointer none, rfl, I, (H.sub [(0, false)] rfl).eq rfl⟩
 ·replace hF := ite_f hc1 hF
  refine wp_skip ?_
  refine p_then (wp_seq (f_region Z ?_)); clear Z; intro Z
  refine s_runk tLink0 Z 1 rfl rfl ?_; clear Z a; intro a Z
  refine s_ob Z (v := .agg #[.int .i64 boot, .int .i64 1, .int .i64 0, .slice none 0 0, .int .i64 0, .int .i64 0, .int .i64 0, .int .i64 0, .bool false]) rfl rfl (by decide) rfl (Ob_build (vs := [(0, .int .i64 boot), (1, .int .i64 1)]) rfl rfl (by go_simp <;> rfl)) ?_; clear Z a; intro a Z
  refine h_boxv Z H (cl := [.int .i64 boot, .int .i64 1, .int .i64 0, .slice none 0 0, .int .i64 0, .int .i64 0, .int .i64 0, .int .i64 0, .bool false]) rfl rfl rfl (by decide) rfl rfl rfl ?_; clear Z a H; intro a w1 b1 H Z
  refine s_runk tLink0 Z 2 rfl rfl ?_; clear Z a; intro a Z
  refine s_end Z [2, 3] rfl ?_; clear Z; intro Z
  refine p_then (wp_ret ?_)
  replace H : Hf I D w I w1 [OwC NS 9 (.slice none 0 0) ([] : List ByteArray), BxC b1 70 [.int .i64 boot, .int .i64 1, .int .i64 0, .slice none 0 0, .int .i64 0, .int .i64 0, .int .i64 0, .int .i64 0, .bool false]] := H.nilow NS 9
  replace H : Hf I D w I w1 [OElink_Link b1 ({ (default : Elink_Link) with boot := boot, stream := 1 } : Elink_Link)] := H.shutX (.slice none 0 0) [(1, false), (0, false)] rfl
  replace H : Hf I D w I w1 [PtC OElink_Link (.pointer (some ⟨b1, 0, none⟩)) (some ({ (default : Elink_Link) with boot := boot, stream := 1 } : Elink_Link))] := H.mkS (K := OElink_Link) 0 rfl
  obtain rfl := some_in hF
  exact f_ret Z (run_results2 rfl Z rfl rfl) ⟨.pointer (some ⟨b1, 0, none⟩), rfl, I, (H.sub [(0, false)] rfl).eq rfl⟩

def F_link_may_l1 (s0 : ESeg) (rc : Int → Option Bool) (sg : Int) : Option Bool := match sg with | x => if (decide (x < 6)) = true then (chk ((0 : Int) ≤ x ∧ x < 6) (if ((decide (([s0.boot, s0.stream, s0.seq, s0.ackBoot, s0.ackStream, s0.ackSeq].getD (x).toNat 0) < 0)) || (decide (([s0.boot, s0.stream, s0.seq, s0.ackBoot, s0.ackStream, s0.ackSeq].getD (x).toNat 0) > 1073741824))) = true then (some false) else (chk (inI (x + 1)) (rc (x + 1))))) else (some (decide (s0.boot > 0)))

def F_link_may (s0 : ESeg) : Option Bool := iter (F_link_may_l1 s0) FU 0

set_option maxHeartbeats 1000000 in
theorem c_link_may {I D : Dm} {s0 : ESeg} {w : World} {rr : Bool} (hF : F_link_may s0 = some rr) (H : St I D w []) :
  Calls Try.prog 38 #[.agg #[.int .i64 s0.boot, .int .i64 s0.stream, .int .i64 s0.seq, .int .i64 s0.ackBoot, .int .i64 s0.ackStream, .int .i64 s0.ackSeq, .bool s0.has, .string s0.body]] w (Ret fun vv w' => vv = .bool rr ∧ ∃ I', Hf I D w I' w' []) := by
 replace H := H.hf
 unfold F_link_may at hF
 refine f_enter 31 Try.func38 rfl rfl (Nat.le_of_ble_eq_true rfl) fun a Z => ?_
 replace Z := Z.sub (ts := [0]) rfl
 refine wp_seq (f_region Z ?_); clear Z; intro Z
 refine h_boxv Z H (cl := [.int .i64 s0.boot, .int .i64 s0.stream, .int .i64 s0.seq, .int .i64 s0.ackBoot, .int .i64 s0.ackStream, .int .i64 s0.ackSeq, .bool s0.has, .string s0.body]) rfl rfl rfl (by decide) rfl rfl rfl ?_; clear Z a H; intro a w1 b1 H Z
 refine s_runk tLink0 Z 1 rfl rfl ?_; clear Z a; intro a Z
 refine s_end Z [1, 2] rfl ?_; clear Z; intro Z
 refine p_then (wp_seq ?_)
 refine wp_seq (f_region Z ?_); clear Z; intro Z
 refine s_runk tLink0 Z 1 rfl rfl ?_; clear Z a; intro a Z
 refine s_ob Z (v := .int .i64 s0.boot) rfl rfl (by decide) rfl (Ob_load tLink0 rfl rfl rfl ((H.bx 0 rfl).cell 0 rfl)) ?_; clear Z a; intro a Z
 refine s_runk tLink0 Z 1 rfl rfl ?_; clear Z a; intro a Z
 refine s_ob Z (v := .int .i64 s0.stream) rfl rfl (by decide) rfl (Ob_load tLink0 rfl rfl rfl ((H.bx 0 rfl).cell 1 rfl)) ?_; clear Z a; intro a Z
 refine s_runk tLink0 Z 1 rfl rfl ?_; clear Z a; intro a Z
 refine s_ob Z (v := .int .i64 s0.seq) rfl rfl (by decide) rfl (Ob_load tLink0 rfl rfl rfl ((H.bx 0 rfl).cell 2 rfl)) ?_; clear Z a; intro a Z
 refine s_runk tLink0 Z 1 rfl rfl ?_; clear Z a; intro a Z
 refine s_ob Z (v := .int .i64 s0.ackBoot) rfl rfl (by decide) rfl (Ob_load tLink0 rfl rfl rfl ((H.bx 0 rfl).cell 3 rfl)) ?_; clear Z a; intro a Z
 refine s_runk tLink0 Z 1 rfl rfl ?_; clear Z a; intro a Z
 refine s_ob Z (v := .int .i64 s0.ackStream) rfl rfl (by decide) rfl (Ob_load tLink0 rfl rfl rfl ((H.bx 0 rfl).cell 4 rfl)) ?_; clear Z a; intro a Z
 refine s_runk tLink0 Z 1 rfl rfl ?_; clear Z a; intro a Z
 refine s_ob Z (v := .int .i64 s0.ackSeq) rfl rfl (by decide) rfl (Ob_load tLink0 rfl rfl rfl ((H.bx 0 rfl).cell 5 rfl)) ?_; clear Z a; intro a Z
 refine s_ob Z (v := .agg #[.int .i64 s0.boot, .int .i64 s0.stream, .int .i64 s0.seq, .int .i64 s0.ackBoot, .int .i64 s0.ackStream, .int .i64 s0.ackSeq]) rfl rfl (by decide) rfl (Ob_build (vs := [(0, .int .i64 s0.boot), (1, .int .i64 s0.stream), (2, .int .i64 s0.seq), (3, .int .i64 s0.ackBoot), (4, .int .i64 s0.ackStream), (5, .int .i64 s0.ackSeq)]) rfl rfl (by go_simp <;> rfl)) ?_; clear Z a; intro a Z
 refine s_runk tLink0 Z 1 rfl rfl ?_; clear Z a; intro a Z
 refine s_end Z [1, 2, 17, 18] rfl ?_; clear Z; intro Z
 refine p_then (wp_block ?_)
 refine f_iter hF (fun sg a' w' => match sg with | x => Sl 31 [(1, .pointer (some ⟨b1, 0, none⟩)), (2, .bool false), (17, .agg #[.int .i64 s0.boot, .int .i64 s0.stream, .int .i64 s0.seq, .int .i64 s0.ackBoot, .int .i64 s0.ackStream, .int .i64 s0.ackSeq]), (18, .int .i64 x)] a' ∧ ∃ I2, Hf I D w I2 w' [BxC b1 58 (cESeg s0)]) ⟨Z.sub (ts := [1, 2, 17, 18]) rfl, ⟨I, (H.sub [(0, false)] rfl).eq rfl⟩⟩ ?_
 clear Z H hF a
 rintro rc x a w2 ⟨Z, I1, H⟩ hF
 unfold F_link_may_l1 at hF
 try dsimp only at hF
 refine wp_seq (f_region Z ?_); clear Z; intro Z
 refine s_runk tLink0 Z 1 rfl rfl ?_; clear Z a; intro a Z
 refine s_end Z [1, 2, 17, 18, 19] rfl ?_; clear Z; intro Z
 refine p_then (wp_seq ?_)
 refine f_cond Z rfl (fun hc1 => ?_) (fun hc1 => ?_)
 ·replace hF := ite_t hc1 hF
  refine wp_skip ?_
  refine p_then (wp_seq ?_)
  refine wp_block ?_
  refine wp_seq ?_
  obtain ⟨hg1, hF⟩ := chk_in hF
  refine f_region Z ?_; clear Z; intro Z
  refine s_ob Z (v := .int .i64 ([s0.boot, s0.stream, s0.seq, s0.ackBoot, s0.ackStream, s0.ackSeq].getD (x).toNat 0)) rfl rfl (by decide) rfl (Ob_aidx tLink0 (fun x => Value.int .i64 x) [s0.boot, s0.stream, s0.seq, s0.ackBoot, s0.ackStream, s0.ackSeq] (z := x) (d := 0) rfl rfl rfl Try.underlying101 rfl rfl rfl hg1) ?_; clear Z a; intro a Z
  refine s_runk tLink0 Z 1 rfl rfl ?_; clear Z a; intro a Z
  refine s_end Z [1, 2, 17, 18, 19, 20, 4] rfl ?_; clear Z; intro Z
  refine p_then (wp_seq (f_region Z ?_)); clear Z; intro Z
  refine s_runk tLink0 Z 3 rfl rfl ?_; clear Z a; intro a Z
  refine g_ob Z (p := (!(decide (([s0.boot, s0.stream, s0.seq, s0.ackBoot, s0.ackStream, s0.ackSeq].getD (x).toNat 0) < 0)))) (v := .int .i64 ([s0.boot, s0.stream, s0.seq, s0.ackBoot, s0.ackStream, s0.ackSeq].getD (x).toNat 0)) (S' := [(4, .int .i64 ([s0.boot, s0.stream, s0.seq, s0.ackBoot, s0.ackStream, s0.ackSeq].getD (x).toNat 0))]) rfl rfl rfl (wantB_f _) rfl (by decide) (fun hp hS => hS.sub (ts := [4]) rfl) (fun hp => Ob_c tLink0 rfl) ?_; clear Z a; intro a Z
  refine g_ob Z (p := (!(decide (([s0.boot, s0.stream, s0.seq, s0.ackBoot, s0.ackStream, s0.ackSeq].getD (x).toNat 0) < 0)))) (v := .bool (decide (([s0.boot, s0.stream, s0.seq, s0.ackBoot, s0.ackStream, s0.ackSeq].getD (x).toNat 0) > 1073741824))) (S' := [(24, .int .i64 ([s0.boot, s0.stream, s0.seq, s0.ackBoot, s0.ackStream, s0.ackSeq].getD (x).toNat 0))]) rfl rfl rfl (wantB_f _) rfl (by decide) (fun hp hS => (hS.conv (t := 24) rfl (cond_t hp)).sub (ts := [24]) rfl) (fun hp => Ob_c tLink0 rfl) ?_; clear Z a; intro a Z
  refine s_ob Z (v := .bool ((decide (([s0.boot, s0.stream, s0.seq, s0.ackBoot, s0.ackStream, s0.ackSeq].getD (x).toNat 0) < 0)) || (decide (([s0.boot, s0.stream, s0.seq, s0.ackBoot, s0.ackStream, s0.ackSeq].getD (x).toNat 0) > 1073741824)))) rfl rfl (by decide) rfl (Ob_pick rfl rfl rfl rfl (pick_or _ _)) ?_; clear Z a; intro a Z
  refine s_end Z [1, 2, 17, 18, 19, 20, 4, 21, 22, 23, 26] rfl ?_; clear Z; intro Z
  refine p_then ?_
  refine f_cond Z rfl (fun hc2 => ?_) (fun hc2 => ?_)
  ·replace hF := ite_t hc2 hF
   refine wp_seq (f_region Z ?_); clear Z; intro Z
   refine s_runk tLink0 Z 1 rfl rfl ?_; clear Z a; intro a Z
   refine s_end Z [1, 2, 17, 18, 19, 20, 4, 21, 22, 23, 26] rfl ?_; clear Z; intro Z
   refine p_then (wp_ret ?_)
   refine p_blk_r ?_
   refine p_then_r ?_
   refine p_then_r ?_
   refine p_blk_r ?_
   refine p_then_r ?_
   obtain rfl := some_in hF
   exact f_ret Z (run_results1 rfl Z rfl) ⟨rfl, I1, (H.sub [] rfl).eq rfl⟩
  ·replace hF := ite_f hc2 hF
   refine wp_skip ?_
   refine p_blk ?_
   refine p_then ?_
   obtain ⟨hg2, hF⟩ := chk_in hF
   refine f_region Z ?_; clear Z; intro Z
   refine s_ob Z (v := .int .i64 (x + 1)) rfl rfl (by decide) rfl (Ob_add rfl rfl rfl (wrI hg2)) ?_; clear Z a; intro a Z
   refine s_runk tLink0 Z 1 rfl rfl ?_; clear Z a; intro a Z
   refine s_end Z [1, 2, 17, 18, 19, 20, 4, 21, 22, 23, 26, 27] rfl ?_; clear Z; intro Z
   refine p_then ?_
   exact ⟨(x + 1), ⟨Z.sub (ts := [1, 2, 17, 18]) rfl, ⟨I1, (H.sub [(0, false)] rfl).eq rfl⟩⟩, hF⟩
 ·replace hF := ite_f hc1 hF
  refine wp_exit ?_
  refine p_then_x ?_
  refine p_then_x ?_
  refine f_exit_here ?_
  refine p_then (wp_seq (f_region Z ?_)); clear Z; intro Z
  refine s_runk tLink0 Z 1 rfl rfl ?_; clear Z a; intro a Z
  refine s_ob Z (v := .int .i64 s0.boot) rfl rfl (by decide) rfl (Ob_load tLink0 rfl rfl rfl ((H.bx 0 rfl).cell 0 rfl)) ?_; clear Z a; intro a Z
  refine s_runk tLink0 Z 2 rfl rfl ?_; clear Z a; intro a Z
  refine s_end Z [2] rfl ?_; clear Z; intro Z
  refine p_then (wp_ret ?_)
  obtain rfl := some_in hF
  exact f_ret Z (run_results1 rfl Z rfl) ⟨rfl, I1, (H.sub [] rfl).eq rfl⟩

def F_link_Link_Send (l : Elink_Link) (s0 : ByteArray) : Option (Int × Elink_Link) := (F_link_Link_none l).bind fun n0 => (if (n0) = true then (some (8, l)) else (if (decide ((s0.size : Int) > 65536)) = true then (some (3, l)) else (if (decide ((l.q.l.length : Int) ≥ 8)) = true then (some (6, l)) else (chk (((l.q.l.length + [s0].length : Nat) : Int) * 16 ≤ 140737488355328) (some (0, ({ l with q := ({ l.q with l := l.q.l ++ [s0] } : Elink_queue_string) } : Elink_Link)))))))

set_option maxHeartbeats 1000000 in
theorem c_link_Link_Send {I D : Dm} {b_l : Nat} {l : Elink_Link} {s0 : ByteArray} {w : World} {rr : Int × Elink_Link} (hF : F_link_Link_Send l s0 = some rr) (H : St I D w [OElink_Link b_l l]) :
  Calls Try.prog 14 #[.pointer (some ⟨b_l, 0, none⟩), .string s0] w (Ret fun vv w' => vv = .int .i64 rr.1 ∧ ∃ I', Hf I D w I' w' [OElink_Link b_l rr.2]) := by
 replace H := H.hf
 unfold F_link_Link_Send at hF
 refine f_enter 32 Try.func14 rfl rfl (Nat.le_of_ble_eq_true rfl) fun a Z => ?_
 replace Z := Z.sub (ts := [0, 1]) rfl
 refine wp_seq (f_region Z ?_); clear Z; intro Z
 refine s_runk tLink0 Z 1 rfl rfl ?_; clear Z a; intro a Z
 refine s_end Z [0, 1, 4] rfl ?_; clear Z; intro Z
 refine p_then (wp_seq ?_)
 refine wp_block ?_
 refine wp_seq ?_
 obtain ⟨n0, hx1, hF⟩ := bnd_in hF
 refine f_region Z ?_; clear Z; intro Z
 refine s_runk tLink0 Z 1 rfl rfl ?_; clear Z a; intro a Z
 refine h_call Z H (js := [(0, false)]) rfl (caps := #[]) fn_24_YLink0 rfl rfl rfl rfl rfl (by decide) rfl rfl (fun D1 hS => have hq := c_link_Link_none hx1 hS; hq) ?_; clear Z a; intro vv a w1 D2 hr hF2 Z
 obtain ⟨rfl, I1, K⟩ := hr
 have H : Hf I D w I1 w1 [OElink_Link b_l l] := hF2 K
 clear hF2 K
 refine s_runk tLink0 Z 1 rfl rfl ?_; clear Z a; intro a Z
 refine s_end Z [0, 1, 4, 5] rfl ?_; clear Z; intro Z
 refine p_then ?_
 refine f_cond Z rfl (fun hc1 => ?_) (fun hc1 => ?_)
 ·replace hF := ite_t hc1 hF
  refine wp_seq (f_region Z ?_); clear Z; intro Z
  refine s_runk tLink0 Z 1 rfl rfl ?_; clear Z a; intro a Z
  refine s_end Z [0, 1, 4] rfl ?_; clear Z; intro Z
  refine p_then (wp_ret ?_)
  refine p_blk_r ?_
  refine p_then_r ?_
  obtain rfl := some_in hF
  exact f_ret Z (run_results1 rfl Z rfl) ⟨rfl, I1, (H.sub [(0, false)] rfl).eq rfl⟩
 ·replace hF := ite_f hc1 hF
  refine wp_seq (f_region Z ?_); clear Z; intro Z
  refine s_runk tLink0 Z 4 rfl rfl ?_; clear Z a; intro a Z
  refine s_end Z [0, 1, 4, 8] rfl ?_; clear Z; intro Z
  refine p_then ?_
  refine f_cond Z rfl (fun hc2 => ?_) (fun hc2 => ?_)
  ·replace hF := ite_t hc2 hF
   refine wp_seq (f_region Z ?_); clear Z; intro Z
   refine s_runk tLink0 Z 1 rfl rfl ?_; clear Z a; intro a Z
   refine s_end Z [0, 1, 4] rfl ?_; clear Z; intro Z
   refine p_then (wp_ret ?_)
   refine p_blk_r ?_
   refine p_then_r ?_
   obtain rfl := some_in hF
   exact f_ret Z (run_results1 rfl Z rfl) ⟨rfl, I1, (H.sub [(0, false)] rfl).eq rfl⟩
  ·replace hF := ite_f hc2 hF
   refine wp_seq (f_region Z ?_); clear Z; intro Z
   refine s_runk tLink0 Z 4 rfl rfl ?_; clear Z a; intro a Z
   obtain ⟨v1, H⟩ := H.openX 0 rfl
   replace H : Hf I D w I1 w1 [BxC b_l 70 (cElink_Link l v1), OwC NS 9 v1 l.q.l] := H
   refine s_ob Z (v := v1) rfl rfl (by decide) rfl (Ob_load tLink0 rfl rfl rfl ((H.bx 0 rfl).cell 3 rfl)) ?_; clear Z a; intro a Z
   refine s_ob Z (v := .int .i64 (l.q.l.length : Int)) rfl rfl (by decide) rfl (Ob_slen tLink0 rfl rfl rfl (H.owshape 1 rfl)) ?_; clear Z a; intro a Z
   refine s_runk tLink0 Z 2 rfl rfl ?_; clear Z a; intro a Z
   refine s_end Z [0, 1, 4, 12] rfl ?_; clear Z; intro Z
   refine p_then ?_
   refine f_cond Z rfl (fun hc3 => ?_) (fun hc3 => ?_)
   ·replace hF := ite_t hc3 hF
    refine wp_seq (f_region Z ?_); clear Z; intro Z
    refine s_runk tLink0 Z 1 rfl rfl ?_; clear Z a; intro a Z
    refine s_end Z [0, 1, 4] rfl ?_; clear Z; intro Z
    refine p_then (wp_ret ?_)
    refine p_blk_r ?_
    refine p_then_r ?_
    replace H : Hf I D w I1 w1 [OElink_Link b_l l] := H.shutX (v1) [(0, false), (0, false)] rfl
    obtain rfl := some_in hF
    exact f_ret Z (run_results1 rfl Z rfl) ⟨rfl, I1, (H.sub [(0, false)] rfl).eq rfl⟩
   ·replace hF := ite_f hc3 hF
    refine wp_skip ?_
    refine p_blk ?_
    refine p_then (wp_seq ?_)
    obtain ⟨hg1, hF⟩ := chk_in hF
    refine f_region Z ?_; clear Z; intro Z
    refine s_runk tLink0 Z 5 rfl rfl ?_; clear Z a; intro a Z
    refine s_ob Z (v := v1) rfl rfl (by decide) rfl (Ob_load tLink0 rfl rfl rfl ((H.bx 0 rfl).cell 3 rfl)) ?_; clear Z a; intro a Z
    refine s_runk tLink0 Z 1 rfl rfl ?_; clear Z a; intro a Z
    refine h_bslice Z H (vs := [(0, .string s0)]) (cl := [.string s0]) (e := 9) rfl rfl rfl (by decide) rfl rfl (fun w => run_bslice (z := .string ByteArray.empty) (m := 1) Try.underlying28 (by kernel_rfl) rfl rfl (by decide) (by simp [Instr.fill, Value.cells]) w) ?_; clear Z a H; intro a w2 b1 H Z
    refine h_appO Z H 2 E_28_YLink0 [s0] rfl rfl rfl rfl rfl (by decide) rfl rfl rfl (slRep2.box1 (H.bx 0 rfl) ⟨rfl, trivial⟩) hg1 (by decide) ?_; clear Z a H; intro v2 a w3 H Z
    dsimp only [List.eraseIdx] at H
    replace H : Hf I D w I1 w3 [OwC NS 9 v2 (l.q.l ++ [s0]), BxC b_l 70 (cElink_Link l v1)] := H.sub [(0, false), (1, false)] rfl
    refine s_runk tLink0 Z 3 rfl rfl ?_; clear Z a; intro a Z
    refine h_store tLink0 Z H 1 rfl rfl rfl rfl rfl rfl (slS.cells (H.owshape 0 rfl)) rfl rfl (one_cons (slS.one (H.owshape 0 rfl)) one_nil) (Nat.le_of_ble_eq_true rfl) rfl ?_; clear H; intro w4 H
    dsimp only [List.eraseIdx] at H
    refine s_end Z [4] rfl ?_; clear Z; intro Z
    refine p_then (wp_seq (f_region Z ?_)); clear Z; intro Z
    refine s_runk tLink0 Z 1 rfl rfl ?_; clear Z a; intro a Z
    refine s_end Z [4] rfl ?_; clear Z; intro Z
    refine p_then (wp_ret ?_)
    replace H : Hf I D w I1 w4 [OElink_Link b_l ({ l with q := ({ l.q with l := l.q.l ++ [s0] } : Elink_queue_string) } : Elink_Link)] := H.shutX (v2) [(0, false), (0, false)] rfl
    obtain rfl := some_in hF
    exact f_ret Z (run_results1 rfl Z rfl) ⟨rfl, I1, (H.sub [(0, false)] rfl).eq rfl⟩

def F_ref05_Same_l1 (a0 : List ByteArray) (b : List ByteArray) (rc : Int → Option Bool) (sg : Int) : Option Bool := match sg with | i => if ((decide (i < (a0.length : Int))) && (decide (i < (b.length : Int)))) = true then (chk ((0 : Int) ≤ i ∧ i < (a0.length : Int)) (chk ((0 : Int) ≤ i ∧ i < (b.length : Int)) (if (!seqB (a0.getD (i).toNat default) (b.getD (i).toNat default)) = true then (some false) else (chk (inI (i + 1)) (rc (i + 1)))))) else (some true)

def F_ref05_Same (a0 : List ByteArray) (b : List ByteArray) : Option Bool := if ((a0.length : Int) != (b.length : Int)) = true then (some false) else (iter (F_ref05_Same_l1 a0 b) FU 0)

set_option maxHeartbeats 1000000 in
theorem c_ref05_Same {I D : Dm} {a0 : List ByteArray} {v1_a0 : Value} {b : List ByteArray} {v2_b : Value} {w : World} {rr : Bool} (hF : F_ref05_Same a0 b = some rr) (H : St I D w [SlC NS v1_a0 a0, SlC NS v2_b b]) :
  Calls Try.prog 8 #[v1_a0, v2_b] w (Ret fun vv w' => vv = .bool rr ∧ ∃ I', Hf I D w I' w' []) := by
 replace H := H.hf
 unfold F_ref05_Same at hF
 refine f_enter 32 Try.func8 rfl rfl (Nat.le_of_ble_eq_true rfl) fun a Z => ?_
 replace Z := Z.sub (ts := [0, 1]) rfl
 refine wp_seq (f_region Z ?_); clear Z; intro Z
 refine s_runk tLink0 Z 1 rfl rfl ?_; clear Z a; intro a Z
 refine s_end Z [0, 1, 4] rfl ?_; clear Z; intro Z
 refine p_then (wp_seq ?_)
 refine wp_seq (f_region Z ?_); clear Z; intro Z
 refine s_runk tLink0 Z 1 rfl rfl ?_; clear Z a; intro a Z
 refine s_ob Z (v := .int .i64 (a0.length : Int)) rfl rfl (by decide) rfl (Ob_slen tLink0 rfl rfl rfl (H.slshape 0 rfl)) ?_; clear Z a; intro a Z
 refine s_runk tLink0 Z 1 rfl rfl ?_; clear Z a; intro a Z
 refine s_ob Z (v := .int .i64 (b.length : Int)) rfl rfl (by decide) rfl (Ob_slen tLink0 rfl rfl rfl (H.slshape 1 rfl)) ?_; clear Z a; intro a Z
 refine s_runk tLink0 Z 1 rfl rfl ?_; clear Z a; intro a Z
 refine s_end Z [0, 1, 4, 10] rfl ?_; clear Z; intro Z
 refine p_then ?_
 refine f_cond Z rfl (fun hc1 => ?_) (fun hc1 => ?_)
 ·replace hF := ite_t hc1 hF
  refine wp_seq (f_region Z ?_); clear Z; intro Z
  refine s_runk tLink0 Z 1 rfl rfl ?_; clear Z a; intro a Z
  refine s_end Z [0, 1, 4] rfl ?_; clear Z; intro Z
  refine p_then (wp_ret ?_)
  refine p_then_r ?_
  obtain rfl := some_in hF
  exact f_ret Z (run_results1 rfl Z rfl) ⟨rfl, I, (H.sub [] rfl).eq rfl⟩
 ·replace hF := ite_f hc1 hF
  refine wp_skip ?_
  refine p_then (wp_seq ?_)
  refine wp_seq (f_region Z ?_); clear Z; intro Z
  refine s_runk tLink0 Z 1 rfl rfl ?_; clear Z a; intro a Z
  refine s_end Z [0, 1, 4, 5] rfl ?_; clear Z; intro Z
  refine p_then (wp_block ?_)
  refine f_iter hF (fun sg a' w' => match sg with | i => Sl 32 [(0, v1_a0), (1, v2_b), (4, .bool false), (5, .int .i64 i)] a' ∧ ∃ I2, Hf I D w I2 w' [SlC NS v1_a0 a0, SlC NS v2_b b]) ⟨Z.sub (ts := [0, 1, 4, 5]) rfl, ⟨I, (H.sub [(0, true), (1, true)] rfl).eq rfl⟩⟩ ?_
  clear Z H hF a
  rintro rc i a w1 ⟨Z, I1, H⟩ hF
  unfold F_ref05_Same_l1 at hF
  try dsimp only at hF
  refine wp_seq ?_
  refine wp_seq (f_region Z ?_); clear Z; intro Z
  refine s_runk tLink0 Z 2 rfl rfl ?_; clear Z a; intro a Z
  refine s_ob Z (v := .int .i64 (a0.length : Int)) rfl rfl (by decide) rfl (Ob_slen tLink0 rfl rfl rfl (H.slshape 0 rfl)) ?_; clear Z a; intro a Z
  refine s_runk tLink0 Z 2 rfl rfl ?_; clear Z a; intro a Z
  refine g_ob Z (p := (decide (i < (a0.length : Int)))) (v := .int .i64 i) (S' := [(5, .int .i64 i)]) rfl rfl rfl (wantB_t _) rfl (by decide) (fun hp hS => hS.sub (ts := [5]) rfl) (fun hp => Ob_c tLink0 rfl) ?_; clear Z a; intro a Z
  refine g_ob Z (p := (decide (i < (a0.length : Int)))) (v := v2_b) (S' := [(1, v2_b)]) rfl rfl rfl (wantB_t _) rfl (by decide) (fun hp hS => hS.sub (ts := [1]) rfl) (fun hp => Ob_c tLink0 rfl) ?_; clear Z a; intro a Z
  refine g_ob Z (p := (decide (i < (a0.length : Int)))) (v := .int .i64 (b.length : Int)) (S' := [(17, v2_b)]) rfl rfl rfl (wantB_t _) rfl (by decide) (fun hp hS => (hS.conv (t := 17) rfl (cond_t hp)).sub (ts := [17]) rfl) (fun hp => Ob_slen tLink0 rfl rfl rfl (H.slshape 1 rfl)) ?_; clear Z a; intro a Z
  refine g_ob Z (p := (decide (i < (a0.length : Int)))) (v := .bool (decide (i < (b.length : Int)))) (S' := [(16, .int .i64 i), (18, .int .i64 (b.length : Int))]) rfl rfl rfl (wantB_t _) rfl (by decide) (fun hp hS => ((hS.conv (t := 16) rfl (cond_t hp)).conv (t := 18) rfl (cond_t hp)).sub (ts := [16, 18]) rfl) (fun hp => Ob_c tLink0 rfl) ?_; clear Z a; intro a Z
  refine s_ob Z (v := .bool ((decide (i < (a0.length : Int))) && (decide (i < (b.length : Int))))) rfl rfl (by decide) rfl (Ob_pick rfl rfl rfl rfl (pick_and _ _)) ?_; clear Z a; intro a Z
  refine s_end Z [0, 1, 4, 5, 11, 12, 13, 14, 15, 20] rfl ?_; clear Z; intro Z
  refine p_then ?_
  refine f_cond Z rfl (fun hc2 => ?_) (fun hc2 => ?_)
  ·replace hF := ite_t hc2 hF
   refine wp_skip ?_
   refine p_then (wp_seq ?_)
   refine wp_block ?_
   refine wp_seq ?_
   obtain ⟨hg1, hF⟩ := chk_in hF
   obtain ⟨hg2, hF⟩ := chk_in hF
   refine f_quietd (by kernel_rfl) (by kernel_rfl) Z ?_; clear Z; intro Z
   refine q_runk tLink0 Z 2 rfl rfl ?_; clear Z a; intro a Z
   refine q_ob Z (v := .pointer (some ⟨blkOf v1_a0, oofOf v1_a0 + (i).toNat * 1, none⟩)) rfl rfl (by decide) rfl (fun _ hw => Ob_sidx tLink0 rfl rfl rfl rfl (slPl ((H.blw hw).sl 0 rfl) hg1) hg1) ?_; clear Z a; intro a Z
   refine q_ob Z (v := .string (a0.getD (i).toNat default)) rfl rfl (by decide) rfl (fun _ hw => Ob_load tLink0 rfl rfl rfl ((slFl ((H.blw hw).sl 0 rfl) hg1) 0 _ rfl)) ?_; clear Z a; intro a Z
   refine q_runk tLink0 Z 2 rfl rfl ?_; clear Z a; intro a Z
   refine q_ob Z (v := .pointer (some ⟨blkOf v2_b, oofOf v2_b + (i).toNat * 1, none⟩)) rfl rfl (by decide) rfl (fun _ hw => Ob_sidx tLink0 rfl rfl rfl rfl (slPl ((H.blw hw).sl 1 rfl) hg2) hg2) ?_; clear Z a; intro a Z
   refine q_ob Z (v := .string (b.getD (i).toNat default)) rfl rfl (by decide) rfl (fun _ hw => Ob_load tLink0 rfl rfl rfl ((slFl ((H.blw hw).sl 1 rfl) hg2) 0 _ rfl)) ?_; clear Z a; intro a Z
   refine q_runk tLink0 Z 1 rfl rfl ?_; clear Z a; intro a Z
   refine q_end Z [0, 1, 4, 5, 11, 12, 13, 14, 15, 20, 23, 24, 25, 26, 27, 28, 29, 30, 31] rfl ?_; clear Z; intro w2 hb Z
   replace H : Hf I D w I1 w2 [SlC NS v1_a0 a0, SlC NS v2_b b] := H.blw hb
   clear hb
   refine p_then ?_
   refine f_cond Z rfl (fun hc3 => ?_) (fun hc3 => ?_)
   ·replace hF := ite_t hc3 hF
    refine wp_seq (f_region Z ?_); clear Z; intro Z
    refine s_runk tLink0 Z 1 rfl rfl ?_; clear Z a; intro a Z
    refine s_end Z [0, 1, 4, 5, 11, 12, 13, 14, 15, 20, 23, 24, 25, 26, 27, 28, 29, 30, 31] rfl ?_; clear Z; intro Z
    refine p_then (wp_ret ?_)
    refine p_blk_r ?_
    refine p_then_r ?_
    refine p_then_r ?_
    refine p_blk_r ?_
    refine p_then_r ?_
    obtain rfl := some_in hF
    exact f_ret Z (run_results1 rfl Z rfl) ⟨rfl, I1, (H.sub [] rfl).eq rfl⟩
   ·replace hF := ite_f hc3 hF
    refine wp_skip ?_
    refine p_blk ?_
    refine p_then ?_
    obtain ⟨hg3, hF⟩ := chk_in hF
    refine f_region Z ?_; clear Z; intro Z
    refine s_runk tLink0 Z 1 rfl rfl ?_; clear Z a; intro a Z
    refine s_ob Z (v := .int .i64 (i + 1)) rfl rfl (by decide) rfl (Ob_add rfl rfl rfl (wrI hg3)) ?_; clear Z a; intro a Z
    refine s_runk tLink0 Z 1 rfl rfl ?_; clear Z a; intro a Z
    refine s_end Z [0, 1, 4, 5, 11, 12, 13, 14, 15, 20, 23, 24, 25, 26, 27, 28, 29, 30, 31, 21, 22] rfl ?_; clear Z; intro Z
    refine p_then ?_
    exact ⟨(i + 1), ⟨Z.sub (ts := [0, 1, 4, 5]) rfl, ⟨I1, (H.sub [(0, true), (1, true)] rfl).eq rfl⟩⟩, hF⟩
  ·replace hF := ite_f hc2 hF
   refine wp_exit ?_
   refine p_then_x ?_
   refine p_then_x ?_
   refine f_exit_here ?_
   refine p_then (wp_seq (f_region Z ?_)); clear Z; intro Z
   refine s_runk tLink0 Z 1 rfl rfl ?_; clear Z a; intro a Z
   refine s_end Z [4] rfl ?_; clear Z; intro Z
   refine p_then (wp_ret ?_)
   obtain rfl := some_in hF
   exact f_ret Z (run_results1 rfl Z rfl) ⟨rfl, I1, (H.sub [] rfl).eq rfl⟩

end Go.Proofs.Ytghkhndlpfmpfaa
