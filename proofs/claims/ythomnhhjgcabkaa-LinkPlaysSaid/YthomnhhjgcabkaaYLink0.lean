/- The program's data; small functions. -/
import Derived.Test.YthomnhhjgcabkaaYB
import Derived.Test.YthomnhhjgcabkaaProg
namespace Go.Proofs.Ythomnhhjgcabkaa
open Go.RowKit
structure ESeg where
 boot : Int
 stream : Int
 seq : Int
 ackBoot : Int
 ackStream : Int
 ackSeq : Int
 has : Bool
 body : ByteArray

instance : Inhabited ESeg := ⟨⟨0, 0, 0, 0, 0, 0, false, ByteArray.empty⟩⟩

def eqESeg (x y : ESeg) : Bool := (x.boot == y.boot) && (x.stream == y.stream) && (x.seq == y.seq) && (x.ackBoot == y.ackBoot) && (x.ackStream == y.ackStream) && (x.ackSeq == y.ackSeq) && (x.has == y.has) && (seqB x.body y.body)

theorem eqESeg_iff {x y : ESeg} : eqESeg x y = true ↔ x = y := by cases x; cases y; simp [eqESeg, seqB_iff, and_assoc]

def cESeg (x : ESeg) : List Value := [.int .i64 x.boot, .int .i64 x.stream, .int .i64 x.seq, .int .i64 x.ackBoot, .int .i64 x.ackStream, .int .i64 x.ackSeq, .bool x.has, .string x.body]

def NESeg : Rp ESeg := Rp.flat 8 (fun _ => True) (fun x => cESeg x) (fun _ => rfl) (fun x c hc => by simp only [cESeg, List.mem_cons, List.not_mem_nil, or_false] at hc; rcases hc with rfl | rfl | rfl | rfl | rfl | rfl | rfl | rfl <;> rfl)

structure Elaw22_Act where
 k : Int
 s : ByteArray
 again : Bool
 seg : ESeg

instance : Inhabited Elaw22_Act := ⟨⟨0, ByteArray.empty, false, default⟩⟩

def cElaw22_Act (x : Elaw22_Act) : List Value := [.int .i64 x.k, .string x.s, .bool x.again, .int .i64 x.seg.boot, .int .i64 x.seg.stream, .int .i64 x.seg.seq, .int .i64 x.seg.ackBoot, .int .i64 x.seg.ackStream, .int .i64 x.seg.ackSeq, .bool x.seg.has, .string x.seg.body]

def NElaw22_Act : Rp Elaw22_Act := Rp.flat 11 (fun _ => True) (fun x => cElaw22_Act x) (fun _ => rfl) (fun x c hc => by simp only [cElaw22_Act, List.mem_cons, List.not_mem_nil, or_false] at hc; rcases hc with rfl | rfl | rfl | rfl | rfl | rfl | rfl | rfl | rfl | rfl | rfl <;> rfl)

structure Elaw22_Step where
 k : Int
 n : Int
 again : Bool

instance : Inhabited Elaw22_Step := ⟨⟨0, 0, false⟩⟩

structure Elink_queue_string where
 first : Int
 l : List ByteArray
 told : Int

instance : Inhabited Elink_queue_string := ⟨⟨0, [], 0⟩⟩

structure Elink_side where
 boot : Int
 stream : Int
 next : Int

instance : Inhabited Elink_side := ⟨⟨0, 0, 0⟩⟩

structure Elink_Link where
 boot : Int
 stream : Int
 q : Elink_queue_string
 peer : Elink_side
 owes : Bool

instance : Inhabited Elink_Link := ⟨⟨0, 0, default, default, false⟩⟩

def cElink_Link (x : Elink_Link) (v0 : Value) : List Value := [.int .i64 x.boot, .int .i64 x.stream, .int .i64 x.q.first, v0, .int .i64 x.q.told, .int .i64 x.peer.boot, .int .i64 x.peer.stream, .int .i64 x.peer.next, .bool x.owes]

def OElink_Link (b : Nat) (x : Elink_Link) : Ch := ExC fun (p : Value) => [BxC b 69 (cElink_Link x p), OwC NS 9 p x.q.l]

structure Eref22_Link where
 boot : Int
 stream : Int
 first : Int
 queue : List ByteArray
 told : Int
 peer : Int
 in0 : Int
 next : Int
 owes : Bool

instance : Inhabited Eref22_Link := ⟨⟨0, 0, 0, [], 0, 0, 0, 0, false⟩⟩

def cEref22_Link (x : Eref22_Link) (v0 : Value) : List Value := [.int .i64 x.boot, .int .i64 x.stream, .int .i64 x.first, v0, .int .i64 x.told, .int .i64 x.peer, .int .i64 x.in0, .int .i64 x.next, .bool x.owes]

def OEref22_Link (b : Nat) (x : Eref22_Link) : Ch := ExC fun (p : Value) => [BxC b 47 (cEref22_Link x p), SlC NS p x.queue]

def tLink0L : TabL := ⟨[(31744, 0), (31745, 1), (31746, 2), (31747, 3), (31748, 4), (31749, 5), (31750, 6), (31751, 7), (48128, 0), (48129, 1), (48130, 2), (48131, 3), (48132, 4), (48133, 5), (48134, 6), (48135, 7), (48136, 8), (66560, 0), (66561, 1), (68608, 0), (68609, 1), (68610, 2), (70656, 0), (70657, 1), (70658, 2), (70659, 5)], [9], [], [(37, (31, 8)), (39, (9, 1)), (58, (3, 1))], [(3, (1, false)), (4, (1, false)), (9, (1, false)), (31, (8, true)), (39, (1, false)), (47, (9, true)), (69, (9, true))]⟩

def tLink0 : Tab Try.prog := ⟨tLink0L, by kernel_rfl⟩

theorem fn_29_YLink0 : IsFn Try.prog 29 := ⟨_, Try.func29, by kernel_rfl, by kernel_rfl⟩

theorem fn_35_YLink0 : IsFn Try.prog 35 := ⟨_, Try.func35, by kernel_rfl, by kernel_rfl⟩

theorem E_37_YLink0 : Elem Try.prog 37 31 8 72 := ⟨Try.underlying37, by
 have h : (Try.prog.info? 31).map (fun i => (i.zero, i.size, i.bytes)) = some (some (.agg #[.int .i64 0, .int .i64 0, .int .i64 0, .int .i64 0, .int .i64 0, .int .i64 0, .bool false, .string ByteArray.empty]), 8, 72) := by kernel_rfl
 obtain ⟨i, hi, h1⟩ := Option.map_eq_some_iff.1 h
 simp only [Prod.mk.injEq] at h1
 exact ⟨i, _, hi, h1.1, h1.2.1, h1.2.2, by rfl⟩, by decide⟩

theorem E_39_YLink0 : Elem Try.prog 39 9 1 16 := ⟨Try.underlying39, by
 have h : (Try.prog.info? 9).map (fun i => (i.zero, i.size, i.bytes)) = some (some (.string ByteArray.empty), 1, 16) := by kernel_rfl
 obtain ⟨i, hi, h1⟩ := Option.map_eq_some_iff.1 h
 simp only [Prod.mk.injEq] at h1
 exact ⟨i, _, hi, h1.1, h1.2.1, h1.2.2, by rfl⟩, by decide⟩

theorem neq_ESeg (x y : ESeg) (w : World) : (binOp .neq 31 (.agg (cESeg x).toArray) (.agg (cESeg y).toArray)).run Try.prog w = .ok (.bool (!eqESeg x y)) w := by
 have h1 := run_equalIn_struct (P := Try.prog) w 9999 31 (cESeg x).toArray (cESeg y).toArray (by rw [fieldsOf_of Try.underlying31]; exact Try.underlying31) (by kernel_rfl)
 rw [run_neq_struct, h1, fieldsOf_of Try.underlying31]
 simp [Op.eqFields, part, isAgg, cESeg, beqS, eqESeg, seqB_eq, run_underlying Try.underlying3, run_equalIn_int w 9998 3 _ _ _ _ Try.underlying3, run_underlying Try.underlying4, run_equalIn_bool' w 9998 4 _ _ Try.underlying4, run_underlying Try.underlying9, run_equalIn_string w 9998 9 _ _ Try.underlying9]
 try ((repeat' split) <;> simp_all)

theorem eqg_ESeg (op : BinOp) (x y : Operand) (a b : Array Value) (w : World) : (eqGuard op 31 x y (.agg a) (.agg b)).run Try.prog w = .ok () w := run_eqGuard_agg (by kernel_rfl) op x y a b w

def F_link_Link_none (l : Elink_Link) : Option Bool := some (l.boot == 0)

set_option maxHeartbeats 1000000 in
theorem c_link_Link_none {I D : Dm} {b_l : Nat} {l : Elink_Link} {w : World} {rr : Bool} (hF : F_link_Link_none l = some rr) (H : St I D w [OElink_Link b_l l]) :
  Calls Try.prog 29 #[.pointer (some ⟨b_l, 0, none⟩)] w (Ret fun vv w' => vv = .bool rr ∧ ∃ I', Hf I D w I' w' [OElink_Link b_l l]) := by
 replace H := H.hf
 unfold F_link_Link_none at hF
 refine f_enter 12 Try.func29 rfl rfl (Nat.le_of_ble_eq_true rfl) fun a Z => ?_
 replace Z := Z.sub (ts := [0]) rfl
 refine wp_seq (f_region Z ?_); clear Z; intro Z
 refine s_runk tLink0 Z 1 rfl rfl ?_; clear Z a; intro a Z
 refine s_end Z [0, 2] rfl ?_; clear Z; intro Z
 refine p_then (wp_seq (f_region Z ?_)); clear Z; intro Z
 refine s_runk tLink0 Z 1 rfl rfl ?_; clear Z a; intro a Z
 refine s_ob Z (v := .bool false) rfl rfl (by decide) rfl (Ob_pnil rfl rfl rfl Try.underlying23 (.inl ⟨rfl, rfl⟩)) ?_; clear Z a; intro a Z
 refine s_runk tLink0 Z 1 rfl rfl ?_; clear Z a; intro a Z
 refine g_if Z rfl rfl rfl (p := true) rfl rfl (by decide) (fun _ => ?_) (fun h => by cases h)
 refine s_runk tLink0 Z 1 rfl rfl ?_; clear Z a; intro a Z
 refine g_if Z rfl rfl rfl (p := true) rfl rfl (by decide) (fun _ => ?_) (fun h => by cases h)
 refine s_runk tLink0 Z 1 rfl rfl ?_; clear Z a; intro a Z
 refine g_if Z rfl rfl rfl (p := true) rfl rfl (by decide) (fun _ => ?_) (fun h => by cases h)
 refine s_runk tLink0 Z 1 rfl rfl ?_; clear Z a; intro a Z
 refine g_if Z rfl rfl rfl (p := true) rfl rfl (by decide) (fun _ => ?_) (fun h => by cases h)
 obtain ⟨v1, H⟩ := H.openX 0 rfl
 replace H : Hf I D w I w [BxC b_l 69 (cElink_Link l v1), OwC NS 9 v1 l.q.l] := H
 refine s_ob Z (v := .int .i64 l.boot) rfl rfl (by decide) rfl (Ob_load tLink0 rfl rfl rfl ((H.bx 0 rfl).cell 0 rfl)) ?_; clear Z a; intro a Z
 refine g_if Z rfl rfl rfl (p := true) rfl rfl (by decide) (fun _ => ?_) (fun h => by cases h)
 refine s_runk tLink0 Z 1 rfl rfl ?_; clear Z a; intro a Z
 refine s_ob Z (v := .bool (l.boot == 0)) rfl rfl (by decide) rfl (Ob_pick rfl rfl rfl rfl rfl) ?_; clear Z a; intro a Z
 refine s_runk tLink0 Z 1 rfl rfl ?_; clear Z a; intro a Z
 refine s_end Z [2] rfl ?_; clear Z; intro Z
 refine p_then (wp_ret ?_)
 replace H : Hf I D w I w [OElink_Link b_l l] := H.shutX (v1) [(0, false), (0, false)] rfl
 obtain rfl := some_in hF
 exact f_ret Z (run_results1 rfl Z rfl) ⟨rfl, I, (H.sub [(0, false)] rfl).eq rfl⟩

def F_link_Link_Waiting (l : Elink_Link) : Option Int := (F_link_Link_none l).bind fun n0 => (if (n0) = true then (some 0) else (some (l.q.l.length : Int)))

set_option maxHeartbeats 1000000 in
theorem c_link_Link_Waiting {I D : Dm} {b_l : Nat} {l : Elink_Link} {w : World} {rr : Int} (hF : F_link_Link_Waiting l = some rr) (H : St I D w [OElink_Link b_l l]) :
  Calls Try.prog 18 #[.pointer (some ⟨b_l, 0, none⟩)] w (Ret fun vv w' => vv = .int .i64 rr ∧ ∃ I', Hf I D w I' w' [OElink_Link b_l l]) := by
 replace H := H.hf
 unfold F_link_Link_Waiting at hF
 refine f_enter 11 Try.func18 rfl rfl (Nat.le_of_ble_eq_true rfl) fun a Z => ?_
 replace Z := Z.sub (ts := [0]) rfl
 refine wp_seq (f_region Z ?_); clear Z; intro Z
 refine s_runk tLink0 Z 1 rfl rfl ?_; clear Z a; intro a Z
 refine s_end Z [0, 2] rfl ?_; clear Z; intro Z
 refine p_then (wp_seq ?_)
 refine wp_seq ?_
 obtain ⟨n0, hx1, hF⟩ := bnd_in hF
 refine f_region Z ?_; clear Z; intro Z
 refine s_runk tLink0 Z 1 rfl rfl ?_; clear Z a; intro a Z
 refine h_call Z H (js := [(0, false)]) rfl (caps := #[]) fn_29_YLink0 rfl rfl rfl rfl rfl (by decide) rfl rfl (fun D1 hS => have hq := c_link_Link_none hx1 hS; hq) ?_; clear Z a; intro vv a w1 D2 hr hF2 Z
 obtain ⟨rfl, I1, K⟩ := hr
 have H : Hf I D w I1 w1 [OElink_Link b_l l] := hF2 K
 clear hF2 K
 refine s_end Z [0, 2, 4] rfl ?_; clear Z; intro Z
 refine p_then ?_
 refine f_cond Z rfl (fun hc1 => ?_) (fun hc1 => ?_)
 ·replace hF := ite_t hc1 hF
  refine wp_seq (f_region Z ?_); clear Z; intro Z
  refine s_runk tLink0 Z 1 rfl rfl ?_; clear Z a; intro a Z
  refine s_end Z [0, 2] rfl ?_; clear Z; intro Z
  refine p_then (wp_ret ?_)
  refine p_then_r ?_
  obtain rfl := some_in hF
  exact f_ret Z (run_results1 rfl Z rfl) ⟨rfl, I1, (H.sub [(0, false)] rfl).eq rfl⟩
 ·replace hF := ite_f hc1 hF
  refine wp_skip ?_
  refine p_then (wp_seq (f_region Z ?_)); clear Z; intro Z
  refine s_runk tLink0 Z 4 rfl rfl ?_; clear Z a; intro a Z
  obtain ⟨v1, H⟩ := H.openX 0 rfl
  replace H : Hf I D w I1 w1 [BxC b_l 69 (cElink_Link l v1), OwC NS 9 v1 l.q.l] := H
  refine s_ob Z (v := v1) rfl rfl (by decide) rfl (Ob_load tLink0 rfl rfl rfl ((H.bx 0 rfl).cell 3 rfl)) ?_; clear Z a; intro a Z
  refine s_ob Z (v := .int .i64 (l.q.l.length : Int)) rfl rfl (by decide) rfl (Ob_slen tLink0 rfl rfl rfl (H.owshape 1 rfl)) ?_; clear Z a; intro a Z
  refine s_runk tLink0 Z 1 rfl rfl ?_; clear Z a; intro a Z
  refine s_end Z [2] rfl ?_; clear Z; intro Z
  refine p_then (wp_ret ?_)
  replace H : Hf I D w I1 w1 [OElink_Link b_l l] := H.shutX (v1) [(0, false), (0, false)] rfl
  obtain rfl := some_in hF
  exact f_ret Z (run_results1 rfl Z rfl) ⟨rfl, I1, (H.sub [(0, false)] rfl).eq rfl⟩

def F_link_Link_Knows (l : Elink_Link) : Option Int := (F_link_Link_none l).bind fun n0 => (if (n0) = true then (some 0) else (some l.peer.boot))

set_option maxHeartbeats 1000000 in
theorem c_link_Link_Knows {I D : Dm} {b_l : Nat} {l : Elink_Link} {w : World} {rr : Int} (hF : F_link_Link_Knows l = some rr) (H : St I D w [OElink_Link b_l l]) :
  Calls Try.prog 19 #[.pointer (some ⟨b_l, 0, none⟩)] w (Ret fun vv w' => vv = .int .i64 rr ∧ ∃ I', Hf I D w I' w' [OElink_Link b_l l]) := by
 replace H := H.hf
 unfold F_link_Link_Knows at hF
 refine f_enter 10 Try.func19 rfl rfl (Nat.le_of_ble_eq_true rfl) fun a Z => ?_
 replace Z := Z.sub (ts := [0]) rfl
 refine wp_seq (f_region Z ?_); clear Z; intro Z
 refine s_runk tLink0 Z 1 rfl rfl ?_; clear Z a; intro a Z
 refine s_end Z [0, 2] rfl ?_; clear Z; intro Z
 refine p_then (wp_seq ?_)
 refine wp_seq ?_
 obtain ⟨n0, hx1, hF⟩ := bnd_in hF
 refine f_region Z ?_; clear Z; intro Z
 refine s_runk tLink0 Z 1 rfl rfl ?_; clear Z a; intro a Z
 refine h_call Z H (js := [(0, false)]) rfl (caps := #[]) fn_29_YLink0 rfl rfl rfl rfl rfl (by decide) rfl rfl (fun D1 hS => have hq := c_link_Link_none hx1 hS; hq) ?_; clear Z a; intro vv a w1 D2 hr hF2 Z
 obtain ⟨rfl, I1, K⟩ := hr
 have H : Hf I D w I1 w1 [OElink_Link b_l l] := hF2 K
 clear hF2 K
 refine s_end Z [0, 2, 4] rfl ?_; clear Z; intro Z
 refine p_then ?_
 refine f_cond Z rfl (fun hc1 => ?_) (fun hc1 => ?_)
 ·replace hF := ite_t hc1 hF
  refine wp_seq (f_region Z ?_); clear Z; intro Z
  refine s_runk tLink0 Z 1 rfl rfl ?_; clear Z a; intro a Z
  refine s_end Z [0, 2] rfl ?_; clear Z; intro Z
  refine p_then (wp_ret ?_)
  refine p_then_r ?_
  obtain rfl := some_in hF
  exact f_ret Z (run_results1 rfl Z rfl) ⟨rfl, I1, (H.sub [(0, false)] rfl).eq rfl⟩
 ·replace hF := ite_f hc1 hF
  refine wp_skip ?_
  refine p_then (wp_seq (f_region Z ?_)); clear Z; intro Z
  refine s_runk tLink0 Z 4 rfl rfl ?_; clear Z a; intro a Z
  obtain ⟨v1, H⟩ := H.openX 0 rfl
  replace H : Hf I D w I1 w1 [BxC b_l 69 (cElink_Link l v1), OwC NS 9 v1 l.q.l] := H
  refine s_ob Z (v := .int .i64 l.peer.boot) rfl rfl (by decide) rfl (Ob_load tLink0 rfl rfl rfl ((H.bx 0 rfl).cell 5 rfl)) ?_; clear Z a; intro a Z
  refine s_runk tLink0 Z 1 rfl rfl ?_; clear Z a; intro a Z
  refine s_end Z [2] rfl ?_; clear Z; intro Z
  refine p_then (wp_ret ?_)
  replace H : Hf I D w I1 w1 [OElink_Link b_l l] := H.shutX (v1) [(0, false), (0, false)] rfl
  obtain rfl := some_in hF
  exact f_ret Z (run_results1 rfl Z rfl) ⟨rfl, I1, (H.sub [(0, false)] rfl).eq rfl⟩

def F_link_Link_head (l : Elink_Link) : Option ESeg := some ({ (default : ESeg) with boot := l.boot, stream := l.stream, seq := l.q.first, ackBoot := l.peer.boot, ackStream := l.peer.stream, ackSeq := l.peer.next } : ESeg)

set_option maxHeartbeats 1000000 in
theorem c_link_Link_head {I D : Dm} {b_l : Nat} {l : Elink_Link} {w : World} {rr : ESeg} (hF : F_link_Link_head l = some rr) (H : St I D w [OElink_Link b_l l]) :
  Calls Try.prog 31 #[.pointer (some ⟨b_l, 0, none⟩)] w (Ret fun vv w' => vv = .agg #[.int .i64 rr.boot, .int .i64 rr.stream, .int .i64 rr.seq, .int .i64 rr.ackBoot, .int .i64 rr.ackStream, .int .i64 rr.ackSeq, .bool rr.has, .string rr.body] ∧ ∃ I', Hf I D w I' w' [OElink_Link b_l l]) := by
 replace H := H.hf
 unfold F_link_Link_head at hF
 refine f_enter 32 Try.func31 rfl rfl (Nat.le_of_ble_eq_true rfl) fun a Z => ?_
 replace Z := Z.sub (ts := [0]) rfl
 refine wp_seq (f_region Z ?_); clear Z; intro Z
 refine h_alloc Z H (cl := [.int .i64 0, .int .i64 0, .int .i64 0, .int .i64 0, .int .i64 0, .int .i64 0, .bool false, .string ByteArray.empty]) (z := .agg #[.int .i64 0, .int .i64 0, .int .i64 0, .int .i64 0, .int .i64 0, .int .i64 0, .bool false, .string ByteArray.empty]) rfl rfl rfl (by decide) rfl (by kernel_rfl) rfl ?_; clear Z a H; intro a w1 b1 H Z
 refine s_end Z [0, 2] rfl ?_; clear Z; intro Z
 refine p_then (wp_seq ?_)
 obtain ⟨v1, H⟩ := H.openX 1 rfl
 replace H : Hf I D w I w1 [BxC b_l 69 (cElink_Link l v1), OwC NS 9 v1 l.q.l, BxC b1 31 [.int .i64 0, .int .i64 0, .int .i64 0, .int .i64 0, .int .i64 0, .int .i64 0, .bool false, .string ByteArray.empty]] := H
 refine f_quietS 28 (by kernel_rfl) (by kernel_rfl) (by kernel_rfl) (by kernel_rfl) (by kernel_rfl) Z ?_; clear Z; intro Z
 refine q_runk tLink0 Z 3 rfl rfl ?_; clear Z a; intro a Z
 refine q_ob Z (v := .int .i64 l.boot) rfl rfl (by decide) rfl (fun _ hw => Ob_load tLink0 rfl rfl rfl (((H.blw hw).bx 0 rfl).cell 0 rfl)) ?_; clear Z a; intro a Z
 refine q_runk tLink0 Z 3 rfl rfl ?_; clear Z a; intro a Z
 refine q_ob Z (v := .int .i64 l.stream) rfl rfl (by decide) rfl (fun _ hw => Ob_load tLink0 rfl rfl rfl (((H.blw hw).bx 0 rfl).cell 1 rfl)) ?_; clear Z a; intro a Z
 refine q_runk tLink0 Z 4 rfl rfl ?_; clear Z a; intro a Z
 refine q_ob Z (v := .int .i64 l.q.first) rfl rfl (by decide) rfl (fun _ hw => Ob_load tLink0 rfl rfl rfl (((H.blw hw).bx 0 rfl).cell 2 rfl)) ?_; clear Z a; intro a Z
 refine q_runk tLink0 Z 4 rfl rfl ?_; clear Z a; intro a Z
 refine q_ob Z (v := .int .i64 l.peer.boot) rfl rfl (by decide) rfl (fun _ hw => Ob_load tLink0 rfl rfl rfl (((H.blw hw).bx 0 rfl).cell 5 rfl)) ?_; clear Z a; intro a Z
 refine q_runk tLink0 Z 4 rfl rfl ?_; clear Z a; intro a Z
 refine q_ob Z (v := .int .i64 l.peer.stream) rfl rfl (by decide) rfl (fun _ hw => Ob_load tLink0 rfl rfl rfl (((H.blw hw).bx 0 rfl).cell 6 rfl)) ?_; clear Z a; intro a Z
 refine q_runk tLink0 Z 4 rfl rfl ?_; clear Z a; intro a Z
 refine q_ob Z (v := .int .i64 l.peer.next) rfl rfl (by decide) rfl (fun _ hw => Ob_load tLink0 rfl rfl rfl (((H.blw hw).bx 0 rfl).cell 7 rfl)) ?_; clear Z a; intro a Z
 refine q_endS Z [0, 2, 3, 4, 5, 6, 7, 8, 9, 10, 11, 12, 13, 14, 15, 16, 17, 18, 19, 20, 21, 22, 23, 24, 25, 26, 27, 28, 29, 30] rfl ?_; clear Z; intro w2 hb Z
 replace H : Hf I D w I w2 [BxC b_l 69 (cElink_Link l v1), OwC NS 9 v1 l.q.l, BxC b1 31 [.int .i64 0, .int .i64 0, .int .i64 0, .int .i64 0, .int .i64 0, .int .i64 0, .bool false, .string ByteArray.empty]] := H.blw hb
 clear hb
 refine s_ob Z (v := .agg #[.int .i64 l.boot, .int .i64 l.stream, .int .i64 l.q.first, .int .i64 l.peer.boot, .int .i64 l.peer.stream, .int .i64 l.peer.next, .bool false, .string ByteArray.empty]) rfl rfl (by decide) rfl (Ob_build (vs := [(0, .int .i64 l.boot), (1, .int .i64 l.stream), (2, .int .i64 l.q.first), (3, .int .i64 l.peer.boot), (4, .int .i64 l.peer.stream), (5, .int .i64 l.peer.next)]) rfl rfl (by go_simp <;> rfl)) ?_; clear Z a; intro a Z
 refine h_store tLink0 Z H 2 rfl rfl rfl rfl rfl rfl rfl rfl rfl (one_cons rfl (one_cons rfl (one_cons rfl (one_cons rfl (one_cons rfl (one_cons rfl (one_cons rfl (one_cons rfl one_nil)))))))) (Nat.le_of_ble_eq_true rfl) rfl ?_; clear H; intro w3 H
 dsimp only [List.eraseIdx] at H
 refine s_end Z [2] rfl ?_; clear Z; intro Z
 refine p_then (wp_ret ?_)
 replace H : Hf I D w I w3 [OElink_Link b_l l, BxC b1 31 [.int .i64 l.boot, .int .i64 l.stream, .int .i64 l.q.first, .int .i64 l.peer.boot, .int .i64 l.peer.stream, .int .i64 l.peer.next, .bool false, .string ByteArray.empty]] := H.shutX (v1) [(1, false), (1, false)] rfl
 obtain rfl := some_in hF
 exact f_ret Z (run_resultsC rfl Z rfl (run_loadVar_agg tLink0 rfl (H.bx 1 rfl).at)) ⟨rfl, I, (H.sub [(0, false)] rfl).eq rfl⟩

def F_link_New (boot : Int) : Option ((Option Elink_Link) × Int) := if ((decide (boot < 1)) || (decide (boot > 1073741824))) = true then (some (none, 1)) else (some (some ({ (default : Elink_Link) with boot := boot, stream := 1 } : Elink_Link), 0))

set_option maxHeartbeats 1000000 in
theorem c_link_New {I D : Dm} {boot : Int} {w : World} {rr : (Option Elink_Link) × Int} (hF : F_link_New boot = some rr) (H : St I D w []) :
  Calls Try.prog 8 #[.int .i64 boot] w (Ret fun vv w' => ∃ q1 : Value, vv = .tuple #[q1, .int .i64 rr.2] ∧ ∃ I', Hf I D w I' w' [PtC OElink_Link q1 rr.1]) := by
 replace H := H.hf
 unfold F_link_New at hF
 refine f_enter 13 Try.func8 rfl rfl (Nat.le_of_ble_eq_true rfl) fun a Z => ?_
 replace Z := Z.sub (ts := [0]) rfl
 refine wp_seq (f_region Z ?_); clear Z; intro Z
 refine s_runk tLink0 Z 2 rfl rfl ?_; clear Z a; intro a Z
 refine s_end Z [0, 2, 3] rfl ?_; clear Z; intro Z
 refine p_then (wp_seq ?_)
 refine wp_seq (f_region Z ?_); clear Z; intro Z
 refine s_runk tLink0 Z 3 rfl rfl ?_; clear Z a; intro a Z
 refine g_ob Z (p := (!(decide (boot < 1)))) (v := .int .i64 boot) (S' := [(0, .int .i64 boot)]) rfl rfl rfl (wantB_f _) rfl (by decide) (fun hp hS => hS.sub (ts := [0]) rfl) (fun hp => Ob_c tLink0 rfl) ?_; clear Z a; intro a Z
 refine g_ob Z (p := (!(decide (boot < 1)))) (v := .bool (decide (boot > 1073741824))) (S' := [(7, .int .i64 boot)]) rfl rfl rfl (wantB_f _) rfl (by decide) (fun hp hS => (hS.conv (t := 7) rfl (cond_t hp)).sub (ts := [7]) rfl) (fun hp => Ob_c tLink0 rfl) ?_; clear Z a; intro a Z
 refine s_ob Z (v := .bool ((decide (boot < 1)) || (decide (boot > 1073741824)))) rfl rfl (by decide) rfl (Ob_pick rfl rfl rfl rfl (pick_or _ _)) ?_; clear Z a; intro a Z
 refine s_end Z [0, 2, 3, 9] rfl ?_; clear Z; intro Z
 refine p_then ?_
 refine f_cond Z rfl (fun hc1 => ?_) (fun hc1 => ?_)
 ·replace hF := ite_t hc1 hF
  refine wp_seq (f_region Z ?_); clear Z; intro Z
  refine s_runk tLink0 Z 2 rfl rfl ?_; clear Z a; intro a Z
  refine s_end Z [0, 2, 3] rfl ?_; clear Z; intro Z
  refine p_then (wp_ret ?_)
  refine p_then_r ?_
  replace H : Hf I D w I w [PtC OElink_Link (.pointer none) none] := H.mkN OElink_Link
  obtain rfl := some_in hF
  exact f_ret Z (run_results2 rfl Z rfl rfl) ⟨.pointer none, rfl, I, (H.sub [(0, false)] rfl).eq rfl⟩
 ·replace hF := ite_f hc1 hF
  refine wp_skip ?_
  refine p_then (wp_seq (f_region Z ?_)); clear Z; intro Z
  refine s_runk tLink0 Z 1 rfl rfl ?_; clear Z a; intro a Z
  refine s_ob Z (v := .agg #[.int .i64 boot, .int .i64 1, .int .i64 0, .slice none 0 0, .int .i64 0, .int .i64 0, .int .i64 0, .int .i64 0, .bool false]) rfl rfl (by decide) rfl (Ob_build (vs := [(0, .int .i64 boot), (1, .int .i64 1)]) rfl rfl (by go_simp <;> rfl)) ?_; clear Z a; intro a Z
  refine h_boxv Z H (cl := [.int .i64 boot, .int .i64 1, .int .i64 0, .slice none 0 0, .int .i64 0, .int .i64 0, .int .i64 0, .int .i64 0, .bool false]) rfl rfl rfl (by decide) rfl rfl rfl ?_; clear Z a H; intro a w1 b1 H Z
  refine s_runk tLink0 Z 2 rfl rfl ?_; clear Z a; intro a Z
  refine s_end Z [2, 3] rfl ?_; clear Z; intro Z
  refine p_then (wp_ret ?_)
  replace H : Hf I D w I w1 [OwC NS 9 (.slice none 0 0) ([] : List ByteArray), BxC b1 69 [.int .i64 boot, .int .i64 1, .int .i64 0, .slice none 0 0, .int .i64 0, .int .i64 0, .int .i64 0, .int .i64 0, .bool false]] := H.nilow NS 9
  replace H : Hf I D w I w1 [OElink_Link b1 ({ (default : Elink_Link) with boot := boot, stream := 1 } : Elink_Link)] := H.shutX (.slice none 0 0) [(1, false), (0, false)] rfl
  replace H : Hf I D w I w1 [PtC OElink_Link (.pointer (some ⟨b1, 0, none⟩)) (some ({ (default : Elink_Link) with boot := boot, stream := 1 } : Elink_Link))] := H.mkS (K := OElink_Link) 0 rfl
  obtain rfl := some_in hF
  exact f_ret Z (run_results2 rfl Z rfl rfl) ⟨.pointer (some ⟨b1, 0, none⟩), rfl, I, (H.sub [(0, false)] rfl).eq rfl⟩

def F_link_may_l1 (s0 : ESeg) (rc : Int → Option Bool) (sg : Int) : Option Bool := match sg with | x => if (decide (x < 6)) = true then (chk ((0 : Int) ≤ x ∧ x < 6) (if ((decide (([s0.boot, s0.stream, s0.seq, s0.ackBoot, s0.ackStream, s0.ackSeq].getD (x).toNat 0) < 0)) || (decide (([s0.boot, s0.stream, s0.seq, s0.ackBoot, s0.ackStream, s0.ackSeq].getD (x).toNat 0) > 1073741824))) = true then (some false) else (chk (inI (x + 1)) (rc (x + 1))))) else (some (decide (s0.boot > 0)))

def F_link_may (s0 : ESeg) : Option Bool := iter (F_link_may_l1 s0) FU 0

set_option maxHeartbeats 1000000 in
theorem c_link_may {I D : Dm} {s0 : ESeg} {w : World} {rr : Bool} (hF : F_link_may s0 = some rr) (H : St I D w []) :
  Calls Try.prog 32 #[.agg #[.int .i64 s0.boot, .int .i64 s0.stream, .int .i64 s0.seq, .int .i64 s0.ackBoot, .int .i64 s0.ackStream, .int .i64 s0.ackSeq, .bool s0.has, .string s0.body]] w (Ret fun vv w' => vv = .bool rr ∧ ∃ I', Hf I D w I' w' []) := by
 replace H := H.hf
 unfold F_link_may at hF
 refine f_enter 31 Try.func32 rfl rfl (Nat.le_of_ble_eq_true rfl) fun a Z => ?_
 replace Z := Z.sub (ts := [0]) rfl
 refine wp_seq (f_region Z ?_); clear Z; intro Z
 refine h_boxv Z H (cl := [.int .i64 s0.boot, .int .i64 s0.stream, .int .i64 s0.seq, .int .i64 s0.ackBoot, .int .i64 s0.ackStream, .int .i64 s0.ackSeq, .bool s0.has, .string s0.body]) rfl rfl rfl (by decide) rfl rfl rfl ?_; clear Z a H; intro a w1 b1 H Z
 refine s_runk tLink0 Z 1 rfl rfl ?_; clear Z a; intro a Z
 refine s_end Z [1, 2] rfl ?_; clear Z; intro Z
 refine p_then (wp_seq ?_)
 refine wp_seq (f_region Z ?_); clear Z; intro Z
 refine s_runk tLink0 Z 1 rfl rfl ?_; clear Z a; intro a Z
 refine s_ob Z (v := .int .i64 s0.boot) rfl rfl (by decide) rfl (Ob_load tLink0 rfl rfl rfl ((H.bx 0 rfl).cell 0 rfl)) ?_; clear Z a; intro a Z
 refine s_runk tLink0 Z 1 rfl rfl ?_; clear Z a; intro a Z
 refine s_ob Z (v := .int .i64 s0.stream) rfl rfl (by decide) rfl (Ob_load tLink0 rfl rfl rfl ((H.bx 0 rfl).cell 1 rfl)) ?_; clear Z a; intro a Z
 refine s_runk tLink0 Z 1 rfl rfl ?_; clear Z a; intro a Z
 refine s_ob Z (v := .int .i64 s0.seq) rfl rfl (by decide) rfl (Ob_load tLink0 rfl rfl rfl ((H.bx 0 rfl).cell 2 rfl)) ?_; clear Z a; intro a Z
 refine s_runk tLink0 Z 1 rfl rfl ?_; clear Z a; intro a Z
 refine s_ob Z (v := .int .i64 s0.ackBoot) rfl rfl (by decide) rfl (Ob_load tLink0 rfl rfl rfl ((H.bx 0 rfl).cell 3 rfl)) ?_; clear Z a; intro a Z
 refine s_runk tLink0 Z 1 rfl rfl ?_; clear Z a; intro a Z
 refine s_ob Z (v := .int .i64 s0.ackStream) rfl rfl (by decide) rfl (Ob_load tLink0 rfl rfl rfl ((H.bx 0 rfl).cell 4 rfl)) ?_; clear Z a; intro a Z
 refine s_runk tLink0 Z 1 rfl rfl ?_; clear Z a; intro a Z
 refine s_ob Z (v := .int .i64 s0.ackSeq) rfl rfl (by decide) rfl (Ob_load tLink0 rfl rfl rfl ((H.bx 0 rfl).cell 5 rfl)) ?_; clear Z a; intro a Z
 refine s_ob Z (v := .agg #[.int .i64 s0.boot, .int .i64 s0.stream, .int .i64 s0.seq, .int .i64 s0.ackBoot, .int .i64 s0.ackStream, .int .i64 s0.ackSeq]) rfl rfl (by decide) rfl (Ob_build (vs := [(0, .int .i64 s0.boot), (1, .int .i64 s0.stream), (2, .int .i64 s0.seq), (3, .int .i64 s0.ackBoot), (4, .int .i64 s0.ackStream), (5, .int .i64 s0.ackSeq)]) rfl rfl (by go_simp <;> rfl)) ?_; clear Z a; intro a Z
 refine s_runk tLink0 Z 1 rfl rfl ?_; clear Z a; intro a Z
 refine s_end Z [1, 2, 17, 18] rfl ?_; clear Z; intro Z
 refine p_then (wp_block ?_)
 refine f_iter hF (fun sg a' w' => match sg with | x => Sl 31 [(1, .pointer (some ⟨b1, 0, none⟩)), (2, .bool false), (17, .agg #[.int .i64 s0.boot, .int .i64 s0.stream, .int .i64 s0.seq, .int .i64 s0.ackBoot, .int .i64 s0.ackStream, .int .i64 s0.ackSeq]), (18, .int .i64 x)] a' ∧ ∃ I2, Hf I D w I2 w' [BxC b1 31 (cESeg s0)]) ⟨Z.sub (ts := [1, 2, 17, 18]) rfl, ⟨I, (H.sub [(0, false)] rfl).eq rfl⟩⟩ ?_
 clear Z H hF a
 rintro rc x a w2 ⟨Z, I1, H⟩ hF
 unfold F_link_may_l1 at hF
 try dsimp only at hF
 refine wp_seq (f_region Z ?_); clear Z; intro Z
 refine s_runk tLink0 Z 1 rfl rfl ?_; clear Z a; intro a Z
 refine s_end Z [1, 2, 17, 18, 19] rfl ?_; clear Z; intro Z
 refine p_then (wp_seq ?_)
 refine f_cond Z rfl (fun hc1 => ?_) (fun hc1 => ?_)
 ·replace hF := ite_t hc1 hF
  refine wp_skip ?_
  refine p_then (wp_seq ?_)
  refine wp_block ?_
  refine wp_seq ?_
  obtain ⟨hg1, hF⟩ := chk_in hF
  refine f_region Z ?_; clear Z; intro Z
  refine s_ob Z (v := .int .i64 ([s0.boot, s0.stream, s0.seq, s0.ackBoot, s0.ackStream, s0.ackSeq].getD (x).toNat 0)) rfl rfl (by decide) rfl (Ob_aidx tLink0 (fun x => Value.int .i64 x) [s0.boot, s0.stream, s0.seq, s0.ackBoot, s0.ackStream, s0.ackSeq] (z := x) (d := 0) rfl rfl rfl Try.underlying105 rfl rfl rfl hg1) ?_; clear Z a; intro a Z
  refine s_runk tLink0 Z 1 rfl rfl ?_; clear Z a; intro a Z
  refine s_end Z [1, 2, 17, 18, 19, 20, 4] rfl ?_; clear Z; intro Z
  refine p_then (wp_seq (f_region Z ?_)); clear Z; intro Z
  refine s_runk tLink0 Z 3 rfl rfl ?_; clear Z a; intro a Z
  refine g_ob Z (p := (!(decide (([s0.boot, s0.stream, s0.seq, s0.ackBoot, s0.ackStream, s0.ackSeq].getD (x).toNat 0) < 0)))) (v := .int .i64 ([s0.boot, s0.stream, s0.seq, s0.ackBoot, s0.ackStream, s0.ackSeq].getD (x).toNat 0)) (S' := [(4, .int .i64 ([s0.boot, s0.stream, s0.seq, s0.ackBoot, s0.ackStream, s0.ackSeq].getD (x).toNat 0))]) rfl rfl rfl (wantB_f _) rfl (by decide) (fun hp hS => hS.sub (ts := [4]) rfl) (fun hp => Ob_c tLink0 rfl) ?_; clear Z a; intro a Z
  refine g_ob Z (p := (!(decide (([s0.boot, s0.stream, s0.seq, s0.ackBoot, s0.ackStream, s0.ackSeq].getD (x).toNat 0) < 0)))) (v := .bool (decide (([s0.boot, s0.stream, s0.seq, s0.ackBoot, s0.ackStream, s0.ackSeq].getD (x).toNat 0) > 1073741824))) (S' := [(24, .int .i64 ([s0.boot, s0.stream, s0.seq, s0.ackBoot, s0.ackStream, s0.ackSeq].getD (x).toNat 0))]) rfl rfl rfl (wantB_f _) rfl (by decide) (fun hp hS => (hS.conv (t := 24) rfl (cond_t hp)).sub (ts := [24]) rfl) (fun hp => Ob_c tLink0 rfl) ?_; clear Z a; intro a Z
  refine s_ob Z (v := .bool ((decide (([s0.boot, s0.stream, s0.seq, s0.ackBoot, s0.ackStream, s0.ackSeq].getD (x).toNat 0) < 0)) || (decide (([s0.boot, s0.stream, s0.seq, s0.ackBoot, s0.ackStream, s0.ackSeq].getD (x).toNat 0) > 1073741824)))) rfl rfl (by decide) rfl (Ob_pick rfl rfl rfl rfl (pick_or _ _)) ?_; clear Z a; intro a Z
  refine s_end Z [1, 2, 17, 18, 19, 20, 4, 21, 22, 23, 26] rfl ?_; clear Z; intro Z
  refine p_then ?_
  refine f_cond Z rfl (fun hc2 => ?_) (fun hc2 => ?_)
  ·replace hF := ite_t hc2 hF
   refine wp_seq (f_region Z ?_); clear Z; intro Z
   refine s_runk tLink0 Z 1 rfl rfl ?_; clear Z a; intro a Z
   refine s_end Z [1, 2, 17, 18, 19, 20, 4, 21, 22, 23, 26] rfl ?_; clear Z; intro Z
   refine p_then (wp_ret ?_)
   refine p_blk_r ?_
   refine p_then_r ?_
   refine p_then_r ?_
   refine p_blk_r ?_
   refine p_then_r ?_
   obtain rfl := some_in hF
   exact f_ret Z (run_results1 rfl Z rfl) ⟨rfl, I1, (H.sub [] rfl).eq rfl⟩
  ·replace hF := ite_f hc2 hF
   refine wp_skip ?_
   refine p_blk ?_
   refine p_then ?_
   obtain ⟨hg2, hF⟩ := chk_in hF
   refine f_region Z ?_; clear Z; intro Z
   refine s_ob Z (v := .int .i64 (x + 1)) rfl rfl (by decide) rfl (Ob_add rfl rfl rfl (wrI hg2)) ?_; clear Z a; intro a Z
   refine s_runk tLink0 Z 1 rfl rfl ?_; clear Z a; intro a Z
   refine s_end Z [1, 2, 17, 18, 19, 20, 4, 21, 22, 23, 26, 27] rfl ?_; clear Z; intro Z
   refine p_then ?_
   exact ⟨(x + 1), ⟨Z.sub (ts := [1, 2, 17, 18]) rfl, ⟨I1, (H.sub [(0, false)] rfl).eq rfl⟩⟩, hF⟩
 ·replace hF := ite_f hc1 hF
  refine wp_exit ?_
  refine p_then_x ?_
  refine p_then_x ?_
  refine f_exit_here ?_
  refine p_then (wp_seq (f_region Z ?_)); clear Z; intro Z
  refine s_runk tLink0 Z 1 rfl rfl ?_; clear Z a; intro a Z
  refine s_ob Z (v := .int .i64 s0.boot) rfl rfl (by decide) rfl (Ob_load tLink0 rfl rfl rfl ((H.bx 0 rfl).cell 0 rfl)) ?_; clear Z a; intro a Z
  refine s_runk tLink0 Z 2 rfl rfl ?_; clear Z a; intro a Z
  refine s_end Z [2] rfl ?_; clear Z; intro Z
  refine p_then (wp_ret ?_)
  obtain rfl := some_in hF
  exact f_ret Z (run_results1 rfl Z rfl) ⟨rfl, I1, (H.sub [] rfl).eq rfl⟩

def F_ref22_New (boot : Int) : Option ((Option Eref22_Link) × Int) := if ((decide (boot < 1)) || (decide (boot > 1073741824))) = true then (some (none, 1)) else (some (some ({ (default : Eref22_Link) with boot := boot, stream := 1 } : Eref22_Link), 0))

set_option maxHeartbeats 1000000 in
theorem c_ref22_New {I D : Dm} {boot : Int} {w : World} {rr : (Option Eref22_Link) × Int} (hF : F_ref22_New boot = some rr) (H : St I D w []) :
  Calls Try.prog 9 #[.int .i64 boot] w (Ret fun vv w' => ∃ q1 : Value, vv = .tuple #[q1, .int .i64 rr.2] ∧ ∃ I', Hf I D w I' w' [PtC OEref22_Link q1 rr.1]) := by
 replace H := H.hf
 unfold F_ref22_New at hF
 refine f_enter 13 Try.func9 rfl rfl (Nat.le_of_ble_eq_true rfl) fun a Z => ?_
 replace Z := Z.sub (ts := [0]) rfl
 refine wp_seq (f_region Z ?_); clear Z; intro Z
 refine s_runk tLink0 Z 2 rfl rfl ?_; clear Z a; intro a Z
 refine s_end Z [0, 2, 3] rfl ?_; clear Z; intro Z
 refine p_then (wp_seq ?_)
 refine wp_seq (f_region Z ?_); clear Z; intro Z
 refine s_runk tLink0 Z 3 rfl rfl ?_; clear Z a; intro a Z
 refine g_ob Z (p := (!(decide (boot < 1)))) (v := .int .i64 boot) (S' := [(0, .int .i64 boot)]) rfl rfl rfl (wantB_f _) rfl (by decide) (fun hp hS => hS.sub (ts := [0]) rfl) (fun hp => Ob_c tLink0 rfl) ?_; clear Z a; intro a Z
 refine g_ob Z (p := (!(decide (boot < 1)))) (v := .bool (decide (boot > 1073741824))) (S' := [(7, .int .i64 boot)]) rfl rfl rfl (wantB_f _) rfl (by decide) (fun hp hS => (hS.conv (t := 7) rfl (cond_t hp)).sub (ts := [7]) rfl) (fun hp => Ob_c tLink0 rfl) ?_; clear Z a; intro a Z
 refine s_ob Z (v := .bool ((decide (boot < 1)) || (decide (boot > 1073741824)))) rfl rfl (by decide) rfl (Ob_pick rfl rfl rfl rfl (pick_or _ _)) ?_; clear Z a; intro a Z
 refine s_end Z [0, 2, 3, 9] rfl ?_; clear Z; intro Z
 refine p_then ?_
 refine f_cond Z rfl (fun hc1 => ?_) (fun hc1 => ?_)
 ·replace hF := ite_t hc1 hF
  refine wp_seq (f_region Z ?_); clear Z; intro Z
  refine s_runk tLink0 Z 2 rfl rfl ?_; clear Z a; intro a Z
  refine s_end Z [0, 2, 3] rfl ?_; clear Z; intro Z
  refine p_then (wp_ret ?_)
  refine p_then_r ?_
  replace H : Hf I D w I w [PtC OEref22_Link (.pointer none) none] := H.mkN OEref22_Link
  obtain rfl := some_in hF
  exact f_ret Z (run_results2 rfl Z rfl rfl) ⟨.pointer none, rfl, I, (H.sub [(0, false)] rfl).eq rfl⟩
 ·replace hF := ite_f hc1 hF
  refine wp_skip ?_
  refine p_then (wp_seq (f_region Z ?_)); clear Z; intro Z
  refine s_runk tLink0 Z 1 rfl rfl ?_; clear Z a; intro a Z
  refine s_ob Z (v := .agg #[.int .i64 boot, .int .i64 1, .int .i64 0, .slice none 0 0, .int .i64 0, .int .i64 0, .int .i64 0, .int .i64 0, .bool false]) rfl rfl (by decide) rfl (Ob_build (vs := [(0, .int .i64 boot), (1, .int .i64 1)]) rfl rfl (by go_simp <;> rfl)) ?_; clear Z a; intro a Z
  refine h_boxv Z H (cl := [.int .i64 boot, .int .i64 1, .int .i64 0, .slice none 0 0, .int .i64 0, .int .i64 0, .int .i64 0, .int .i64 0, .bool false]) rfl rfl rfl (by decide) rfl rfl rfl ?_; clear Z a H; intro a w1 b1 H Z
  refine s_runk tLink0 Z 2 rfl rfl ?_; clear Z a; intro a Z
  refine s_end Z [2, 3] rfl ?_; clear Z; intro Z
  refine p_then (wp_ret ?_)
  replace H : Hf I D w I w1 [SlC NS (.slice none 0 0) ([] : List ByteArray), BxC b1 47 [.int .i64 boot, .int .i64 1, .int .i64 0, .slice none 0 0, .int .i64 0, .int .i64 0, .int .i64 0, .int .i64 0, .bool false]] := H.slNil NS
  replace H : Hf I D w I w1 [OEref22_Link b1 ({ (default : Eref22_Link) with boot := boot, stream := 1 } : Eref22_Link), SlC NS (.slice none 0 0) ([] : List ByteArray)] := H.shutX (.slice none 0 0) [(1, false), (0, true)] rfl
  replace H : Hf I D w I w1 [PtC OEref22_Link (.pointer (some ⟨b1, 0, none⟩)) (some ({ (default : Eref22_Link) with boot := boot, stream := 1 } : Eref22_Link)), SlC NS (.slice none 0 0) ([] : List ByteArray)] := H.mkS (K := OEref22_Link) 0 rfl
  obtain rfl := some_in hF
  exact f_ret Z (run_results2 rfl Z rfl rfl) ⟨.pointer (some ⟨b1, 0, none⟩), rfl, I, (H.sub [(0, false)] rfl).eq rfl⟩

def F_link_Link_Send (l : Elink_Link) (s0 : ByteArray) : Option (Int × Elink_Link) := (F_link_Link_none l).bind fun n0 => (if (n0) = true then (some (8, l)) else (if (decide ((s0.size : Int) > 65536)) = true then (some (3, l)) else (if (decide ((l.q.l.length : Int) ≥ 8)) = true then (some (6, l)) else (chk (((l.q.l.length + [s0].length : Nat) : Int) * 16 ≤ 140737488355328) (some (0, ({ l with q := ({ l.q with l := l.q.l ++ [s0] } : Elink_queue_string) } : Elink_Link)))))))

set_option maxHeartbeats 1000000 in
theorem c_link_Link_Send {I D : Dm} {b_l : Nat} {l : Elink_Link} {s0 : ByteArray} {w : World} {rr : Int × Elink_Link} (hF : F_link_Link_Send l s0 = some rr) (H : St I D w [OElink_Link b_l l]) :
  Calls Try.prog 10 #[.pointer (some ⟨b_l, 0, none⟩), .string s0] w (Ret fun vv w' => vv = .int .i64 rr.1 ∧ ∃ I', Hf I D w I' w' [OElink_Link b_l rr.2]) := by
 replace H := H.hf
 unfold F_link_Link_Send at hF
 refine f_enter 32 Try.func10 rfl rfl (Nat.le_of_ble_eq_true rfl) fun a Z => ?_
 replace Z := Z.sub (ts := [0, 1]) rfl
 refine wp_seq (f_region Z ?_); clear Z; intro Z
 refine s_runk tLink0 Z 1 rfl rfl ?_; clear Z a; intro a Z
 refine s_end Z [0, 1, 4] rfl ?_; clear Z; intro Z
 refine p_then (wp_seq ?_)
 refine wp_block ?_
 refine wp_seq ?_
 obtain ⟨n0, hx1, hF⟩ := bnd_in hF
 refine f_region Z ?_; clear Z; intro Z
 refine s_runk tLink0 Z 1 rfl rfl ?_; clear Z a; intro a Z
 refine h_call Z H (js := [(0, false)]) rfl (caps := #[]) fn_29_YLink0 rfl rfl rfl rfl rfl (by decide) rfl rfl (fun D1 hS => have hq := c_link_Link_none hx1 hS; hq) ?_; clear Z a; intro vv a w1 D2 hr hF2 Z
 obtain ⟨rfl, I1, K⟩ := hr
 have H : Hf I D w I1 w1 [OElink_Link b_l l] := hF2 K
 clear hF2 K
 refine s_runk tLink0 Z 1 rfl rfl ?_; clear Z a; intro a Z
 refine s_end Z [0, 1, 4, 5] rfl ?_; clear Z; intro Z
 refine p_then ?_
 refine f_cond Z rfl (fun hc1 => ?_) (fun hc1 => ?_)
 ·replace hF := ite_t hc1 hF
  refine wp_seq (f_region Z ?_); clear Z; intro Z
  refine s_runk tLink0 Z 1 rfl rfl ?_; clear Z a; intro a Z
  refine s_end Z [0, 1, 4] rfl ?_; clear Z; intro Z
  refine p_then (wp_ret ?_)
  refine p_blk_r ?_
  refine p_then_r ?_
  obtain rfl := some_in hF
  exact f_ret Z (run_results1 rfl Z rfl) ⟨rfl, I1, (H.sub [(0, false)] rfl).eq rfl⟩
 ·replace hF := ite_f hc1 hF
  refine wp_seq (f_region Z ?_); clear Z; intro Z
  refine s_runk tLink0 Z 4 rfl rfl ?_; clear Z a; intro a Z
  refine s_end Z [0, 1, 4, 8] rfl ?_; clear Z; intro Z
  refine p_then ?_
  refine f_cond Z rfl (fun hc2 => ?_) (fun hc2 => ?_)
  ·replace hF := ite_t hc2 hF
   refine wp_seq (f_region Z ?_); clear Z; intro Z
   refine s_runk tLink0 Z 1 rfl rfl ?_; clear Z a; intro a Z
   refine s_end Z [0, 1, 4] rfl ?_; clear Z; intro Z
   refine p_then (wp_ret ?_)
   refine p_blk_r ?_
   refine p_then_r ?_
   obtain rfl := some_in hF
   exact f_ret Z (run_results1 rfl Z rfl) ⟨rfl, I1, (H.sub [(0, false)] rfl).eq rfl⟩
  ·replace hF := ite_f hc2 hF
   refine wp_seq (f_region Z ?_); clear Z; intro Z
   refine s_runk tLink0 Z 4 rfl rfl ?_; clear Z a; intro a Z
   obtain ⟨v1, H⟩ := H.openX 0 rfl
   replace H : Hf I D w I1 w1 [BxC b_l 69 (cElink_Link l v1), OwC NS 9 v1 l.q.l] := H
   refine s_ob Z (v := v1) rfl rfl (by decide) rfl (Ob_load tLink0 rfl rfl rfl ((H.bx 0 rfl).cell 3 rfl)) ?_; clear Z a; intro a Z
   refine s_ob Z (v := .int .i64 (l.q.l.length : Int)) rfl rfl (by decide) rfl (Ob_slen tLink0 rfl rfl rfl (H.owshape 1 rfl)) ?_; clear Z a; intro a Z
   refine s_runk tLink0 Z 2 rfl rfl ?_; clear Z a; intro a Z
   refine s_end Z [0, 1, 4, 12] rfl ?_; clear Z; intro Z
   refine p_then ?_
   refine f_cond Z rfl (fun hc3 => ?_) (fun hc3 => ?_)
   ·replace hF := ite_t hc3 hF
    refine wp_seq (f_region Z ?_); clear Z; intro Z
    refine s_runk tLink0 Z 1 rfl rfl ?_; clear Z a; intro a Z
    refine s_end Z [0, 1, 4] rfl ?_; clear Z; intro Z
    refine p_then (wp_ret ?_)
    refine p_blk_r ?_
    refine p_then_r ?_
    replace H : Hf I D w I1 w1 [OElink_Link b_l l] := H.shutX (v1) [(0, false), (0, false)] rfl
    obtain rfl := some_in hF
    exact f_ret Z (run_results1 rfl Z rfl) ⟨rfl, I1, (H.sub [(0, false)] rfl).eq rfl⟩
   ·replace hF := ite_f hc3 hF
    refine wp_skip ?_
    refine p_blk ?_
    refine p_then (wp_seq ?_)
    obtain ⟨hg1, hF⟩ := chk_in hF
    refine f_region Z ?_; clear Z; intro Z
    refine s_runk tLink0 Z 5 rfl rfl ?_; clear Z a; intro a Z
    refine s_ob Z (v := v1) rfl rfl (by decide) rfl (Ob_load tLink0 rfl rfl rfl ((H.bx 0 rfl).cell 3 rfl)) ?_; clear Z a; intro a Z
    refine s_runk tLink0 Z 1 rfl rfl ?_; clear Z a; intro a Z
    refine h_bslice Z H (vs := [(0, .string s0)]) (cl := [.string s0]) (e := 9) rfl rfl rfl (by decide) rfl rfl (fun w => run_bslice (z := .string ByteArray.empty) (m := 1) Try.underlying39 (by kernel_rfl) rfl rfl (by decide) (by simp [Instr.fill, Value.cells]) w) ?_; clear Z a H; intro a w2 b1 H Z
    refine h_appO Z H 2 E_39_YLink0 [s0] rfl rfl rfl rfl rfl (by decide) rfl rfl rfl (slRep2.box1 (H.bx 0 rfl) ⟨rfl, trivial⟩) hg1 (by decide) ?_; clear Z a H; intro v2 a w3 H Z
    dsimp only [List.eraseIdx] at H
    replace H : Hf I D w I1 w3 [OwC NS 9 v2 (l.q.l ++ [s0]), BxC b_l 69 (cElink_Link l v1)] := H.sub [(0, false), (1, false)] rfl
    refine s_runk tLink0 Z 3 rfl rfl ?_; clear Z a; intro a Z
    refine h_store tLink0 Z H 1 rfl rfl rfl rfl rfl rfl (slS.cells (H.owshape 0 rfl)) rfl rfl (one_cons (slS.one (H.owshape 0 rfl)) one_nil) (Nat.le_of_ble_eq_true rfl) rfl ?_; clear H; intro w4 H
    dsimp only [List.eraseIdx] at H
    refine s_end Z [4] rfl ?_; clear Z; intro Z
    refine p_then (wp_seq (f_region Z ?_)); clear Z; intro Z
    refine s_runk tLink0 Z 1 rfl rfl ?_; clear Z a; intro a Z
    refine s_end Z [4] rfl ?_; clear Z; intro Z
    refine p_then (wp_ret ?_)
    replace H : Hf I D w I1 w4 [OElink_Link b_l ({ l with q := ({ l.q with l := l.q.l ++ [s0] } : Elink_queue_string) } : Elink_Link)] := H.shutX (v2) [(0, false), (0, false)] rfl
    obtain rfl := some_in hF
    exact f_ret Z (run_results1 rfl Z rfl) ⟨rfl, I1, (H.sub [(0, false)] rfl).eq rfl⟩

def F_ref22_Link_Send (l : Eref22_Link) (s0 : ByteArray) : Option (Int × Eref22_Link) := if (decide ((s0.size : Int) > 65536)) = true then (some (3, l)) else (if (decide ((l.queue.length : Int) ≥ 8)) = true then (some (6, l)) else (chk (((([] : List ByteArray).length + l.queue.length : Nat) : Int) * 16 ≤ 140737488355328) (chk (((([] ++ l.queue).length + [s0].length : Nat) : Int) * 16 ≤ 140737488355328) (some (0, ({ l with queue := ([] ++ l.queue) ++ [s0] } : Eref22_Link))))))

set_option maxHeartbeats 1000000 in
theorem c_ref22_Link_Send {I D : Dm} {b_l : Nat} {l : Eref22_Link} {s0 : ByteArray} {w : World} {rr : Int × Eref22_Link} (hF : F_ref22_Link_Send l s0 = some rr) (H : St I D w [OEref22_Link b_l l]) :
  Calls Try.prog 11 #[.pointer (some ⟨b_l, 0, none⟩), .string s0] w (Ret fun vv w' => vv = .int .i64 rr.1 ∧ ∃ I', Hf I D w I' w' [OEref22_Link b_l rr.2]) := by
 replace H := H.hf
 unfold F_ref22_Link_Send at hF
 refine f_enter 26 Try.func11 rfl rfl (Nat.le_of_ble_eq_true rfl) fun a Z => ?_
 replace Z := Z.sub (ts := [0, 1]) rfl
 refine wp_seq (f_region Z ?_); clear Z; intro Z
 refine s_runk tLink0 Z 1 rfl rfl ?_; clear Z a; intro a Z
 refine s_end Z [0, 1, 4] rfl ?_; clear Z; intro Z
 refine p_then (wp_seq ?_)
 refine wp_seq (f_region Z ?_); clear Z; intro Z
 refine s_runk tLink0 Z 3 rfl rfl ?_; clear Z a; intro a Z
 refine s_end Z [0, 1, 4, 7] rfl ?_; clear Z; intro Z
 refine p_then ?_
 refine f_cond Z rfl (fun hc1 => ?_) (fun hc1 => ?_)
 ·replace hF := ite_t hc1 hF
  refine wp_seq (f_region Z ?_); clear Z; intro Z
  refine s_runk tLink0 Z 1 rfl rfl ?_; clear Z a; intro a Z
  refine s_end Z [0, 1, 4] rfl ?_; clear Z; intro Z
  refine p_then (wp_ret ?_)
  refine p_then_r ?_
  obtain rfl := some_in hF
  exact f_ret Z (run_results1 rfl Z rfl) ⟨rfl, I, (H.sub [(0, false)] rfl).eq rfl⟩
 ·replace hF := ite_f hc1 hF
  refine wp_skip ?_
  refine p_then (wp_seq ?_)
  refine wp_seq (f_region Z ?_); clear Z; intro Z
  refine s_runk tLink0 Z 3 rfl rfl ?_; clear Z a; intro a Z
  obtain ⟨v1, H⟩ := H.openX 0 rfl
  replace H : Hf I D w I w [BxC b_l 47 (cEref22_Link l v1), SlC NS v1 l.queue] := H
  refine s_ob Z (v := v1) rfl rfl (by decide) rfl (Ob_load tLink0 rfl rfl rfl ((H.bx 0 rfl).cell 3 rfl)) ?_; clear Z a; intro a Z
  refine s_ob Z (v := .int .i64 (l.queue.length : Int)) rfl rfl (by decide) rfl (Ob_slen tLink0 rfl rfl rfl (H.slshape 1 rfl)) ?_; clear Z a; intro a Z
  refine s_runk tLink0 Z 1 rfl rfl ?_; clear Z a; intro a Z
  refine s_end Z [0, 1, 4, 13] rfl ?_; clear Z; intro Z
  refine p_then ?_
  refine f_cond Z rfl (fun hc2 => ?_) (fun hc2 => ?_)
  ·replace hF := ite_t hc2 hF
   refine wp_seq (f_region Z ?_); clear Z; intro Z
   refine s_runk tLink0 Z 1 rfl rfl ?_; clear Z a; intro a Z
   refine s_end Z [0, 1, 4] rfl ?_; clear Z; intro Z
   refine p_then (wp_ret ?_)
   refine p_then_r ?_
   replace H : Hf I D w I w [OEref22_Link b_l l, SlC NS v1 l.queue] := H.shutX (v1) [(0, false), (0, true)] rfl
   obtain rfl := some_in hF
   exact f_ret Z (run_results1 rfl Z rfl) ⟨rfl, I, (H.sub [(0, false)] rfl).eq rfl⟩
  ·replace hF := ite_f hc2 hF
   refine wp_skip ?_
   refine p_then (wp_seq ?_)
   obtain ⟨hg1, hF⟩ := chk_in hF
   obtain ⟨hg2, hF⟩ := chk_in hF
   refine f_region Z ?_; clear Z; intro Z
   refine s_runk tLink0 Z 1 rfl rfl ?_; clear Z a; intro a Z
   refine h_bslice Z H (vs := []) (cl := []) (e := 9) rfl rfl rfl (by decide) rfl rfl (fun w => run_bslice (z := .string ByteArray.empty) (m := 1) Try.underlying39 (by kernel_rfl) rfl rfl (by decide) (by simp [Instr.fill, Value.cells]) w) ?_; clear Z a H; intro a w1 b1 H Z
   refine s_runk tLink0 Z 3 rfl rfl ?_; clear Z a; intro a Z
   refine s_ob Z (v := v1) rfl rfl (by decide) rfl (Ob_load tLink0 rfl rfl rfl ((H.bx 1 rfl).cell 3 rfl)) ?_; clear Z a; intro a Z
   replace H : Hf I D w I w1 [OwC NS 9 (.slice (some ⟨b1, 0, none⟩) 0 0) [], BxC b_l 47 (cEref22_Link l v1), SlC NS v1 l.queue] := H.emptyow 0 rfl NS
   refine h_appO Z H 0 E_39_YLink0 l.queue rfl rfl rfl rfl rfl (by decide) rfl rfl rfl (H.sl2 2 rfl) hg1 (by decide) ?_; clear Z a H; intro v2 a w2 H Z
   dsimp only [List.eraseIdx] at H
   refine s_runk tLink0 Z 1 rfl rfl ?_; clear Z a; intro a Z
   refine h_bslice Z H (vs := [(0, .string s0)]) (cl := [.string s0]) (e := 9) rfl rfl rfl (by decide) rfl rfl (fun w => run_bslice (z := .string ByteArray.empty) (m := 1) Try.underlying39 (by kernel_rfl) rfl rfl (by decide) (by simp [Instr.fill, Value.cells]) w) ?_; clear Z a H; intro a w3 b2 H Z
   refine h_appO Z H 1 E_39_YLink0 [s0] rfl rfl rfl rfl rfl (by decide) rfl rfl rfl (slRep2.box1 (H.bx 0 rfl) ⟨rfl, trivial⟩) hg2 (by decide) ?_; clear Z a H; intro v3 a w4 H Z
   dsimp only [List.eraseIdx] at H
   replace H : Hf I D w I w4 [OwC NS 9 v3 (([] ++ l.queue) ++ [s0]), BxC b_l 47 (cEref22_Link l v1), SlC NS v1 l.queue] := H.sub [(0, false), (1, false), (1, true)] rfl
   refine s_runk tLink0 Z 2 rfl rfl ?_; clear Z a; intro a Z
   refine h_store tLink0 Z H 1 rfl rfl rfl rfl rfl rfl (slS.cells (H.owshape 0 rfl)) rfl rfl (one_cons (slS.one (H.owshape 0 rfl)) one_nil) (Nat.le_of_ble_eq_true rfl) rfl ?_; clear H; intro w5 H
   dsimp only [List.eraseIdx] at H
   refine s_end Z [4] rfl ?_; clear Z; intro Z
   refine p_then (wp_seq (f_region Z ?_)); clear Z; intro Z
   refine s_runk tLink0 Z 1 rfl rfl ?_; clear Z a; intro a Z
   refine s_end Z [4] rfl ?_; clear Z; intro Z
   refine p_then (wp_ret ?_)
   obtain ⟨I1, _, H⟩ := H.frzow 1 rfl
   replace H : Hf I D w I1 w5 [SlC NS v3 (([] ++ l.queue) ++ [s0]), BxC b_l 47 [.int .i64 l.boot, .int .i64 l.stream, .int .i64 l.first, v3, .int .i64 l.told, .int .i64 l.peer, .int .i64 l.in0, .int .i64 l.next, .bool l.owes], SlC NS v1 l.queue] := H
   replace H : Hf I D w I1 w5 [OEref22_Link b_l ({ l with queue := ([] ++ l.queue) ++ [s0] } : Eref22_Link), SlC NS v3 (([] ++ l.queue) ++ [s0]), SlC NS v1 l.queue] := H.shutX (v3) [(1, false), (0, true)] rfl
   obtain rfl := some_in hF
   exact f_ret Z (run_results1 rfl Z rfl) ⟨rfl, I1, (H.sub [(0, false)] rfl).eq rfl⟩

def F_ref22_SameSegs_l1 (a0 : List ESeg) (b : List ESeg) (rc : Int → Option Bool) (sg : Int) : Option Bool := match sg with | i => if ((decide (i < (a0.length : Int))) && (decide (i < (b.length : Int)))) = true then (chk ((0 : Int) ≤ i ∧ i < (a0.length : Int)) (chk ((0 : Int) ≤ i ∧ i < (b.length : Int)) (if (!eqESeg (a0.getD (i).toNat default) (b.getD (i).toNat default)) = true then (some false) else (chk (inI (i + 1)) (rc (i + 1)))))) else (some true)

def F_ref22_SameSegs (a0 : List ESeg) (b : List ESeg) : Option Bool := if ((a0.length : Int) != (b.length : Int)) = true then (some false) else (iter (F_ref22_SameSegs_l1 a0 b) FU 0)

set_option maxHeartbeats 1000000 in
theorem c_ref22_SameSegs {I D : Dm} {a0 : List ESeg} {v1_a0 : Value} {b : List ESeg} {v2_b : Value} {w : World} {rr : Bool} (hF : F_ref22_SameSegs a0 b = some rr) (H : St I D w [SlC NESeg v1_a0 a0, SlC NESeg v2_b b]) :
  Calls Try.prog 12 #[v1_a0, v2_b] w (Ret fun vv w' => vv = .bool rr ∧ ∃ I', Hf I D w I' w' []) := by
 replace H := H.hf
 unfold F_ref22_SameSegs at hF
 refine f_enter 32 Try.func12 rfl rfl (Nat.le_of_ble_eq_true rfl) fun a Z => ?_
 replace Z := Z.sub (ts := [0, 1]) rfl
 refine wp_seq (f_region Z ?_); clear Z; intro Z
 refine s_runk tLink0 Z 1 rfl rfl ?_; clear Z a; intro a Z
 refine s_end Z [0, 1, 4] rfl ?_; clear Z; intro Z
 refine p_then (wp_seq ?_)
 refine wp_seq (f_region Z ?_); clear Z; intro Z
 refine s_runk tLink0 Z 1 rfl rfl ?_; clear Z a; intro a Z
 refine s_ob Z (v := .int .i64 (a0.length : Int)) rfl rfl (by decide) rfl (Ob_slen tLink0 rfl rfl rfl (H.slshape 0 rfl)) ?_; clear Z a; intro a Z
 refine s_runk tLink0 Z 1 rfl rfl ?_; clear Z a; intro a Z
 refine s_ob Z (v := .int .i64 (b.length : Int)) rfl rfl (by decide) rfl (Ob_slen tLink0 rfl rfl rfl (H.slshape 1 rfl)) ?_; clear Z a; intro a Z
 refine s_runk tLink0 Z 1 rfl rfl ?_; clear Z a; intro a Z
 refine s_end Z [0, 1, 4, 10] rfl ?_; clear Z; intro Z
 refine p_then ?_
 refine f_cond Z rfl (fun hc1 => ?_) (fun hc1 => ?_)
 ·replace hF := ite_t hc1 hF
  refine wp_seq (f_region Z ?_); clear Z; intro Z
  refine s_runk tLink0 Z 1 rfl rfl ?_; clear Z a; intro a Z
  refine s_end Z [0, 1, 4] rfl ?_; clear Z; intro Z
  refine p_then (wp_ret ?_)
  refine p_then_r ?_
  obtain rfl := some_in hF
  exact f_ret Z (run_results1 rfl Z rfl) ⟨rfl, I, (H.sub [] rfl).eq rfl⟩
 ·replace hF := ite_f hc1 hF
  refine wp_skip ?_
  refine p_then (wp_seq ?_)
  refine wp_seq (f_region Z ?_); clear Z; intro Z
  refine s_runk tLink0 Z 1 rfl rfl ?_; clear Z a; intro a Z
  refine s_end Z [0, 1, 4, 5] rfl ?_; clear Z; intro Z
  refine p_then (wp_block ?_)
  refine f_iter hF (fun sg a' w' => match sg with | i => Sl 32 [(0, v1_a0), (1, v2_b), (4, .bool false), (5, .int .i64 i)] a' ∧ ∃ I2, Hf I D w I2 w' [SlC NESeg v1_a0 a0, SlC NESeg v2_b b]) ⟨Z.sub (ts := [0, 1, 4, 5]) rfl, ⟨I, (H.sub [(0, true), (1, true)] rfl).eq rfl⟩⟩ ?_
  clear Z H hF a
  rintro rc i a w1 ⟨Z, I1, H⟩ hF
  unfold F_ref22_SameSegs_l1 at hF
  try dsimp only at hF
  refine wp_seq ?_
  refine wp_seq (f_region Z ?_); clear Z; intro Z
  refine s_runk tLink0 Z 2 rfl rfl ?_; clear Z a; intro a Z
  refine s_ob Z (v := .int .i64 (a0.length : Int)) rfl rfl (by decide) rfl (Ob_slen tLink0 rfl rfl rfl (H.slshape 0 rfl)) ?_; clear Z a; intro a Z
  refine s_runk tLink0 Z 2 rfl rfl ?_; clear Z a; intro a Z
  refine g_ob Z (p := (decide (i < (a0.length : Int)))) (v := .int .i64 i) (S' := [(5, .int .i64 i)]) rfl rfl rfl (wantB_t _) rfl (by decide) (fun hp hS => hS.sub (ts := [5]) rfl) (fun hp => Ob_c tLink0 rfl) ?_; clear Z a; intro a Z
  refine g_ob Z (p := (decide (i < (a0.length : Int)))) (v := v2_b) (S' := [(1, v2_b)]) rfl rfl rfl (wantB_t _) rfl (by decide) (fun hp hS => hS.sub (ts := [1]) rfl) (fun hp => Ob_c tLink0 rfl) ?_; clear Z a; intro a Z
  refine g_ob Z (p := (decide (i < (a0.length : Int)))) (v := .int .i64 (b.length : Int)) (S' := [(17, v2_b)]) rfl rfl rfl (wantB_t _) rfl (by decide) (fun hp hS => (hS.conv (t := 17) rfl (cond_t hp)).sub (ts := [17]) rfl) (fun hp => Ob_slen tLink0 rfl rfl rfl (H.slshape 1 rfl)) ?_; clear Z a; intro a Z
  refine g_ob Z (p := (decide (i < (a0.length : Int)))) (v := .bool (decide (i < (b.length : Int)))) (S' := [(16, .int .i64 i), (18, .int .i64 (b.length : Int))]) rfl rfl rfl (wantB_t _) rfl (by decide) (fun hp hS => ((hS.conv (t := 16) rfl (cond_t hp)).conv (t := 18) rfl (cond_t hp)).sub (ts := [16, 18]) rfl) (fun hp => Ob_c tLink0 rfl) ?_; clear Z a; intro a Z
  refine s_ob Z (v := .bool ((decide (i < (a0.length : Int))) && (decide (i < (b.length : Int))))) rfl rfl (by decide) rfl (Ob_pick rfl rfl rfl rfl (pick_and _ _)) ?_; clear Z a; intro a Z
  refine s_end Z [0, 1, 4, 5, 11, 12, 13, 14, 15, 20] rfl ?_; clear Z; intro Z
  refine p_then ?_
  refine f_cond Z rfl (fun hc2 => ?_) (fun hc2 => ?_)
  ·replace hF := ite_t hc2 hF
   refine wp_skip ?_
   refine p_then (wp_seq ?_)
   refine wp_block ?_
   refine wp_seq ?_
   obtain ⟨hg1, hF⟩ := chk_in hF
   obtain ⟨hg2, hF⟩ := chk_in hF
   refine f_quietd (by kernel_rfl) (by kernel_rfl) Z ?_; clear Z; intro Z
   refine q_runk tLink0 Z 2 rfl rfl ?_; clear Z a; intro a Z
   refine q_ob Z (v := .pointer (some ⟨blkOf v1_a0, oofOf v1_a0 + (i).toNat * 8, none⟩)) rfl rfl (by decide) rfl (fun _ hw => Ob_sidx tLink0 rfl rfl rfl rfl (slPl ((H.blw hw).sl 0 rfl) hg1) hg1) ?_; clear Z a; intro a Z
   refine q_ob Z (v := .agg #[.int .i64 ((a0.getD (i).toNat default).boot), .int .i64 ((a0.getD (i).toNat default).stream), .int .i64 ((a0.getD (i).toNat default).seq), .int .i64 ((a0.getD (i).toNat default).ackBoot), .int .i64 ((a0.getD (i).toNat default).ackStream), .int .i64 ((a0.getD (i).toNat default).ackSeq), .bool ((a0.getD (i).toNat default).has), .string ((a0.getD (i).toNat default).body)]) rfl rfl (by decide) rfl (fun _ hw => Ob_loads tLink0 rfl rfl rfl ((slFl ((H.blw hw).sl 0 rfl) hg1).part 0 rfl)) ?_; clear Z a; intro a Z
   refine q_runk tLink0 Z 2 rfl rfl ?_; clear Z a; intro a Z
   refine q_ob Z (v := .pointer (some ⟨blkOf v2_b, oofOf v2_b + (i).toNat * 8, none⟩)) rfl rfl (by decide) rfl (fun _ hw => Ob_sidx tLink0 rfl rfl rfl rfl (slPl ((H.blw hw).sl 1 rfl) hg2) hg2) ?_; clear Z a; intro a Z
   refine q_ob Z (v := .agg #[.int .i64 ((b.getD (i).toNat default).boot), .int .i64 ((b.getD (i).toNat default).stream), .int .i64 ((b.getD (i).toNat default).seq), .int .i64 ((b.getD (i).toNat default).ackBoot), .int .i64 ((b.getD (i).toNat default).ackStream), .int .i64 ((b.getD (i).toNat default).ackSeq), .bool ((b.getD (i).toNat default).has), .string ((b.getD (i).toNat default).body)]) rfl rfl (by decide) rfl (fun _ hw => Ob_loads tLink0 rfl rfl rfl ((slFl ((H.blw hw).sl 1 rfl) hg2).part 0 rfl)) ?_; clear Z a; intro a Z
   refine q_ob Z (v := .bool (!eqESeg (a0.getD (i).toNat default) (b.getD (i).toNat default))) rfl rfl (by decide) rfl (fun _ hw => Ob_bin rfl rfl rfl (eqg_ESeg _ _ _ _ _ _) (neq_ESeg (a0.getD (i).toNat default) (b.getD (i).toNat default) _)) ?_; clear Z a; intro a Z
   refine q_end Z [0, 1, 4, 5, 11, 12, 13, 14, 15, 20, 23, 24, 25, 26, 27, 28, 29, 30, 31] rfl ?_; clear Z; intro w2 hb Z
   replace H : Hf I D w I1 w2 [SlC NESeg v1_a0 a0, SlC NESeg v2_b b] := H.blw hb
   clear hb
   refine p_then ?_
   refine f_cond Z rfl (fun hc3 => ?_) (fun hc3 => ?_)
   ·replace hF := ite_t hc3 hF
    refine wp_seq (f_region Z ?_); clear Z; intro Z
    refine s_runk tLink0 Z 1 rfl rfl ?_; clear Z a; intro a Z
    refine s_end Z [0, 1, 4, 5, 11, 12, 13, 14, 15, 20, 23, 24, 25, 26, 27, 28, 29, 30, 31] rfl ?_; clear Z; intro Z
    refine p_then (wp_ret ?_)
    refine p_blk_r ?_
    refine p_then_r ?_
    refine p_then_r ?_
    refine p_blk_r ?_
    refine p_then_r ?_
    obtain rfl := some_in hF
    exact f_ret Z (run_results1 rfl Z rfl) ⟨rfl, I1, (H.sub [] rfl).eq rfl⟩
   ·replace hF := ite_f hc3 hF
    refine wp_skip ?_
    refine p_blk ?_
    refine p_then ?_
    obtain ⟨hg3, hF⟩ := chk_in hF
    refine f_region Z ?_; clear Z; intro Z
    refine s_runk tLink0 Z 1 rfl rfl ?_; clear Z a; intro a Z
    refine s_ob Z (v := .int .i64 (i + 1)) rfl rfl (by decide) rfl (Ob_add rfl rfl rfl (wrI hg3)) ?_; clear Z a; intro a Z
    refine s_runk tLink0 Z 1 rfl rfl ?_; clear Z a; intro a Z
    refine s_end Z [0, 1, 4, 5, 11, 12, 13, 14, 15, 20, 23, 24, 25, 26, 27, 28, 29, 30, 31, 21, 22] rfl ?_; clear Z; intro Z
    refine p_then ?_
    exact ⟨(i + 1), ⟨Z.sub (ts := [0, 1, 4, 5]) rfl, ⟨I1, (H.sub [(0, true), (1, true)] rfl).eq rfl⟩⟩, hF⟩
  ·replace hF := ite_f hc2 hF
   refine wp_exit ?_
   refine p_then_x ?_
   refine p_then_x ?_
   refine f_exit_here ?_
   refine p_then (wp_seq (f_region Z ?_)); clear Z; intro Z
   refine s_runk tLink0 Z 1 rfl rfl ?_; clear Z a; intro a Z
   refine s_end Z [4] rfl ?_; clear Z; intro Z
   refine p_then (wp_ret ?_)
   obtain rfl := some_in hF
   exact f_ret Z (run_results1 rfl Z rfl) ⟨rfl, I1, (H.sub [] rfl).eq rfl⟩

def F_ref05_Same_l1 (a0 : List ByteArray) (b : List ByteArray) (rc : Int → Option Bool) (sg : Int) : Option Bool := match sg with | i => if ((decide (i < (a0.length : Int))) && (decide (i < (b.length : Int)))) = true then (chk ((0 : Int) ≤ i ∧ i < (a0.length : Int)) (chk ((0 : Int) ≤ i ∧ i < (b.length : Int)) (if (!seqB (a0.getD (i).toNat default) (b.getD (i).toNat default)) = true then (some false) else (chk (inI (i + 1)) (rc (i + 1)))))) else (some true)

def F_ref05_Same (a0 : List ByteArray) (b : List ByteArray) : Option Bool := if ((a0.length : Int) != (b.length : Int)) = true then (some false) else (iter (F_ref05_Same_l1 a0 b) FU 0)

set_option maxHeartbeats 1000000 in
theorem c_ref05_Same {I D : Dm} {a0 : List ByteArray} {v1_a0 : Value} {b : List ByteArray} {v2_b : Value} {w : World} {rr : Bool} (hF : F_ref05_Same a0 b = some rr) (H : St I D w [SlC NS v1_a0 a0, SlC NS v2_b b]) :
  Calls Try.prog 17 #[v1_a0, v2_b] w (Ret fun vv w' => vv = .bool rr ∧ ∃ I', Hf I D w I' w' []) := by
 replace H := H.hf
 unfold F_ref05_Same at hF
 refine f_enter 32 Try.func17 rfl rfl (Nat.le_of_ble_eq_true rfl) fun a Z => ?_
 replace Z := Z.sub (ts := [0, 1]) rfl
 refine wp_seq (f_region Z ?_); clear Z; intro Z
 refine s_runk tLink0 Z 1 rfl rfl ?_; clear Z a; intro a Z
 refine s_end Z [0, 1, 4] rfl ?_; clear Z; intro Z
 refine p_then (wp_seq ?_)
 refine wp_seq (f_region Z ?_); clear Z; intro Z
 refine s_runk tLink0 Z 1 rfl rfl ?_; clear Z a; intro a Z
 refine s_ob Z (v := .int .i64 (a0.length : Int)) rfl rfl (by decide) rfl (Ob_slen tLink0 rfl rfl rfl (H.slshape 0 rfl)) ?_; clear Z a; intro a Z
 refine s_runk tLink0 Z 1 rfl rfl ?_; clear Z a; intro a Z
 refine s_ob Z (v := .int .i64 (b.length : Int)) rfl rfl (by decide) rfl (Ob_slen tLink0 rfl rfl rfl (H.slshape 1 rfl)) ?_; clear Z a; intro a Z
 refine s_runk tLink0 Z 1 rfl rfl ?_; clear Z a; intro a Z
 refine s_end Z [0, 1, 4, 10] rfl ?_; clear Z; intro Z
 refine p_then ?_
 refine f_cond Z rfl (fun hc1 => ?_) (fun hc1 => ?_)
 ·replace hF := ite_t hc1 hF
  refine wp_seq (f_region Z ?_); clear Z; intro Z
  refine s_runk tLink0 Z 1 rfl rfl ?_; clear Z a; intro a Z
  refine s_end Z [0, 1, 4] rfl ?_; clear Z; intro Z
  refine p_then (wp_ret ?_)
  refine p_then_r ?_
  obtain rfl := some_in hF
  exact f_ret Z (run_results1 rfl Z rfl) ⟨rfl, I, (H.sub [] rfl).eq rfl⟩
 ·replace hF := ite_f hc1 hF
  refine wp_skip ?_
  refine p_then (wp_seq ?_)
  refine wp_seq (f_region Z ?_); clear Z; intro Z
  refine s_runk tLink0 Z 1 rfl rfl ?_; clear Z a; intro a Z
  refine s_end Z [0, 1, 4, 5] rfl ?_; clear Z; intro Z
  refine p_then (wp_block ?_)
  refine f_iter hF (fun sg a' w' => match sg with | i => Sl 32 [(0, v1_a0), (1, v2_b), (4, .bool false), (5, .int .i64 i)] a' ∧ ∃ I2, Hf I D w I2 w' [SlC NS v1_a0 a0, SlC NS v2_b b]) ⟨Z.sub (ts := [0, 1, 4, 5]) rfl, ⟨I, (H.sub [(0, true), (1, true)] rfl).eq rfl⟩⟩ ?_
  clear Z H hF a
  rintro rc i a w1 ⟨Z, I1, H⟩ hF
  unfold F_ref05_Same_l1 at hF
  try dsimp only at hF
  refine wp_seq ?_
  refine wp_seq (f_region Z ?_); clear Z; intro Z
  refine s_runk tLink0 Z 2 rfl rfl ?_; clear Z a; intro a Z
  refine s_ob Z (v := .int .i64 (a0.length : Int)) rfl rfl (by decide) rfl (Ob_slen tLink0 rfl rfl rfl (H.slshape 0 rfl)) ?_; clear Z a; intro a Z
  refine s_runk tLink0 Z 2 rfl rfl ?_; clear Z a; intro a Z
  refine g_ob Z (p := (decide (i < (a0.length : Int)))) (v := .int .i64 i) (S' := [(5, .int .i64 i)]) rfl rfl rfl (wantB_t _) rfl (by decide) (fun hp hS => hS.sub (ts := [5]) rfl) (fun hp => Ob_c tLink0 rfl) ?_; clear Z a; intro a Z
  refine g_ob Z (p := (decide (i < (a0.length : Int)))) (v := v2_b) (S' := [(1, v2_b)]) rfl rfl rfl (wantB_t _) rfl (by decide) (fun hp hS => hS.sub (ts := [1]) rfl) (fun hp => Ob_c tLink0 rfl) ?_; clear Z a; intro a Z
  refine g_ob Z (p := (decide (i < (a0.length : Int)))) (v := .int .i64 (b.length : Int)) (S' := [(17, v2_b)]) rfl rfl rfl (wantB_t _) rfl (by decide) (fun hp hS => (hS.conv (t := 17) rfl (cond_t hp)).sub (ts := [17]) rfl) (fun hp => Ob_slen tLink0 rfl rfl rfl (H.slshape 1 rfl)) ?_; clear Z a; intro a Z
  refine g_ob Z (p := (decide (i < (a0.length : Int)))) (v := .bool (decide (i < (b.length : Int)))) (S' := [(16, .int .i64 i), (18, .int .i64 (b.length : Int))]) rfl rfl rfl (wantB_t _) rfl (by decide) (fun hp hS => ((hS.conv (t := 16) rfl (cond_t hp)).conv (t := 18) rfl (cond_t hp)).sub (ts := [16, 18]) rfl) (fun hp => Ob_c tLink0 rfl) ?_; clear Z a; intro a Z
  refine s_ob Z (v := .bool ((decide (i < (a0.length : Int))) && (decide (i < (b.length : Int))))) rfl rfl (by decide) rfl (Ob_pick rfl rfl rfl rfl (pick_and _ _)) ?_; clear Z a; intro a Z
  refine s_end Z [0, 1, 4, 5, 11, 12, 13, 14, 15, 20] rfl ?_; clear Z; intro Z
  refine p_then ?_
  refine f_cond Z rfl (fun hc2 => ?_) (fun hc2 => ?_)
  ·replace hF := ite_t hc2 hF
   refine wp_skip ?_
   refine p_then (wp_seq ?_)
   refine wp_block ?_
   refine wp_seq ?_
   obtain ⟨hg1, hF⟩ := chk_in hF
   obtain ⟨hg2, hF⟩ := chk_in hF
   refine f_quietd (by kernel_rfl) (by kernel_rfl) Z ?_; clear Z; intro Z
   refine q_runk tLink0 Z 2 rfl rfl ?_; clear Z a; intro a Z
   refine q_ob Z (v := .pointer (some ⟨blkOf v1_a0, oofOf v1_a0 + (i).toNat * 1, none⟩)) rfl rfl (by decide) rfl (fun _ hw => Ob_sidx tLink0 rfl rfl rfl rfl (slPl ((H.blw hw).sl 0 rfl) hg1) hg1) ?_; clear Z a; intro a Z
   refine q_ob Z (v := .string (a0.getD (i).toNat default)) rfl rfl (by decide) rfl (fun _ hw => Ob_load tLink0 rfl rfl rfl ((slFl ((H.blw hw).sl 0 rfl) hg1) 0 _ rfl)) ?_; clear Z a; intro a Z
   refine q_runk tLink0 Z 2 rfl rfl ?_; clear Z a; intro a Z
   refine q_ob Z (v := .pointer (some ⟨blkOf v2_b, oofOf v2_b + (i).toNat * 1, none⟩)) rfl rfl (by decide) rfl (fun _ hw => Ob_sidx tLink0 rfl rfl rfl rfl (slPl ((H.blw hw).sl 1 rfl) hg2) hg2) ?_; clear Z a; intro a Z
   refine q_ob Z (v := .string (b.getD (i).toNat default)) rfl rfl (by decide) rfl (fun _ hw => Ob_load tLink0 rfl rfl rfl ((slFl ((H.blw hw).sl 1 rfl) hg2) 0 _ rfl)) ?_; clear Z a; intro a Z
   refine q_runk tLink0 Z 1 rfl rfl ?_; clear Z a; intro a Z
   refine q_end Z [0, 1, 4, 5, 11, 12, 13, 14, 15, 20, 23, 24, 25, 26, 27, 28, 29, 30, 31] rfl ?_; clear Z; intro w2 hb Z
   replace H : Hf I D w I1 w2 [SlC NS v1_a0 a0, SlC NS v2_b b] := H.blw hb
   clear hb
   refine p_then ?_
   refine f_cond Z rfl (fun hc3 => ?_) (fun hc3 => ?_)
   ·replace hF := ite_t hc3 hF
    refine wp_seq (f_region Z ?_); clear Z; intro Z
    refine s_runk tLink0 Z 1 rfl rfl ?_; clear Z a; intro a Z
    refine s_end Z [0, 1, 4, 5, 11, 12, 13, 14, 15, 20, 23, 24, 25, 26, 27, 28, 29, 30, 31] rfl ?_; clear Z; intro Z
    refine p_then (wp_ret ?_)
    refine p_blk_r ?_
    refine p_then_r ?_
    refine p_then_r ?_
    refine p_blk_r ?_
    refine p_then_r ?_
    obtain rfl := some_in hF
    exact f_ret Z (run_results1 rfl Z rfl) ⟨rfl, I1, (H.sub [] rfl).eq rfl⟩
   ·replace hF := ite_f hc3 hF
    refine wp_skip ?_
    refine p_blk ?_
    refine p_then ?_
    obtain ⟨hg3, hF⟩ := chk_in hF
    refine f_region Z ?_; clear Z; intro Z
    refine s_runk tLink0 Z 1 rfl rfl ?_; clear Z a; intro a Z
    refine s_ob Z (v := .int .i64 (i + 1)) rfl rfl (by decide) rfl (Ob_add rfl rfl rfl (wrI hg3)) ?_; clear Z a; intro a Z
    refine s_runk tLink0 Z 1 rfl rfl ?_; clear Z a; intro a Z
    refine s_end Z [0, 1, 4, 5, 11, 12, 13, 14, 15, 20, 23, 24, 25, 26, 27, 28, 29, 30, 31, 21, 22] rfl ?_; clear Z; intro Z
    refine p_then ?_
    exact ⟨(i + 1), ⟨Z.sub (ts := [0, 1, 4, 5]) rfl, ⟨I1, (H.sub [(0, true), (1, true)] rfl).eq rfl⟩⟩, hF⟩
  ·replace hF := ite_f hc2 hF
   refine wp_exit ?_
   refine p_then_x ?_
   refine p_then_x ?_
   refine f_exit_here ?_
   refine p_then (wp_seq (f_region Z ?_)); clear Z; intro Z
   refine s_runk tLink0 Z 1 rfl rfl ?_; clear Z a; intro a Z
   refine s_end Z [4] rfl ?_; clear Z; intro Z
   refine p_then (wp_ret ?_)
   obtain rfl := some_in hF
   exact f_ret Z (run_results1 rfl Z rfl) ⟨rfl, I1, (H.sub [] rfl).eq rfl⟩

def F_ref22_Link_known_k1 (l : Eref22_Link) (s0 : ESeg) (l_stream : Int) (l_first : Int) (l_told : Int) : Option Eref22_Link := some ({ l with stream := l_stream, first := l_first, told := l_told, peer := s0.boot, in0 := s0.stream, next := 0 } : Eref22_Link)

def F_ref22_Link_known (l : Eref22_Link) (s0 : ESeg) : Option Eref22_Link := if (decide (s0.boot > l.peer)) = true then (if (decide (l.peer > 0)) = true then (chk (inI (l.stream + 1)) (F_ref22_Link_known_k1 l s0 (l.stream + 1) 0 0)) else (F_ref22_Link_known_k1 l s0 l.stream l.first l.told)) else (if (decide (s0.stream > l.in0)) = true then (some ({ l with in0 := s0.stream, next := 0 } : Eref22_Link)) else (some l))

set_option maxHeartbeats 1000000 in
theorem c_ref22_Link_known {I D : Dm} {b_l : Nat} {l : Eref22_Link} {s0 : ESeg} {w : World} {rr : Eref22_Link} (hF : F_ref22_Link_known l s0 = some rr) (H : St I D w [OEref22_Link b_l l]) :
  Calls Try.prog 35 #[.pointer (some ⟨b_l, 0, none⟩), .agg #[.int .i64 s0.boot, .int .i64 s0.stream, .int .i64 s0.seq, .int .i64 s0.ackBoot, .int .i64 s0.ackStream, .int .i64 s0.ackSeq, .bool s0.has, .string s0.body]] w (Ret fun vv w' => vv = .tuple #[] ∧ ∃ I', Hf I D w I' w' [OEref22_Link b_l rr]) := by
 replace H := H.hf
 unfold F_ref22_Link_known at hF
 refine f_enter 57 Try.func35 rfl rfl (Nat.le_of_ble_eq_true rfl) fun a Z => ?_
 replace Z := Z.sub (ts := [0, 1]) rfl
 refine wp_seq (f_region Z ?_); clear Z; intro Z
 refine h_boxv Z H (cl := [.int .i64 s0.boot, .int .i64 s0.stream, .int .i64 s0.seq, .int .i64 s0.ackBoot, .int .i64 s0.ackStream, .int .i64 s0.ackSeq, .bool s0.has, .string s0.body]) rfl rfl rfl (by decide) rfl rfl rfl ?_; clear Z a H; intro a w1 b1 H Z
 refine s_end Z [0, 3] rfl ?_; clear Z; intro Z
 refine p_then (wp_seq ?_)
 refine wp_seq ?_
 obtain ⟨v1, H⟩ := H.openX 1 rfl
 replace H : Hf I D w I w1 [BxC b_l 47 (cEref22_Link l v1), SlC NS v1 l.queue, BxC b1 31 (cESeg s0)] := H
 refine f_quietd (by kernel_rfl) (by kernel_rfl) Z ?_; clear Z; intro Z
 refine q_runk tLink0 Z 1 rfl rfl ?_; clear Z a; intro a Z
 refine q_ob Z (v := .int .i64 s0.boot) rfl rfl (by decide) rfl (fun _ hw => Ob_load tLink0 rfl rfl rfl (((H.blw hw).bx 2 rfl).cell 0 rfl)) ?_; clear Z a; intro a Z
 refine q_runk tLink0 Z 3 rfl rfl ?_; clear Z a; intro a Z
 refine q_ob Z (v := .int .i64 l.peer) rfl rfl (by decide) rfl (fun _ hw => Ob_load tLink0 rfl rfl rfl (((H.blw hw).bx 0 rfl).cell 5 rfl)) ?_; clear Z a; intro a Z
 refine q_runk tLink0 Z 1 rfl rfl ?_; clear Z a; intro a Z
 refine q_end Z [0, 3, 10] rfl ?_; clear Z; intro w2 hb Z
 replace H : Hf I D w I w2 [BxC b_l 47 (cEref22_Link l v1), SlC NS v1 l.queue, BxC b1 31 (cESeg s0)] := H.blw hb
 clear hb
 refine p_then ?_
 refine f_cond Z rfl (fun hc1 => ?_) (fun hc1 => ?_)
 ·replace hF := ite_t hc1 hF
  refine f_cut (fun a' w' => ∃ (l_stream : Int) (l_first : Int) (l_told : Int), Sl 57 [(0, .pointer (some ⟨b_l, 0, none⟩)), (3, .pointer (some ⟨b1, 0, none⟩))] a' ∧ (∃ I2, Hf I D w I2 w' [BxC b_l 47 [.int .i64 l.boot, .int .i64 l_stream, .int .i64 l_first, v1, .int .i64 l_told, .int .i64 l.peer, .int .i64 l.in0, .int .i64 l.next, .bool l.owes], BxC b1 31 (cESeg s0), SlC NS v1 l.queue]) ∧ F_ref22_Link_known_k1 l s0 l_stream l_first l_told = some rr) ?_ ?_
  ·rintro a w3 ⟨l_stream, l_first, l_told, Z, ⟨I1, H⟩, hF⟩
   unfold F_ref22_Link_known_k1 at hF
   try dsimp only at hF
   refine wp_seq (f_region Z ?_); clear Z; intro Z
   refine s_runk tLink0 Z 2 rfl rfl ?_; clear Z a; intro a Z
   refine s_ob Z (v := .int .i64 s0.boot) rfl rfl (by decide) rfl (Ob_load tLink0 rfl rfl rfl ((H.bx 1 rfl).cell 0 rfl)) ?_; clear Z a; intro a Z
   refine s_runk tLink0 Z 2 rfl rfl ?_; clear Z a; intro a Z
   refine h_store tLink0 Z H 0 rfl rfl rfl rfl rfl rfl rfl rfl rfl (one_cons rfl one_nil) (Nat.le_of_ble_eq_true rfl) rfl ?_; clear H; intro w4 H
   dsimp only [List.eraseIdx] at H
   refine s_end Z [0, 3] rfl ?_; clear Z; intro Z
   refine p_then (wp_seq (f_region Z ?_)); clear Z; intro Z
   refine s_runk tLink0 Z 2 rfl rfl ?_; clear Z a; intro a Z
   refine s_ob Z (v := .int .i64 s0.stream) rfl rfl (by decide) rfl (Ob_load tLink0 rfl rfl rfl ((H.bx 1 rfl).cell 1 rfl)) ?_; clear Z a; intro a Z
   refine s_runk tLink0 Z 2 rfl rfl ?_; clear Z a; intro a Z
   refine h_store tLink0 Z H 0 rfl rfl rfl rfl rfl rfl rfl rfl rfl (one_cons rfl one_nil) (Nat.le_of_ble_eq_true rfl) rfl ?_; clear H; intro w5 H
   dsimp only [List.eraseIdx] at H
   refine s_end Z [0, 3] rfl ?_; clear Z; intro Z
   refine p_then (wp_seq (f_region Z ?_)); clear Z; intro Z
   refine s_runk tLink0 Z 3 rfl rfl ?_; clear Z a; intro a Z
   refine h_store tLink0 Z H 0 rfl rfl rfl rfl rfl rfl rfl rfl rfl (one_cons rfl one_nil) (Nat.le_of_ble_eq_true rfl) rfl ?_; clear H; intro w6 H
   dsimp only [List.eraseIdx] at H
   refine s_end Z [0, 3] rfl ?_; clear Z; intro Z
   refine p_then (wp_ret ?_)
   refine p_then_r ?_
   replace H : Hf I D w I1 w6 [OEref22_Link b_l ({ l with stream := l_stream, first := l_first, told := l_told, peer := s0.boot, in0 := s0.stream, next := 0 } : Eref22_Link), BxC b1 31 (cESeg s0), SlC NS v1 l.queue] := H.shutX (v1) [(0, false), (1, true)] rfl
   obtain rfl := some_in hF
   exact f_ret Z (run_results0 rfl) ⟨rfl, I1, (H.sub [(0, false)] rfl).eq rfl⟩
  ·skip
   refine wp_seq (f_region Z ?_); clear Z; intro Z
   refine s_runk tLink0 Z 3 rfl rfl ?_; clear Z a; intro a Z
   refine s_ob Z (v := .int .i64 l.peer) rfl rfl (by decide) rfl (Ob_load tLink0 rfl rfl rfl ((H.bx 0 rfl).cell 5 rfl)) ?_; clear Z a; intro a Z
   refine s_runk tLink0 Z 1 rfl rfl ?_; clear Z a; intro a Z
   refine s_end Z [0, 3, 15] rfl ?_; clear Z; intro Z
   refine p_then ?_
   refine f_cond Z rfl (fun hc2 => ?_) (fun hc2 => ?_)
   ·replace hF := ite_t hc2 hF
    refine wp_seq ?_
    obtain ⟨hg1, hF⟩ := chk_in hF
    refine f_region Z ?_; clear Z; intro Z
    refine s_runk tLink0 Z 3 rfl rfl ?_; clear Z a; intro a Z
    refine s_ob Z (v := .int .i64 l.stream) rfl rfl (by decide) rfl (Ob_load tLink0 rfl rfl rfl ((H.bx 0 rfl).cell 1 rfl)) ?_; clear Z a; intro a Z
    refine s_ob Z (v := .int .i64 (l.stream + 1)) rfl rfl (by decide) rfl (Ob_add rfl rfl rfl (wrI hg1)) ?_; clear Z a; intro a Z
    refine s_runk tLink0 Z 2 rfl rfl ?_; clear Z a; intro a Z
    refine h_store tLink0 Z H 0 rfl rfl rfl rfl rfl rfl rfl rfl rfl (one_cons rfl one_nil) (Nat.le_of_ble_eq_true rfl) rfl ?_; clear H; intro w7 H
    dsimp only [List.eraseIdx] at H
    refine s_end Z [0, 3] rfl ?_; clear Z; intro Z
    refine p_then (wp_seq (f_region Z ?_)); clear Z; intro Z
    refine s_runk tLink0 Z 3 rfl rfl ?_; clear Z a; intro a Z
    refine h_store tLink0 Z H 0 rfl rfl rfl rfl rfl rfl rfl rfl rfl (one_cons rfl one_nil) (Nat.le_of_ble_eq_true rfl) rfl ?_; clear H; intro w8 H
    dsimp only [List.eraseIdx] at H
    refine s_end Z [0, 3] rfl ?_; clear Z; intro Z
    refine p_then ?_
    refine f_region Z ?_; clear Z; intro Z
    refine s_runk tLink0 Z 3 rfl rfl ?_; clear Z a; intro a Z
    refine h_store tLink0 Z H 0 rfl rfl rfl rfl rfl rfl rfl rfl rfl (one_cons rfl one_nil) (Nat.le_of_ble_eq_true rfl) rfl ?_; clear H; intro w9 H
    dsimp only [List.eraseIdx] at H
    refine s_end Z [0, 3] rfl ?_; clear Z; intro Z
    refine p_then ?_
    exact ⟨l.stream + 1, 0, 0, Z.sub (ts := [0, 3]) rfl, ⟨I, (H.sub [(0, false), (1, false), (0, true)] rfl).eq rfl⟩, hF⟩
   ·replace hF := ite_f hc2 hF
    refine wp_skip ?_
    refine p_then ?_
    exact ⟨l.stream, l.first, l.told, Z.sub (ts := [0, 3]) rfl, ⟨I, (H.sub [(0, false), (1, false), (0, true)] rfl).eq rfl⟩, hF⟩
 ·replace hF := ite_f hc1 hF
  refine wp_skip ?_
  refine p_then (wp_seq ?_)
  refine f_quietd (by kernel_rfl) (by kernel_rfl) Z ?_; clear Z; intro Z
  refine q_runk tLink0 Z 1 rfl rfl ?_; clear Z a; intro a Z
  refine q_ob Z (v := .int .i64 s0.stream) rfl rfl (by decide) rfl (fun _ hw => Ob_load tLink0 rfl rfl rfl (((H.blw hw).bx 2 rfl).cell 1 rfl)) ?_; clear Z a; intro a Z
  refine q_runk tLink0 Z 3 rfl rfl ?_; clear Z a; intro a Z
  refine q_ob Z (v := .int .i64 l.in0) rfl rfl (by decide) rfl (fun _ hw => Ob_load tLink0 rfl rfl rfl (((H.blw hw).bx 0 rfl).cell 6 rfl)) ?_; clear Z a; intro a Z
  refine q_runk tLink0 Z 1 rfl rfl ?_; clear Z a; intro a Z
  refine q_end Z [0, 3, 48] rfl ?_; clear Z; intro w10 hb Z
  replace H : Hf I D w I w10 [BxC b_l 47 (cEref22_Link l v1), SlC NS v1 l.queue, BxC b1 31 (cESeg s0)] := H.blw hb
  clear hb
  refine p_then ?_
  refine f_cond Z rfl (fun hc3 => ?_) (fun hc3 => ?_)
  ·replace hF := ite_t hc3 hF
   refine wp_seq (f_region Z ?_); clear Z; intro Z
   refine s_runk tLink0 Z 2 rfl rfl ?_; clear Z a; intro a Z
   refine s_ob Z (v := .int .i64 s0.stream) rfl rfl (by decide) rfl (Ob_load tLink0 rfl rfl rfl ((H.bx 2 rfl).cell 1 rfl)) ?_; clear Z a; intro a Z
   refine s_runk tLink0 Z 2 rfl rfl ?_; clear Z a; intro a Z
   refine h_store tLink0 Z H 0 rfl rfl rfl rfl rfl rfl rfl rfl rfl (one_cons rfl one_nil) (Nat.le_of_ble_eq_true rfl) rfl ?_; clear H; intro w11 H
   dsimp only [List.eraseIdx] at H
   refine s_end Z [0] rfl ?_; clear Z; intro Z
   refine p_then ?_
   refine f_region Z ?_; clear Z; intro Z
   refine s_runk tLink0 Z 3 rfl rfl ?_; clear Z a; intro a Z
   refine h_store tLink0 Z H 0 rfl rfl rfl rfl rfl rfl rfl rfl rfl (one_cons rfl one_nil) (Nat.le_of_ble_eq_true rfl) rfl ?_; clear H; intro w12 H
   dsimp only [List.eraseIdx] at H
   refine s_end Z [] rfl ?_; clear Z; intro Z
   replace H : Hf I D w I w12 [OEref22_Link b_l ({ l with in0 := s0.stream, next := 0 } : Eref22_Link), SlC NS v1 l.queue, BxC b1 31 (cESeg s0)] := H.shutX (v1) [(0, false), (0, true)] rfl
   obtain rfl := some_in hF
   exact f_fall Z (run_results0 rfl) ⟨rfl, I, (H.sub [(0, false)] rfl).eq rfl⟩
  ·replace hF := ite_f hc3 hF
   refine wp_skip ?_
   replace H : Hf I D w I w10 [OEref22_Link b_l l, SlC NS v1 l.queue, BxC b1 31 (cESeg s0)] := H.shutX (v1) [(0, false), (0, true)] rfl
   obtain rfl := some_in hF
   exact f_fall Z (run_results0 rfl) ⟨rfl, I, (H.sub [(0, false)] rfl).eq rfl⟩

def F_ref22_Link_Out_k2 (i : Int) (rc : ((List ESeg) × Int) → Option ((List ESeg) × Eref22_Link)) (out_2 : List ESeg) : Option ((List ESeg) × Eref22_Link) := chk (inI (i + 1)) (rc (out_2, i + 1))

def F_ref22_Link_Out_k3 (l : Eref22_Link) (out_3 : List ESeg) : Option ((List ESeg) × Eref22_Link) := some (out_3, ({ l with told := max l.told (min (l.queue.length : Int) 4), owes := false } : Eref22_Link))

def F_ref22_Link_Out_l1 (l : Eref22_Link) (again : Bool) (rc : ((List ESeg) × Int) → Option ((List ESeg) × Eref22_Link)) (sg : (List ESeg) × Int) : Option ((List ESeg) × Eref22_Link) := match sg with | (out, i) => if ((decide (i < (l.queue.length : Int))) && (decide (i < 4))) = true then (if (again || (decide (i ≥ l.told))) = true then (chk (inI (l.first + i)) (chk ((0 : Int) ≤ i ∧ i < (l.queue.length : Int)) (chk (((out.length + [({ boot := l.boot, stream := l.stream, seq := l.first + i, ackBoot := l.peer, ackStream := l.in0, ackSeq := l.next, has := true, body := (l.queue.getD (i).toNat default) } : ESeg)].length : Nat) : Int) * 72 ≤ 140737488355328) (F_ref22_Link_Out_k2 i rc (out ++ [({ boot := l.boot, stream := l.stream, seq := l.first + i, ackBoot := l.peer, ackStream := l.in0, ackSeq := l.next, has := true, body := (l.queue.getD (i).toNat default) } : ESeg)]))))) else (F_ref22_Link_Out_k2 i rc out)) else (if (((out.length : Int) == 0) && l.owes) = true then (chk (((out.length + [({ (default : ESeg) with boot := l.boot, stream := l.stream, seq := l.first, ackBoot := l.peer, ackStream := l.in0, ackSeq := l.next } : ESeg)].length : Nat) : Int) * 72 ≤ 140737488355328) (F_ref22_Link_Out_k3 l (out ++ [({ (default : ESeg) with boot := l.boot, stream := l.stream, seq := l.first, ackBoot := l.peer, ackStream := l.in0, ackSeq := l.next } : ESeg)]))) else (F_ref22_Link_Out_k3 l out))

def F_ref22_Link_Out (l : Eref22_Link) (again : Bool) : Option ((List ESeg) × Eref22_Link) := iter (F_ref22_Link_Out_l1 l again) FU (([] : List ESeg), 0)

set_option maxHeartbeats 1000000 in
theorem c_ref22_Link_Out {I D : Dm} {b_l : Nat} {l : Eref22_Link} {again : Bool} {w : World} {rr : (List ESeg) × Eref22_Link} (hF : F_ref22_Link_Out l again = some rr) (H : St I D w [OEref22_Link b_l l]) :
  Calls Try.prog 14 #[.pointer (some ⟨b_l, 0, none⟩), .bool again] w (Ret fun vv w' => ∃ q1 : Value, vv = q1 ∧ ∃ I', Hf I D w I' w' [OEref22_Link b_l rr.2, SlC NESeg q1 rr.1]) := by
 replace H := H.hf
 unfold F_ref22_Link_Out at hF
 refine f_enter 108 Try.func14 rfl rfl (Nat.le_of_ble_eq_true rfl) fun a Z => ?_
 replace Z := Z.sub (ts := [0, 1]) rfl
 refine wp_seq (f_region Z ?_); clear Z; intro Z
 refine s_runk tLink0 Z 1 rfl rfl ?_; clear Z a; intro a Z
 refine s_end Z [0, 1, 4] rfl ?_; clear Z; intro Z
 refine p_then (wp_seq (f_region Z ?_)); clear Z; intro Z
 refine s_runk tLink0 Z 1 rfl rfl ?_; clear Z a; intro a Z
 refine s_end Z [0, 1, 4, 5] rfl ?_; clear Z; intro Z
 refine p_then (wp_seq ?_)
 obtain ⟨v1, H⟩ := H.openX 0 rfl
 replace H : Hf I D w I w [BxC b_l 47 (cEref22_Link l v1), SlC NS v1 l.queue] := H
 refine f_regionL Z (by kernel_rfl) (by kernel_rfl) (by decide) (by decide) [25, 26] [(0, 0, 1), (1, 0, 1), (3, 0, 1), (7, 0, 1), (0, 0, 1), (16, 0, 1), (48, 0, 1), (112, 0, 1), (0, 0, 1), (256, 0, 1), (768, 0, 1), (1792, 0, 1), (0, 0, 1), (4096, 0, 1), (12288, 0, 1), (28672, 0, 1), (0, 0, 1), (65536, 0, 1), (196608, 0, 1), (458752, 0, 1), (0, 0, 1), (1048576, 0, 1), (3145728, 0, 1), (7340032, 0, 1), (16777215, 0, 1), (0, 0, 0), (67108863, 1, 1)] (by kernel_rfl) (fun jj vv => cond (Nat.blt jj 13) (cond (Nat.blt jj 6) (cond (Nat.blt jj 3) (cond (Nat.blt jj 1) (vv = .pointer (some ⟨b_l, 0, none⟩)) (cond (Nat.blt jj 2) (vv = .pointer (some ⟨b_l, 0, none⟩)) (vv = .pointer (some ⟨b_l, 0, none⟩)))) (cond (Nat.blt jj 4) (vv = .int .i64 l.boot) (cond (Nat.blt jj 5) (vv = .pointer (some ⟨b_l, 0, none⟩)) (vv = .pointer (some ⟨b_l, 0, none⟩))))) (cond (Nat.blt jj 9) (cond (Nat.blt jj 7) (vv = .pointer (some ⟨b_l, 1, none⟩)) (cond (Nat.blt jj 8) (vv = .int .i64 l.stream) (vv = .pointer (some ⟨b_l, 0, none⟩)))) (cond (Nat.blt jj 11) (cond (Nat.blt jj 10) (vv = .pointer (some ⟨b_l, 0, none⟩)) (vv = .pointer (some ⟨b_l, 2, none⟩))) (cond (Nat.blt jj 12) (vv = .int .i64 l.first) (vv = .pointer (some ⟨b_l, 0, none⟩)))))) (cond (Nat.blt jj 20) (cond (Nat.blt jj 16) (cond (Nat.blt jj 14) (vv = .pointer (some ⟨b_l, 0, none⟩)) (cond (Nat.blt jj 15) (vv = .pointer (some ⟨b_l, 5, none⟩)) (vv = .int .i64 l.peer))) (cond (Nat.blt jj 18) (cond (Nat.blt jj 17) (vv = .pointer (some ⟨b_l, 0, none⟩)) (vv = .pointer (some ⟨b_l, 0, none⟩))) (cond (Nat.blt jj 19) (vv = .pointer (some ⟨b_l, 6, none⟩)) (vv = .int .i64 l.in0)))) (cond (Nat.blt jj 23) (cond (Nat.blt jj 21) (vv = .pointer (some ⟨b_l, 0, none⟩)) (cond (Nat.blt jj 22) (vv = .pointer (some ⟨b_l, 0, none⟩)) (vv = .pointer (some ⟨b_l, 7, none⟩)))) (cond (Nat.blt jj 25) (cond (Nat.blt jj 24) (vv = .int .i64 l.next) (vv = .agg #[.int .i64 l.boot, .int .i64 l.stream, .int .i64 l.first, .int .i64 l.peer, .int .i64 l.in0, .int .i64 l.next, .bool false, .string ByteArray.empty])) (cond (Nat.blt jj 26) (vv = .pointer (some ⟨blkOf vv, 0, none⟩)) (True)))))) (fun ss vals1 xw => match ss with | 0 => Gx I D w I w xw [BxC b_l 47 (cEref22_Link l v1), SlC NS v1 l.queue] | 1 => Gx I D w I w xw [BxC (blkOf (vals1 25)) 31 [.int .i64 0, .int .i64 0, .int .i64 0, .int .i64 0, .int .i64 0, .int .i64 0, .bool false, .string ByteArray.empty], BxC b_l 47 (cEref22_Link l v1), SlC NS v1 l.queue] | _ => Gx I D w I w xw [BxC (blkOf (vals1 25)) 31 [.int .i64 l.boot, .int .i64 l.stream, .int .i64 l.first, .int .i64 l.peer, .int .i64 l.in0, .int .i64 l.next, .bool false, .string ByteArray.empty], BxC b_l 47 (cEref22_Link l v1), SlC NS v1 l.queue]) (fun _ => Gx.start H) ?_ ?_
 ·intro fr hfr hfe
  refine .cons (fun ss hlo hhi vals1 xw hG hV => ?_) ?_
  ·obtain rfl | rfl : ss = 0 ∨ ss = 1 := st1 hlo hhi
   all_goals
   ·rw [← hfe]
    have hS := (hfr vals1).sub (ts := [0]) (S' := [(0, .pointer (some ⟨b_l, 0, none⟩))]) rfl
    exact L_val hS rfl (Ob_c tLink0 rfl) ⟨rfl, hG⟩
  refine .cons (fun ss hlo hhi vals1 xw hG hV => ?_) ?_
  ·obtain rfl | rfl : ss = 0 ∨ ss = 1 := st1 hlo hhi
   all_goals
   ·rw [← hfe]
    have hS := (hfr vals1).sub (ts := [9]) (S' := [(9, vals1 0)]) rfl
    replace hS := hS.conv (t := 9) rfl (show (vals1 0) = .pointer (some ⟨b_l, 0, none⟩) from hV 0 (by decide))
    exact L_val hS rfl (Ob_c tLink0 rfl) ⟨rfl, hG⟩
  refine .cons (fun ss hlo hhi vals1 xw hG hV => ?_) ?_
  ·obtain rfl | rfl : ss = 0 ∨ ss = 1 := st1 hlo hhi
   all_goals
   ·rw [← hfe]
    have hS := (hfr vals1).sub (ts := [10]) (S' := [(10, vals1 1)]) rfl
    replace hS := hS.conv (t := 10) rfl (show (vals1 1) = .pointer (some ⟨b_l, 0, none⟩) from hV 1 (by decide))
    exact L_val hS rfl (Ob_c tLink0 rfl) ⟨rfl, hG⟩
  refine .cons (fun ss hlo hhi vals1 xw hG hV => ?_) ?_
  ·obtain rfl | rfl : ss = 0 ∨ ss = 1 := st1 hlo hhi
   ·rw [← hfe]
    have hS := (hfr vals1).sub (ts := [11]) (S' := [(11, vals1 2)]) rfl
    replace hS := hS.conv (t := 11) rfl (show (vals1 2) = .pointer (some ⟨b_l, 0, none⟩) from hV 2 (by decide))
    obtain ⟨I2, hI2, H⟩ := Gx.ex hG
    exact L_val hS rfl (Ob_load tLink0 rfl rfl rfl ((H.bx 0 rfl).cell 0 rfl)) ⟨rfl, hG⟩
   ·rw [← hfe]
    have hS := (hfr vals1).sub (ts := [11]) (S' := [(11, vals1 2)]) rfl
    replace hS := hS.conv (t := 11) rfl (show (vals1 2) = .pointer (some ⟨b_l, 0, none⟩) from hV 2 (by decide))
    obtain ⟨I2, hI2, H⟩ := Gx.ex hG
    exact L_val hS rfl (Ob_load tLink0 rfl rfl rfl ((H.bx 1 rfl).cell 0 rfl)) ⟨rfl, hG⟩
  refine .cons (fun ss hlo hhi vals1 xw hG hV => ?_) ?_
  ·obtain rfl | rfl : ss = 0 ∨ ss = 1 := st1 hlo hhi
   all_goals
   ·rw [← hfe]
    have hS := (hfr vals1).sub (ts := [0]) (S' := [(0, .pointer (some ⟨b_l, 0, none⟩))]) rfl
    exact L_val hS rfl (Ob_c tLink0 rfl) ⟨rfl, hG⟩
  refine .cons (fun ss hlo hhi vals1 xw hG hV => ?_) ?_
  ·obtain rfl | rfl : ss = 0 ∨ ss = 1 := st1 hlo hhi
   all_goals
   ·rw [← hfe]
    have hS := (hfr vals1).sub (ts := [13]) (S' := [(13, vals1 4)]) rfl
    replace hS := hS.conv (t := 13) rfl (show (vals1 4) = .pointer (some ⟨b_l, 0, none⟩) from hV 4 (by decide))
    exact L_val hS rfl (Ob_c tLink0 rfl) ⟨rfl, hG⟩
  refine .cons (fun ss hlo hhi vals1 xw hG hV => ?_) ?_
  ·obtain rfl | rfl : ss = 0 ∨ ss = 1 := st1 hlo hhi
   all_goals
   ·rw [← hfe]
    have hS := (hfr vals1).sub (ts := [14]) (S' := [(14, vals1 5)]) rfl
    replace hS := hS.conv (t := 14) rfl (show (vals1 5) = .pointer (some ⟨b_l, 0, none⟩) from hV 5 (by decide))
    exact L_val hS rfl (Ob_c tLink0 rfl) ⟨rfl, hG⟩
  refine .cons (fun ss hlo hhi vals1 xw hG hV => ?_) ?_
  ·obtain rfl | rfl : ss = 0 ∨ ss = 1 := st1 hlo hhi
   ·rw [← hfe]
    have hS := (hfr vals1).sub (ts := [15]) (S' := [(15, vals1 6)]) rfl
    replace hS := hS.conv (t := 15) rfl (show (vals1 6) = .pointer (some ⟨b_l, 1, none⟩) from hV 6 (by decide))
    obtain ⟨I2, hI2, H⟩ := Gx.ex hG
    exact L_val hS rfl (Ob_load tLink0 rfl rfl rfl ((H.bx 0 rfl).cell 1 rfl)) ⟨rfl, hG⟩
   ·rw [← hfe]
    have hS := (hfr vals1).sub (ts := [15]) (S' := [(15, vals1 6)]) rfl
    replace hS := hS.conv (t := 15) rfl (show (vals1 6) = .pointer (some ⟨b_l, 1, none⟩) from hV 6 (by decide))
    obtain ⟨I2, hI2, H⟩ := Gx.ex hG
    exact L_val hS rfl (Ob_load tLink0 rfl rfl rfl ((H.bx 1 rfl).cell 1 rfl)) ⟨rfl, hG⟩
  refine .cons (fun ss hlo hhi vals1 xw hG hV => ?_) ?_
  ·obtain rfl | rfl : ss = 0 ∨ ss = 1 := st1 hlo hhi
   all_goals
   ·rw [← hfe]
    have hS := (hfr vals1).sub (ts := [0]) (S' := [(0, .pointer (some ⟨b_l, 0, none⟩))]) rfl
    exact L_val hS rfl (Ob_c tLink0 rfl) ⟨rfl, hG⟩
  refine .cons (fun ss hlo hhi vals1 xw hG hV => ?_) ?_
  ·obtain rfl | rfl : ss = 0 ∨ ss = 1 := st1 hlo hhi
   all_goals
   ·rw [← hfe]
    have hS := (hfr vals1).sub (ts := [17]) (S' := [(17, vals1 8)]) rfl
    replace hS := hS.conv (t := 17) rfl (show (vals1 8) = .pointer (some ⟨b_l, 0, none⟩) from hV 8 (by decide))
    exact L_val hS rfl (Ob_c tLink0 rfl) ⟨rfl, hG⟩
  refine .cons (fun ss hlo hhi vals1 xw hG hV => ?_) ?_
  ·obtain rfl | rfl : ss = 0 ∨ ss = 1 := st1 hlo hhi
   all_goals
   ·rw [← hfe]
    have hS := (hfr vals1).sub (ts := [18]) (S' := [(18, vals1 9)]) rfl
    replace hS := hS.conv (t := 18) rfl (show (vals1 9) = .pointer (some ⟨b_l, 0, none⟩) from hV 9 (by decide))
    exact L_val hS rfl (Ob_c tLink0 rfl) ⟨rfl, hG⟩
  refine .cons (fun ss hlo hhi vals1 xw hG hV => ?_) ?_
  ·obtain rfl | rfl : ss = 0 ∨ ss = 1 := st1 hlo hhi
   ·rw [← hfe]
    have hS := (hfr vals1).sub (ts := [19]) (S' := [(19, vals1 10)]) rfl
    replace hS := hS.conv (t := 19) rfl (show (vals1 10) = .pointer (some ⟨b_l, 2, none⟩) from hV 10 (by decide))
    obtain ⟨I2, hI2, H⟩ := Gx.ex hG
    exact L_val hS rfl (Ob_load tLink0 rfl rfl rfl ((H.bx 0 rfl).cell 2 rfl)) ⟨rfl, hG⟩
   ·rw [← hfe]
    have hS := (hfr vals1).sub (ts := [19]) (S' := [(19, vals1 10)]) rfl
    replace hS := hS.conv (t := 19) rfl (show (vals1 10) = .pointer (some ⟨b_l, 2, none⟩) from hV 10 (by decide))
    obtain ⟨I2, hI2, H⟩ := Gx.ex hG
    exact L_val hS rfl (Ob_load tLink0 rfl rfl rfl ((H.bx 1 rfl).cell 2 rfl)) ⟨rfl, hG⟩
  refine .cons (fun ss hlo hhi vals1 xw hG hV => ?_) ?_
  ·obtain rfl | rfl : ss = 0 ∨ ss = 1 := st1 hlo hhi
   all_goals
   ·rw [← hfe]
    have hS := (hfr vals1).sub (ts := [0]) (S' := [(0, .pointer (some ⟨b_l, 0, none⟩))]) rfl
    exact L_val hS rfl (Ob_c tLink0 rfl) ⟨rfl, hG⟩
  refine .cons (fun ss hlo hhi vals1 xw hG hV => ?_) ?_
  ·obtain rfl | rfl : ss = 0 ∨ ss = 1 := st1 hlo hhi
   all_goals
   ·rw [← hfe]
    have hS := (hfr vals1).sub (ts := [21]) (S' := [(21, vals1 12)]) rfl
    replace hS := hS.conv (t := 21) rfl (show (vals1 12) = .pointer (some ⟨b_l, 0, none⟩) from hV 12 (by decide))
    exact L_val hS rfl (Ob_c tLink0 rfl) ⟨rfl, hG⟩
  refine .cons (fun ss hlo hhi vals1 xw hG hV => ?_) ?_
  ·obtain rfl | rfl : ss = 0 ∨ ss = 1 := st1 hlo hhi
   all_goals
   ·rw [← hfe]
    have hS := (hfr vals1).sub (ts := [22]) (S' := [(22, vals1 13)]) rfl
    replace hS := hS.conv (t := 22) rfl (show (vals1 13) = .pointer (some ⟨b_l, 0, none⟩) from hV 13 (by decide))
    exact L_val hS rfl (Ob_c tLink0 rfl) ⟨rfl, hG⟩
  refine .cons (fun ss hlo hhi vals1 xw hG hV => ?_) ?_
  ·obtain rfl | rfl : ss = 0 ∨ ss = 1 := st1 hlo hhi
   ·rw [← hfe]
    have hS := (hfr vals1).sub (ts := [23]) (S' := [(23, vals1 14)]) rfl
    replace hS := hS.conv (t := 23) rfl (show (vals1 14) = .pointer (some ⟨b_l, 5, none⟩) from hV 14 (by decide))
    obtain ⟨I2, hI2, H⟩ := Gx.ex hG
    exact L_val hS rfl (Ob_load tLink0 rfl rfl rfl ((H.bx 0 rfl).cell 5 rfl)) ⟨rfl, hG⟩
   ·rw [← hfe]
    have hS := (hfr vals1).sub (ts := [23]) (S' := [(23, vals1 14)]) rfl
    replace hS := hS.conv (t := 23) rfl (show (vals1 14) = .pointer (some ⟨b_l, 5, none⟩) from hV 14 (by decide))
    obtain ⟨I2, hI2, H⟩ := Gx.ex hG
    exact L_val hS rfl (Ob_load tLink0 rfl rfl rfl ((H.bx 1 rfl).cell 5 rfl)) ⟨rfl, hG⟩
  refine .cons (fun ss hlo hhi vals1 xw hG hV => ?_) ?_
  ·obtain rfl | rfl : ss = 0 ∨ ss = 1 := st1 hlo hhi
   all_goals
   ·rw [← hfe]
    have hS := (hfr vals1).sub (ts := [0]) (S' := [(0, .pointer (some ⟨b_l, 0, none⟩))]) rfl
    exact L_val hS rfl (Ob_c tLink0 rfl) ⟨rfl, hG⟩
  refine .cons (fun ss hlo hhi vals1 xw hG hV => ?_) ?_
  ·obtain rfl | rfl : ss = 0 ∨ ss = 1 := st1 hlo hhi
   all_goals
   ·rw [← hfe]
    have hS := (hfr vals1).sub (ts := [25]) (S' := [(25, vals1 16)]) rfl
    replace hS := hS.conv (t := 25) rfl (show (vals1 16) = .pointer (some ⟨b_l, 0, none⟩) from hV 16 (by decide))
    exact L_val hS rfl (Ob_c tLink0 rfl) ⟨rfl, hG⟩
  refine .cons (fun ss hlo hhi vals1 xw hG hV => ?_) ?_
  ·obtain rfl | rfl : ss = 0 ∨ ss = 1 := st1 hlo hhi
   all_goals
   ·rw [← hfe]
    have hS := (hfr vals1).sub (ts := [26]) (S' := [(26, vals1 17)]) rfl
    replace hS := hS.conv (t := 26) rfl (show (vals1 17) = .pointer (some ⟨b_l, 0, none⟩) from hV 17 (by decide))
    exact L_val hS rfl (Ob_c tLink0 rfl) ⟨rfl, hG⟩
  refine .cons (fun ss hlo hhi vals1 xw hG hV => ?_) ?_
  ·obtain rfl | rfl : ss = 0 ∨ ss = 1 := st1 hlo hhi
   ·rw [← hfe]
    have hS := (hfr vals1).sub (ts := [27]) (S' := [(27, vals1 18)]) rfl
    replace hS := hS.conv (t := 27) rfl (show (vals1 18) = .pointer (some ⟨b_l, 6, none⟩) from hV 18 (by decide))
    obtain ⟨I2, hI2, H⟩ := Gx.ex hG
    exact L_val hS rfl (Ob_load tLink0 rfl rfl rfl ((H.bx 0 rfl).cell 6 rfl)) ⟨rfl, hG⟩
   ·rw [← hfe]
    have hS := (hfr vals1).sub (ts := [27]) (S' := [(27, vals1 18)]) rfl
    replace hS := hS.conv (t := 27) rfl (show (vals1 18) = .pointer (some ⟨b_l, 6, none⟩) from hV 18 (by decide))
    obtain ⟨I2, hI2, H⟩ := Gx.ex hG
    exact L_val hS rfl (Ob_load tLink0 rfl rfl rfl ((H.bx 1 rfl).cell 6 rfl)) ⟨rfl, hG⟩
  refine .cons (fun ss hlo hhi vals1 xw hG hV => ?_) ?_
  ·obtain rfl | rfl : ss = 0 ∨ ss = 1 := st1 hlo hhi
   all_goals
   ·rw [← hfe]
    have hS := (hfr vals1).sub (ts := [0]) (S' := [(0, .pointer (some ⟨b_l, 0, none⟩))]) rfl
    exact L_val hS rfl (Ob_c tLink0 rfl) ⟨rfl, hG⟩
  refine .cons (fun ss hlo hhi vals1 xw hG hV => ?_) ?_
  ·obtain rfl | rfl : ss = 0 ∨ ss = 1 := st1 hlo hhi
   all_goals
   ·rw [← hfe]
    have hS := (hfr vals1).sub (ts := [29]) (S' := [(29, vals1 20)]) rfl
    replace hS := hS.conv (t := 29) rfl (show (vals1 20) = .pointer (some ⟨b_l, 0, none⟩) from hV 20 (by decide))
    exact L_val hS rfl (Ob_c tLink0 rfl) ⟨rfl, hG⟩
  refine .cons (fun ss hlo hhi vals1 xw hG hV => ?_) ?_
  ·obtain rfl | rfl : ss = 0 ∨ ss = 1 := st1 hlo hhi
   all_goals
   ·rw [← hfe]
    have hS := (hfr vals1).sub (ts := [30]) (S' := [(30, vals1 21)]) rfl
    replace hS := hS.conv (t := 30) rfl (show (vals1 21) = .pointer (some ⟨b_l, 0, none⟩) from hV 21 (by decide))
    exact L_val hS rfl (Ob_c tLink0 rfl) ⟨rfl, hG⟩
  refine .cons (fun ss hlo hhi vals1 xw hG hV => ?_) ?_
  ·obtain rfl | rfl : ss = 0 ∨ ss = 1 := st1 hlo hhi
   ·rw [← hfe]
    have hS := (hfr vals1).sub (ts := [31]) (S' := [(31, vals1 22)]) rfl
    replace hS := hS.conv (t := 31) rfl (show (vals1 22) = .pointer (some ⟨b_l, 7, none⟩) from hV 22 (by decide))
    obtain ⟨I2, hI2, H⟩ := Gx.ex hG
    exact L_val hS rfl (Ob_load tLink0 rfl rfl rfl ((H.bx 0 rfl).cell 7 rfl)) ⟨rfl, hG⟩
   ·rw [← hfe]
    have hS := (hfr vals1).sub (ts := [31]) (S' := [(31, vals1 22)]) rfl
    replace hS := hS.conv (t := 31) rfl (show (vals1 22) = .pointer (some ⟨b_l, 7, none⟩) from hV 22 (by decide))
    obtain ⟨I2, hI2, H⟩ := Gx.ex hG
    exact L_val hS rfl (Ob_load tLink0 rfl rfl rfl ((H.bx 1 rfl).cell 7 rfl)) ⟨rfl, hG⟩
  refine .cons (fun ss hlo hhi vals1 xw hG hV => ?_) ?_
  ·obtain rfl | rfl : ss = 0 ∨ ss = 1 := st1 hlo hhi
   all_goals
   ·rw [← hfe]
    have hS := (hfr vals1).sub (ts := [12, 16, 20, 24, 28, 32]) (S' := [(12, vals1 3), (16, vals1 7), (20, vals1 11), (24, vals1 15), (28, vals1 19), (32, vals1 23)]) rfl
    replace hS := hS.conv (t := 12) rfl (show (vals1 3) = .int .i64 l.boot from hV 3 (by decide))
    replace hS := hS.conv (t := 16) rfl (show (vals1 7) = .int .i64 l.stream from hV 7 (by decide))
    replace hS := hS.conv (t := 20) rfl (show (vals1 11) = .int .i64 l.first from hV 11 (by decide))
    replace hS := hS.conv (t := 24) rfl (show (vals1 15) = .int .i64 l.peer from hV 15 (by decide))
    replace hS := hS.conv (t := 28) rfl (show (vals1 19) = .int .i64 l.in0 from hV 19 (by decide))
    replace hS := hS.conv (t := 32) rfl (show (vals1 23) = .int .i64 l.next from hV 23 (by decide))
    exact L_val hS rfl (Ob_build (vs := [(0, .int .i64 l.boot), (1, .int .i64 l.stream), (2, .int .i64 l.first), (3, .int .i64 l.peer), (4, .int .i64 l.in0), (5, .int .i64 l.next)]) rfl rfl (by go_simp <;> rfl)) ⟨rfl, hG⟩
  refine .cons (fun ss hlo hhi vals1 xw hG hV => ?_) ?_
  ·obtain rfl : ss = 0 := Nat.le_antisymm hhi hlo
   rw [← hfe]
   have hS := (hfr vals1).sub (ts := []) (S' := []) rfl
   obtain ⟨I2, hI2, H⟩ := Gx.ex hG
   exact L_alloc H (cl := [.int .i64 0, .int .i64 0, .int .i64 0, .int .i64 0, .int .i64 0, .int .i64 0, .bool false, .string ByteArray.empty]) (z := .agg #[.int .i64 0, .int .i64 0, .int .i64 0, .int .i64 0, .int .i64 0, .int .i64 0, .bool false, .string ByteArray.empty]) hS rfl rfl (by kernel_rfl) rfl fun yw b hK H => ⟨rfl, Gx.go hG hI2 hK (fun _ h => h) H⟩
  refine .cons (fun ss hlo hhi vals1 xw hG hV => ?_) ?_
  ·obtain rfl : ss = 1 := Nat.le_antisymm hhi hlo
   rw [← hfe]
   have hS := (hfr vals1).sub (ts := [6, 33]) (S' := [(6, vals1 25), (33, vals1 24)]) rfl
   replace hS := hS.conv (t := 6) rfl (show (vals1 25) = .pointer (some ⟨blkOf (vals1 25), 0, none⟩) from hV 25 (by decide))
   replace hS := hS.conv (t := 33) rfl (show (vals1 24) = .agg #[.int .i64 l.boot, .int .i64 l.stream, .int .i64 l.first, .int .i64 l.peer, .int .i64 l.in0, .int .i64 l.next, .bool false, .string ByteArray.empty] from hV 24 (by decide))
   obtain ⟨I2, hI2, H⟩ := Gx.ex hG
   exact L_store tLink0 H 0 rfl hS rfl rfl rfl rfl rfl rfl rfl rfl (one_cons rfl (one_cons rfl (one_cons rfl (one_cons rfl (one_cons rfl (one_cons rfl (one_cons rfl (one_cons rfl one_nil)))))))) (Nat.le_of_ble_eq_true rfl) rfl fun yw hK H => ⟨trivial, Gx.go hG hI2 hK (fun _ h => h) H⟩
  exact .nil
 ·intro vals1 a w1 Z hG hV
  replace Z := Z.sub (ts := [0, 1, 4, 5, 6]) (S' := [(0, .pointer (some ⟨b_l, 0, none⟩)), (1, .bool again), (4, .slice none 0 0), (5, .slice none 0 0), (6, vals1 25)]) rfl
  replace Z := Z.conv (t := 6) rfl (show (vals1 25) = .pointer (some ⟨blkOf (vals1 25), 0, none⟩) from hV 25 (by decide))
  obtain ⟨I1, _, H⟩ := Gx.ex hG
  clear hG hV
  replace Z := Z.sub (ts := [0, 1, 4, 5, 6]) rfl
  replace H : Hf I D w I1 w1 [BxC (blkOf (vals1 25)) 31 [.int .i64 l.boot, .int .i64 l.stream, .int .i64 l.first, .int .i64 l.peer, .int .i64 l.in0, .int .i64 l.next, .bool false, .string ByteArray.empty], BxC b_l 47 (cEref22_Link l v1), SlC NS v1 l.queue] := H
  refine p_then (wp_seq ?_)
  refine wp_seq (f_region Z ?_); clear Z; intro Z
  refine s_runk tLink0 Z 1 rfl rfl ?_; clear Z a; intro a Z
  refine s_end Z [0, 1, 4, 5, 6, 7] rfl ?_; clear Z; intro Z
  refine p_then (wp_block ?_)
  replace H : Hf I D w I1 w1 [OwC NESeg 31 (.slice none 0 0) ([] : List ESeg), BxC (blkOf (vals1 25)) 31 [.int .i64 l.boot, .int .i64 l.stream, .int .i64 l.first, .int .i64 l.peer, .int .i64 l.in0, .int .i64 l.next, .bool false, .string ByteArray.empty], BxC b_l 47 (cEref22_Link l v1), SlC NS v1 l.queue] := H.nilow NESeg 31
  refine f_iter hF (fun sg a' w' => match sg with | (out, i) => ∃ v2 : Value, Sl 108 [(0, .pointer (some ⟨b_l, 0, none⟩)), (1, .bool again), (4, .slice none 0 0), (5, v2), (6, .pointer (some ⟨blkOf (vals1 25), 0, none⟩)), (7, .int .i64 i)] a' ∧ ∃ I2, Hf I D w I2 w' [BxC b_l 47 (cEref22_Link l v1), BxC (blkOf (vals1 25)) 31 [.int .i64 l.boot, .int .i64 l.stream, .int .i64 l.first, .int .i64 l.peer, .int .i64 l.in0, .int .i64 l.next, .bool false, .string ByteArray.empty], SlC NS v1 l.queue, OwC NESeg 31 v2 out]) ⟨.slice none 0 0, Z.sub (ts := [0, 1, 4, 5, 6, 7]) rfl, ⟨I1, (H.sub [(2, false), (1, false), (1, true), (0, false)] rfl).eq rfl⟩⟩ ?_
  clear Z H hF a
  rintro rc ⟨out, i⟩ a w2 ⟨v2, Z, I2, H⟩ hF
  unfold F_ref22_Link_Out_l1 at hF
  try dsimp only at hF
  refine wp_seq ?_
  refine wp_seq (f_region Z ?_); clear Z; intro Z
  refine s_runk tLink0 Z 4 rfl rfl ?_; clear Z a; intro a Z
  refine s_ob Z (v := v1) rfl rfl (by decide) rfl (Ob_load tLink0 rfl rfl rfl ((H.bx 0 rfl).cell 3 rfl)) ?_; clear Z a; intro a Z
  refine s_ob Z (v := .int .i64 (l.queue.length : Int)) rfl rfl (by decide) rfl (Ob_slen tLink0 rfl rfl rfl (H.slshape 2 rfl)) ?_; clear Z a; intro a Z
  refine s_runk tLink0 Z 2 rfl rfl ?_; clear Z a; intro a Z
  refine g_ob Z (p := (decide (i < (l.queue.length : Int)))) (v := .int .i64 i) (S' := [(7, .int .i64 i)]) rfl rfl rfl (wantB_t _) rfl (by decide) (fun hp hS => hS.sub (ts := [7]) rfl) (fun hp => Ob_c tLink0 rfl) ?_; clear Z a; intro a Z
  refine g_ob Z (p := (decide (i < (l.queue.length : Int)))) (v := .bool (decide (i < 4))) (S' := [(42, .int .i64 i)]) rfl rfl rfl (wantB_t _) rfl (by decide) (fun hp hS => (hS.conv (t := 42) rfl (cond_t hp)).sub (ts := [42]) rfl) (fun hp => Ob_c tLink0 rfl) ?_; clear Z a; intro a Z
  refine s_ob Z (v := .bool ((decide (i < (l.queue.length : Int))) && (decide (i < 4)))) rfl rfl (by decide) rfl (Ob_pick rfl rfl rfl rfl (pick_and _ _)) ?_; clear Z a; intro a Z
  refine s_end Z [0, 1, 4, 5, 6, 7, 34, 35, 36, 37, 38, 39, 40, 41, 44] rfl ?_; clear Z; intro Z
  refine p_then ?_
  refine f_cond Z rfl (fun hc1 => ?_) (fun hc1 => ?_)
  ·replace hF := ite_t hc1 hF
   refine wp_skip ?_
   refine p_then ?_
   refine f_cut (fun a' w' => ∃ (out_2 : List ESeg), ∃ v3 : Value, Sl 108 [(0, .pointer (some ⟨b_l, 0, none⟩)), (1, .bool again), (4, .slice none 0 0), (5, v3), (6, .pointer (some ⟨blkOf (vals1 25), 0, none⟩)), (7, .int .i64 i), (34, .int .i64 i), (35, .pointer (some ⟨b_l, 0, none⟩)), (36, .pointer (some ⟨b_l, 0, none⟩)), (37, .pointer (some ⟨b_l, 3, none⟩)), (38, v1), (39, .int .i64 (l.queue.length : Int)), (40, .bool (decide (i < (l.queue.length : Int)))), (41, .bool (decide (i < (l.queue.length : Int)))), (44, .bool ((decide (i < (l.queue.length : Int))) && (decide (i < 4)))), (47, .bool again), (48, .bool again), (55, .bool (again || (decide (i ≥ l.told))))] a' ∧ (∃ I2, Hf I D w I2 w' [BxC b_l 47 (cEref22_Link l v1), BxC (blkOf (vals1 25)) 31 [.int .i64 l.boot, .int .i64 l.stream, .int .i64 l.first, .int .i64 l.peer, .int .i64 l.in0, .int .i64 l.next, .bool false, .string ByteArray.empty], SlC NS v1 l.queue, OwC NESeg 31 v3 out_2]) ∧ F_ref22_Link_Out_k2 i rc out_2 = some rr) ?_ ?_
   ·rintro a w3 ⟨out_2, v3, Z, ⟨I3, H⟩, hF⟩
    unfold F_ref22_Link_Out_k2 at hF
    try dsimp only at hF
    obtain ⟨hg1, hF⟩ := chk_in hF
    refine f_region Z ?_; clear Z; intro Z
    refine s_runk tLink0 Z 1 rfl rfl ?_; clear Z a; intro a Z
    refine s_ob Z (v := .int .i64 (i + 1)) rfl rfl (by decide) rfl (Ob_add rfl rfl rfl (wrI hg1)) ?_; clear Z a; intro a Z
    refine s_runk tLink0 Z 1 rfl rfl ?_; clear Z a; intro a Z
    refine s_end Z [0, 1, 4, 5, 6, 7, 34, 35, 36, 37, 38, 39, 40, 41, 44, 47, 48, 55, 45, 46] rfl ?_; clear Z; intro Z
    refine p_then ?_
    exact ⟨(out_2, i + 1), ⟨v3, Z.sub (ts := [0, 1, 4, 5, 6, 7]) rfl, ⟨I3, (H.sub [(0, false), (0, false), (0, true), (1, false)] rfl).eq rfl⟩⟩, hF⟩
   ·skip
    refine wp_block ?_
    refine wp_seq (f_region Z ?_); clear Z; intro Z
    refine s_runk tLink0 Z 2 rfl rfl ?_; clear Z a; intro a Z
    refine g_ob Z (p := (!again)) (v := .int .i64 i) (S' := [(7, .int .i64 i)]) rfl rfl rfl (wantB_f _) rfl (by decide) (fun hp hS => hS.sub (ts := [7]) rfl) (fun hp => Ob_c tLink0 rfl) ?_; clear Z a; intro a Z
    refine g_ob Z (p := (!again)) (v := .pointer (some ⟨b_l, 0, none⟩)) (S' := [(0, .pointer (some ⟨b_l, 0, none⟩))]) rfl rfl rfl (wantB_f _) rfl (by decide) (fun hp hS => hS.sub (ts := [0]) rfl) (fun hp => Ob_c tLink0 rfl) ?_; clear Z a; intro a Z
    refine g_ob Z (p := (!again)) (v := .pointer (some ⟨b_l, 0, none⟩)) (S' := [(50, .pointer (some ⟨b_l, 0, none⟩))]) rfl rfl rfl (wantB_f _) rfl (by decide) (fun hp hS => (hS.conv (t := 50) rfl (cond_t hp)).sub (ts := [50]) rfl) (fun hp => Ob_c tLink0 rfl) ?_; clear Z a; intro a Z
    refine g_ob Z (p := (!again)) (v := .pointer (some ⟨b_l, 4, none⟩)) (S' := [(51, .pointer (some ⟨b_l, 0, none⟩))]) rfl rfl rfl (wantB_f _) rfl (by decide) (fun hp hS => (hS.conv (t := 51) rfl (cond_t hp)).sub (ts := [51]) rfl) (fun hp => Ob_c tLink0 rfl) ?_; clear Z a; intro a Z
    refine g_ob Z (p := (!again)) (v := .int .i64 l.told) (S' := [(52, .pointer (some ⟨b_l, 4, none⟩))]) rfl rfl rfl (wantB_f _) rfl (by decide) (fun hp hS => (hS.conv (t := 52) rfl (cond_t hp)).sub (ts := [52]) rfl) (fun hp => Ob_load tLink0 rfl rfl rfl ((H.bx 0 rfl).cell 4 rfl)) ?_; clear Z a; intro a Z
    refine g_ob Z (p := (!again)) (v := .bool (decide (i ≥ l.told))) (S' := [(49, .int .i64 i), (53, .int .i64 l.told)]) rfl rfl rfl (wantB_f _) rfl (by decide) (fun hp hS => ((hS.conv (t := 49) rfl (cond_t hp)).conv (t := 53) rfl (cond_t hp)).sub (ts := [49, 53]) rfl) (fun hp => Ob_c tLink0 rfl) ?_; clear Z a; intro a Z
    refine s_ob Z (v := .bool (again || (decide (i ≥ l.told)))) rfl rfl (by decide) rfl (Ob_pick rfl rfl rfl rfl (pick_or _ _)) ?_; clear Z a; intro a Z
    refine s_end Z [0, 1, 4, 5, 6, 7, 34, 35, 36, 37, 38, 39, 40, 41, 44, 47, 48, 55] rfl ?_; clear Z; intro Z
    refine p_then ?_
    refine f_cond Z rfl (fun hc2 => ?_) (fun hc2 => ?_)
    ·replace hF := ite_t hc2 hF
     refine wp_seq (f_region Z ?_); clear Z; intro Z
     refine s_ob Z (v := .agg #[.int .i64 l.boot, .int .i64 l.stream, .int .i64 l.first, .int .i64 l.peer, .int .i64 l.in0, .int .i64 l.next, .bool false, .string ByteArray.empty]) rfl rfl (by decide) rfl (Ob_loads tLink0 rfl rfl rfl ((H.bx 1 rfl).part 0 rfl)) ?_; clear Z a; intro a Z
     refine h_alloc Z H (cl := [.int .i64 0, .int .i64 0, .int .i64 0, .int .i64 0, .int .i64 0, .int .i64 0, .bool false, .string ByteArray.empty]) (z := .agg #[.int .i64 0, .int .i64 0, .int .i64 0, .int .i64 0, .int .i64 0, .int .i64 0, .bool false, .string ByteArray.empty]) rfl rfl rfl (by decide) rfl (by kernel_rfl) rfl ?_; clear Z a H; intro a w4 b1 H Z
     refine h_store tLink0 Z H 0 rfl rfl rfl rfl rfl rfl rfl rfl rfl (one_cons rfl (one_cons rfl (one_cons rfl (one_cons rfl (one_cons rfl (one_cons rfl (one_cons rfl (one_cons rfl one_nil)))))))) (Nat.le_of_ble_eq_true rfl) rfl ?_; clear H; intro w5 H
     dsimp only [List.eraseIdx] at H
     refine s_end Z [0, 1, 4, 5, 6, 7, 34, 35, 36, 37, 38, 39, 40, 41, 44, 47, 48, 55, 56, 8] rfl ?_; clear Z; intro Z
     refine p_then (wp_seq ?_)
     obtain ⟨hg2, hF⟩ := chk_in hF
     refine f_region Z ?_; clear Z; intro Z
     refine s_runk tLink0 Z 3 rfl rfl ?_; clear Z a; intro a Z
     refine s_ob Z (v := .int .i64 l.first) rfl rfl (by decide) rfl (Ob_load tLink0 rfl rfl rfl ((H.bx 1 rfl).cell 2 rfl)) ?_; clear Z a; intro a Z
     refine s_runk tLink0 Z 1 rfl rfl ?_; clear Z a; intro a Z
     refine s_ob Z (v := .int .i64 (l.first + i)) rfl rfl (by decide) rfl (Ob_add rfl rfl rfl (wrI hg2)) ?_; clear Z a; intro a Z
     refine s_runk tLink0 Z 1 rfl rfl ?_; clear Z a; intro a Z
     refine h_store tLink0 Z H 0 rfl rfl rfl rfl rfl rfl rfl rfl rfl (one_cons rfl one_nil) (Nat.le_of_ble_eq_true rfl) rfl ?_; clear H; intro w6 H
     dsimp only [List.eraseIdx] at H
     refine s_end Z [0, 1, 4, 5, 6, 7, 34, 35, 36, 37, 38, 39, 40, 41, 44, 47, 48, 55, 56, 8, 57, 58, 59, 60, 61, 62, 63] rfl ?_; clear Z; intro Z
     refine p_then (wp_seq (f_region Z ?_)); clear Z; intro Z
     refine s_runk tLink0 Z 1 rfl rfl ?_; clear Z a; intro a Z
     refine h_store tLink0 Z H 0 rfl rfl rfl rfl rfl rfl rfl rfl rfl (one_cons rfl one_nil) (Nat.le_of_ble_eq_true rfl) rfl ?_; clear H; intro w7 H
     dsimp only [List.eraseIdx] at H
     refine s_end Z [0, 1, 4, 5, 6, 7, 34, 35, 36, 37, 38, 39, 40, 41, 44, 47, 48, 55, 56, 8, 57, 58, 59, 60, 61, 62, 63, 64] rfl ?_; clear Z; intro Z
     refine p_then (wp_seq ?_)
     obtain ⟨hg3, hF⟩ := chk_in hF
     refine f_region Z ?_; clear Z; intro Z
     refine s_runk tLink0 Z 3 rfl rfl ?_; clear Z a; intro a Z
     refine s_ob Z (v := v1) rfl rfl (by decide) rfl (Ob_load tLink0 rfl rfl rfl ((H.bx 1 rfl).cell 3 rfl)) ?_; clear Z a; intro a Z
     refine s_runk tLink0 Z 1 rfl rfl ?_; clear Z a; intro a Z
     refine s_ob Z (v := .pointer (some ⟨blkOf v1, oofOf v1 + (i).toNat * 1, none⟩)) rfl rfl (by decide) rfl (Ob_sidx tLink0 rfl rfl rfl rfl (slPl (H.sl 3 rfl) hg3) hg3) ?_; clear Z a; intro a Z
     refine s_ob Z (v := .string (l.queue.getD (i).toNat default)) rfl rfl (by decide) rfl (Ob_load tLink0 rfl rfl rfl ((slFl (H.sl 3 rfl) hg3) 0 _ rfl)) ?_; clear Z a; intro a Z
     refine s_runk tLink0 Z 1 rfl rfl ?_; clear Z a; intro a Z
     refine h_store tLink0 Z H 0 rfl rfl rfl rfl rfl rfl rfl rfl rfl (one_cons rfl one_nil) (Nat.le_of_ble_eq_true rfl) rfl ?_; clear H; intro w8 H
     dsimp only [List.eraseIdx] at H
     refine s_end Z [0, 1, 4, 5, 6, 7, 34, 35, 36, 37, 38, 39, 40, 41, 44, 47, 48, 55, 56, 8, 57, 58, 59, 60, 61, 62, 63, 64, 65, 66, 67, 68, 69, 70, 71, 72] rfl ?_; clear Z; intro Z
     refine p_then ?_
     obtain ⟨hg4, hF⟩ := chk_in hF
     refine f_region Z ?_; clear Z; intro Z
     refine s_runk tLink0 Z 1 rfl rfl ?_; clear Z a; intro a Z
     refine s_ob Z (v := .agg #[.int .i64 l.boot, .int .i64 l.stream, .int .i64 (l.first + i), .int .i64 l.peer, .int .i64 l.in0, .int .i64 l.next, .bool true, .string (l.queue.getD (i).toNat default)]) rfl rfl (by decide) rfl (Ob_loads tLink0 rfl rfl rfl ((H.bx 0 rfl).part 0 rfl)) ?_; clear Z a; intro a Z
     refine h_bslice Z H (vs := [(0, .agg #[.int .i64 l.boot, .int .i64 l.stream, .int .i64 (l.first + i), .int .i64 l.peer, .int .i64 l.in0, .int .i64 l.next, .bool true, .string (l.queue.getD (i).toNat default)])]) (cl := [.int .i64 l.boot, .int .i64 l.stream, .int .i64 (l.first + i), .int .i64 l.peer, .int .i64 l.in0, .int .i64 l.next, .bool true, .string (l.queue.getD (i).toNat default)]) (e := 31) rfl rfl rfl (by decide) rfl rfl (fun w => run_bslice (z := .agg #[.int .i64 0, .int .i64 0, .int .i64 0, .int .i64 0, .int .i64 0, .int .i64 0, .bool false, .string ByteArray.empty]) (m := 8) Try.underlying37 (by kernel_rfl) rfl rfl (by decide) (by simp [Instr.fill, Value.cells]) w) ?_; clear Z a H; intro a w9 b2 H Z
     refine h_appO Z H 5 E_37_YLink0 [({ boot := l.boot, stream := l.stream, seq := l.first + i, ackBoot := l.peer, ackStream := l.in0, ackSeq := l.next, has := true, body := (l.queue.getD (i).toNat default) } : ESeg)] rfl rfl rfl rfl rfl (by decide) rfl rfl rfl (slRep2.box1 (H.bx 0 rfl) ⟨rfl, trivial⟩) hg4 (by decide) ?_; clear Z a H; intro v4 a w10 H Z
     dsimp only [List.eraseIdx] at H
     replace H : Hf I D w I2 w10 [OwC NESeg 31 v4 (out ++ [({ boot := l.boot, stream := l.stream, seq := l.first + i, ackBoot := l.peer, ackStream := l.in0, ackSeq := l.next, has := true, body := (l.queue.getD (i).toNat default) } : ESeg)]), BxC b1 31 [.int .i64 l.boot, .int .i64 l.stream, .int .i64 (l.first + i), .int .i64 l.peer, .int .i64 l.in0, .int .i64 l.next, .bool true, .string (l.queue.getD (i).toNat default)], BxC b_l 47 (cEref22_Link l v1), BxC (blkOf (vals1 25)) 31 [.int .i64 l.boot, .int .i64 l.stream, .int .i64 l.first, .int .i64 l.peer, .int .i64 l.in0, .int .i64 l.next, .bool false, .string ByteArray.empty], SlC NS v1 l.queue] := H.sub [(0, false), (1, false), (1, false), (1, false), (1, true)] rfl
     refine s_runk tLink0 Z 1 rfl rfl ?_; clear Z a; intro a Z
     refine s_end Z [0, 1, 4, 5, 6, 7, 34, 35, 36, 37, 38, 39, 40, 41, 44, 47, 48, 55, 56, 8, 57, 58, 59, 60, 61, 62, 63, 64, 65, 66, 67, 68, 69, 70, 71, 72, 73, 74, 75, 76] rfl ?_; clear Z; intro Z
     refine p_blk ?_
     refine p_then ?_
     exact ⟨out ++ [({ boot := l.boot, stream := l.stream, seq := l.first + i, ackBoot := l.peer, ackStream := l.in0, ackSeq := l.next, has := true, body := (l.queue.getD (i).toNat default) } : ESeg)], v4, Z.sub (ts := [0, 1, 4, 5, 6, 7, 34, 35, 36, 37, 38, 39, 40, 41, 44, 47, 48, 55]) rfl, ⟨I2, (H.sub [(2, false), (2, false), (2, true), (0, false)] rfl).eq rfl⟩, hF⟩
    ·replace hF := ite_f hc2 hF
     refine wp_skip ?_
     refine p_blk ?_
     refine p_then ?_
     exact ⟨out, v2, Z.sub (ts := [0, 1, 4, 5, 6, 7, 34, 35, 36, 37, 38, 39, 40, 41, 44, 47, 48, 55]) rfl, ⟨I2, (H.sub [(0, false), (0, false), (0, true), (1, false)] rfl).eq rfl⟩, hF⟩
  ·replace hF := ite_f hc1 hF
   refine wp_exit ?_
   refine p_then_x ?_
   refine p_then_x ?_
   refine f_exit_here ?_
   refine p_then ?_
   refine f_cut (fun a' w' => ∃ (out_3 : List ESeg), ∃ v5 : Value, Sl 108 [(0, .pointer (some ⟨b_l, 0, none⟩)), (4, .slice none 0 0), (5, v5)] a' ∧ (∃ I2, Hf I D w I2 w' [BxC b_l 47 (cEref22_Link l v1), SlC NS v1 l.queue, OwC NESeg 31 v5 out_3]) ∧ F_ref22_Link_Out_k3 l out_3 = some rr) ?_ ?_
   ·rintro a w11 ⟨out_3, v5, Z, ⟨I4, H⟩, hF⟩
    unfold F_ref22_Link_Out_k3 at hF
    try dsimp only at hF
    refine wp_seq (f_region Z ?_); clear Z; intro Z
    refine s_runk tLink0 Z 3 rfl rfl ?_; clear Z a; intro a Z
    refine h_store tLink0 Z H 0 rfl rfl rfl rfl rfl rfl rfl rfl rfl (one_cons rfl one_nil) (Nat.le_of_ble_eq_true rfl) rfl ?_; clear H; intro w12 H
    dsimp only [List.eraseIdx] at H
    refine s_end Z [0, 4, 5] rfl ?_; clear Z; intro Z
    refine p_then (wp_seq ?_)
    refine f_quietS 12 (by kernel_rfl) (by kernel_rfl) (by kernel_rfl) (by kernel_rfl) (by kernel_rfl) Z ?_; clear Z; intro Z
    refine q_runk tLink0 Z 4 rfl rfl ?_; clear Z a; intro a Z
    refine q_ob Z (v := .int .i64 l.told) rfl rfl (by decide) rfl (fun _ hw => Ob_load tLink0 rfl rfl rfl (((H.blw hw).bx 0 rfl).cell 4 rfl)) ?_; clear Z a; intro a Z
    refine q_runk tLink0 Z 3 rfl rfl ?_; clear Z a; intro a Z
    refine q_ob Z (v := v1) rfl rfl (by decide) rfl (fun _ hw => Ob_load tLink0 rfl rfl rfl (((H.blw hw).bx 0 rfl).cell 3 rfl)) ?_; clear Z a; intro a Z
    refine q_ob Z (v := .int .i64 (l.queue.length : Int)) rfl rfl (by decide) rfl (fun _ hw => Ob_slen tLink0 rfl rfl rfl ((H.blw hw).slshape 1 rfl)) ?_; clear Z a; intro a Z
    refine q_runk tLink0 Z 2 rfl rfl ?_; clear Z a; intro a Z
    refine q_endS Z [0, 4, 5, 93, 94, 95, 96, 97, 98, 99, 100, 101, 102, 103, 104] rfl ?_; clear Z; intro w13 hb Z
    replace H : Hf I D w I4 w13 [BxC b_l 47 [.int .i64 l.boot, .int .i64 l.stream, .int .i64 l.first, v1, .int .i64 l.told, .int .i64 l.peer, .int .i64 l.in0, .int .i64 l.next, .bool false], SlC NS v1 l.queue, OwC NESeg 31 v5 out_3] := H.blw hb
    clear hb
    refine s_runk tLink0 Z 2 rfl rfl ?_; clear Z a; intro a Z
    refine h_store tLink0 Z H 0 rfl rfl rfl rfl rfl rfl rfl rfl rfl (one_cons rfl one_nil) (Nat.le_of_ble_eq_true rfl) rfl ?_; clear H; intro w14 H
    dsimp only [List.eraseIdx] at H
    refine s_end Z [4, 5] rfl ?_; clear Z; intro Z
    refine p_then (wp_seq (f_region Z ?_)); clear Z; intro Z
    refine s_runk tLink0 Z 2 rfl rfl ?_; clear Z a; intro a Z
    refine s_end Z [4] rfl ?_; clear Z; intro Z
    refine p_then (wp_ret ?_)
    obtain ⟨I5, _, H⟩ := H.frzow 2 rfl
    replace H : Hf I D w I5 w14 [SlC NESeg v5 out_3, BxC b_l 47 [.int .i64 l.boot, .int .i64 l.stream, .int .i64 l.first, v1, .int .i64 (max l.told (min (l.queue.length : Int) 4)), .int .i64 l.peer, .int .i64 l.in0, .int .i64 l.next, .bool false], SlC NS v1 l.queue] := H
    replace H : Hf I D w I5 w14 [OEref22_Link b_l ({ l with told := max l.told (min (l.queue.length : Int) 4), owes := false } : Eref22_Link), SlC NESeg v5 out_3, SlC NS v1 l.queue] := H.shutX (v1) [(1, false), (1, true)] rfl
    obtain rfl := some_in hF
    exact f_ret Z (run_results1 rfl Z rfl) ⟨v5, rfl, I5, (H.sub [(0, false), (0, true)] rfl).eq rfl⟩
   ·skip
    refine wp_seq (f_region Z ?_); clear Z; intro Z
    refine s_runk tLink0 Z 1 rfl rfl ?_; clear Z a; intro a Z
    refine s_ob Z (v := .int .i64 (out.length : Int)) rfl rfl (by decide) rfl (Ob_slen tLink0 rfl rfl rfl (H.owshape 3 rfl)) ?_; clear Z a; intro a Z
    refine s_runk tLink0 Z 2 rfl rfl ?_; clear Z a; intro a Z
    refine g_ob Z (p := ((out.length : Int) == 0)) (v := .pointer (some ⟨b_l, 0, none⟩)) (S' := [(0, .pointer (some ⟨b_l, 0, none⟩))]) rfl rfl rfl (wantB_t _) rfl (by decide) (fun hp hS => hS.sub (ts := [0]) rfl) (fun hp => Ob_c tLink0 rfl) ?_; clear Z a; intro a Z
    refine g_ob Z (p := ((out.length : Int) == 0)) (v := .pointer (some ⟨b_l, 0, none⟩)) (S' := [(81, .pointer (some ⟨b_l, 0, none⟩))]) rfl rfl rfl (wantB_t _) rfl (by decide) (fun hp hS => (hS.conv (t := 81) rfl (cond_t hp)).sub (ts := [81]) rfl) (fun hp => Ob_c tLink0 rfl) ?_; clear Z a; intro a Z
    refine g_ob Z (p := ((out.length : Int) == 0)) (v := .pointer (some ⟨b_l, 8, none⟩)) (S' := [(82, .pointer (some ⟨b_l, 0, none⟩))]) rfl rfl rfl (wantB_t _) rfl (by decide) (fun hp hS => (hS.conv (t := 82) rfl (cond_t hp)).sub (ts := [82]) rfl) (fun hp => Ob_c tLink0 rfl) ?_; clear Z a; intro a Z
    refine g_ob Z (p := ((out.length : Int) == 0)) (v := .bool l.owes) (S' := [(83, .pointer (some ⟨b_l, 8, none⟩))]) rfl rfl rfl (wantB_t _) rfl (by decide) (fun hp hS => (hS.conv (t := 83) rfl (cond_t hp)).sub (ts := [83]) rfl) (fun hp => Ob_load tLink0 rfl rfl rfl ((H.bx 0 rfl).cell 8 rfl)) ?_; clear Z a; intro a Z
    refine s_ob Z (v := .bool (((out.length : Int) == 0) && l.owes)) rfl rfl (by decide) rfl (Ob_pick rfl rfl rfl rfl (pick_and _ _)) ?_; clear Z a; intro a Z
    refine s_end Z [0, 4, 5, 6, 85] rfl ?_; clear Z; intro Z
    refine p_then ?_
    refine f_cond Z rfl (fun hc3 => ?_) (fun hc3 => ?_)
    ·replace hF := ite_t hc3 hF
     obtain ⟨hg5, hF⟩ := chk_in hF
     refine f_region Z ?_; clear Z; intro Z
     refine s_runk tLink0 Z 1 rfl rfl ?_; clear Z a; intro a Z
     refine s_ob Z (v := .agg #[.int .i64 l.boot, .int .i64 l.stream, .int .i64 l.first, .int .i64 l.peer, .int .i64 l.in0, .int .i64 l.next, .bool false, .string ByteArray.empty]) rfl rfl (by decide) rfl (Ob_loads tLink0 rfl rfl rfl ((H.bx 1 rfl).part 0 rfl)) ?_; clear Z a; intro a Z
     refine h_bslice Z H (vs := [(0, .agg #[.int .i64 l.boot, .int .i64 l.stream, .int .i64 l.first, .int .i64 l.peer, .int .i64 l.in0, .int .i64 l.next, .bool false, .string ByteArray.empty])]) (cl := [.int .i64 l.boot, .int .i64 l.stream, .int .i64 l.first, .int .i64 l.peer, .int .i64 l.in0, .int .i64 l.next, .bool false, .string ByteArray.empty]) (e := 31) rfl rfl rfl (by decide) rfl rfl (fun w => run_bslice (z := .agg #[.int .i64 0, .int .i64 0, .int .i64 0, .int .i64 0, .int .i64 0, .int .i64 0, .bool false, .string ByteArray.empty]) (m := 8) Try.underlying37 (by kernel_rfl) rfl rfl (by decide) (by simp [Instr.fill, Value.cells]) w) ?_; clear Z a H; intro a w15 b3 H Z
     refine h_appO Z H 4 E_37_YLink0 [({ (default : ESeg) with boot := l.boot, stream := l.stream, seq := l.first, ackBoot := l.peer, ackStream := l.in0, ackSeq := l.next } : ESeg)] rfl rfl rfl rfl rfl (by decide) rfl rfl rfl (slRep2.box1 (H.bx 0 rfl) ⟨rfl, trivial⟩) hg5 (by decide) ?_; clear Z a H; intro v6 a w16 H Z
     dsimp only [List.eraseIdx] at H
     replace H : Hf I D w I2 w16 [OwC NESeg 31 v6 (out ++ [({ (default : ESeg) with boot := l.boot, stream := l.stream, seq := l.first, ackBoot := l.peer, ackStream := l.in0, ackSeq := l.next } : ESeg)]), BxC b_l 47 (cEref22_Link l v1), BxC (blkOf (vals1 25)) 31 [.int .i64 l.boot, .int .i64 l.stream, .int .i64 l.first, .int .i64 l.peer, .int .i64 l.in0, .int .i64 l.next, .bool false, .string ByteArray.empty], SlC NS v1 l.queue] := H.sub [(0, false), (1, false), (1, false), (1, true)] rfl
     refine s_runk tLink0 Z 1 rfl rfl ?_; clear Z a; intro a Z
     refine s_end Z [0, 4, 5] rfl ?_; clear Z; intro Z
     refine p_then ?_
     exact ⟨out ++ [({ (default : ESeg) with boot := l.boot, stream := l.stream, seq := l.first, ackBoot := l.peer, ackStream := l.in0, ackSeq := l.next } : ESeg)], v6, Z.sub (ts := [0, 4, 5]) rfl, ⟨I2, (H.sub [(1, false), (2, true), (0, false)] rfl).eq rfl⟩, hF⟩
    ·replace hF := ite_f hc3 hF
     refine wp_skip ?_
     refine p_then ?_
     exact ⟨out, v2, Z.sub (ts := [0, 4, 5]) rfl, ⟨I2, (H.sub [(0, false), (1, true), (2, false)] rfl).eq rfl⟩, hF⟩

def F_ref22_Link_In_l2 (s0 : ESeg) (rc_2 : Eref22_Link → Option ((List ByteArray) × Int × Eref22_Link)) (sg : Eref22_Link) : Option ((List ByteArray) × Int × Eref22_Link) := match sg with | l_2 => if ((((s0.ackBoot == l_2.boot) && (s0.ackStream == l_2.stream)) && (decide ((l_2.queue.length : Int) > 0))) && (decide (l_2.first < s0.ackSeq))) = true then (chk ((0 : Int) ≤ 1 ∧ 1 ≤ (l_2.queue.length : Int)) (chk (((([] : List ByteArray).length + (l_2.queue.drop ((1 : Int).toNat)).length : Nat) : Int) * 16 ≤ 140737488355328) (chk (inI (l_2.first + 1)) (chk (inI (l_2.told - 1)) (rc_2 ({ l_2 with first := l_2.first + 1, queue := [] ++ (l_2.queue.drop ((1 : Int).toNat)), told := max (l_2.told - 1) 0 } : Eref22_Link)))))) else (if (!s0.has) = true then (some (([] : List ByteArray), 0, l_2)) else (if (((s0.ackBoot == l_2.boot) && (s0.stream == l_2.in0)) && (s0.seq == l_2.next)) = true then (chk (inI (l_2.next + 1)) (some ([s0.body], 0, ({ l_2 with next := l_2.next + 1, owes := true } : Eref22_Link)))) else (some (([] : List ByteArray), 0, ({ l_2 with owes := true } : Eref22_Link)))))

def F_ref22_Link_In_l1 (l : Eref22_Link) (s0 : ESeg) (rc : Int → Option ((List ByteArray) × Int × Eref22_Link)) (sg : Int) : Option ((List ByteArray) × Int × Eref22_Link) := match sg with | i => if (decide (i < 6)) = true then (chk ((0 : Int) ≤ i ∧ i < ([s0.boot, s0.stream, s0.seq, s0.ackBoot, s0.ackStream, s0.ackSeq].length : Int)) (chk ((!(decide (([s0.boot, s0.stream, s0.seq, s0.ackBoot, s0.ackStream, s0.ackSeq].getD (i).toNat default) < 0))) = true → (0 : Int) ≤ i ∧ i < ([s0.boot, s0.stream, s0.seq, s0.ackBoot, s0.ackStream, s0.ackSeq].length : Int)) (if ((decide (([s0.boot, s0.stream, s0.seq, s0.ackBoot, s0.ackStream, s0.ackSeq].getD (i).toNat default) < 0)) || (decide (([s0.boot, s0.stream, s0.seq, s0.ackBoot, s0.ackStream, s0.ackSeq].getD (i).toNat default) > 1073741824))) = true then (some (([] : List ByteArray), 1, l)) else (chk (inI (i + 1)) (rc (i + 1)))))) else (if (s0.boot == 0) = true then (some (([] : List ByteArray), 1, l)) else (if (decide (s0.boot < l.peer)) = true then (some (([] : List ByteArray), 0, l)) else ((F_ref22_Link_known l s0).bind fun k => (iter (F_ref22_Link_In_l2 s0) FU k))))

def F_ref22_Link_In (l : Eref22_Link) (s0 : ESeg) : Option ((List ByteArray) × Int × Eref22_Link) := iter (F_ref22_Link_In_l1 l s0) FU 0

set_option maxHeartbeats 1000000 in
theorem c_ref22_Link_In {I D : Dm} {b_l : Nat} {l : Eref22_Link} {s0 : ESeg} {w : World} {rr : (List ByteArray) × Int × Eref22_Link} (hF : F_ref22_Link_In l s0 = some rr) (H : St I D w [OEref22_Link b_l l]) :
  Calls Try.prog 16 #[.pointer (some ⟨b_l, 0, none⟩), .agg #[.int .i64 s0.boot, .int .i64 s0.stream, .int .i64 s0.seq, .int .i64 s0.ackBoot, .int .i64 s0.ackStream, .int .i64 s0.ackSeq, .bool s0.has, .string s0.body]] w (Ret fun vv w' => ∃ q1 : Value, vv = .tuple #[q1, .int .i64 rr.2.1] ∧ ∃ I', Hf I D w I' w' [OEref22_Link b_l rr.2.2, SlC NS q1 rr.1]) := by
 replace H := H.hf
 unfold F_ref22_Link_In at hF
 refine f_enter 152 Try.func16 rfl rfl (Nat.le_of_ble_eq_true rfl) fun a Z => ?_
 replace Z := Z.sub (ts := [0, 1]) rfl
 refine wp_seq (f_region Z ?_); clear Z; intro Z
 refine h_boxv Z H (cl := [.int .i64 s0.boot, .int .i64 s0.stream, .int .i64 s0.seq, .int .i64 s0.ackBoot, .int .i64 s0.ackStream, .int .i64 s0.ackSeq, .bool s0.has, .string s0.body]) rfl rfl rfl (by decide) rfl rfl rfl ?_; clear Z a H; intro a w1 b1 H Z
 refine s_runk tLink0 Z 2 rfl rfl ?_; clear Z a; intro a Z
 refine s_end Z [0, 3, 4, 5] rfl ?_; clear Z; intro Z
 refine p_then (wp_seq (f_region Z ?_)); clear Z; intro Z
 refine s_runk tLink0 Z 1 rfl rfl ?_; clear Z a; intro a Z
 refine s_ob Z (v := .int .i64 s0.boot) rfl rfl (by decide) rfl (Ob_load tLink0 rfl rfl rfl ((H.bx 0 rfl).cell 0 rfl)) ?_; clear Z a; intro a Z
 refine s_runk tLink0 Z 1 rfl rfl ?_; clear Z a; intro a Z
 refine s_ob Z (v := .int .i64 s0.stream) rfl rfl (by decide) rfl (Ob_load tLink0 rfl rfl rfl ((H.bx 0 rfl).cell 1 rfl)) ?_; clear Z a; intro a Z
 refine s_runk tLink0 Z 1 rfl rfl ?_; clear Z a; intro a Z
 refine s_ob Z (v := .int .i64 s0.seq) rfl rfl (by decide) rfl (Ob_load tLink0 rfl rfl rfl ((H.bx 0 rfl).cell 2 rfl)) ?_; clear Z a; intro a Z
 refine s_runk tLink0 Z 1 rfl rfl ?_; clear Z a; intro a Z
 refine s_ob Z (v := .int .i64 s0.ackBoot) rfl rfl (by decide) rfl (Ob_load tLink0 rfl rfl rfl ((H.bx 0 rfl).cell 3 rfl)) ?_; clear Z a; intro a Z
 refine s_runk tLink0 Z 1 rfl rfl ?_; clear Z a; intro a Z
 refine s_ob Z (v := .int .i64 s0.ackStream) rfl rfl (by decide) rfl (Ob_load tLink0 rfl rfl rfl ((H.bx 0 rfl).cell 4 rfl)) ?_; clear Z a; intro a Z
 refine s_runk tLink0 Z 1 rfl rfl ?_; clear Z a; intro a Z
 refine s_ob Z (v := .int .i64 s0.ackSeq) rfl rfl (by decide) rfl (Ob_load tLink0 rfl rfl rfl ((H.bx 0 rfl).cell 5 rfl)) ?_; clear Z a; intro a Z
 refine h_bslice Z H (vs := [(0, .int .i64 s0.boot), (1, .int .i64 s0.stream), (2, .int .i64 s0.seq), (3, .int .i64 s0.ackBoot), (4, .int .i64 s0.ackStream), (5, .int .i64 s0.ackSeq)]) (cl := [.int .i64 s0.boot, .int .i64 s0.stream, .int .i64 s0.seq, .int .i64 s0.ackBoot, .int .i64 s0.ackStream, .int .i64 s0.ackSeq]) (e := 3) rfl rfl rfl (by decide) rfl rfl (fun w => run_bslice (z := .int .i64 0) (m := 1) Try.underlying58 (by kernel_rfl) rfl rfl (by decide) (by simp [Instr.fill, Value.cells]) w) ?_; clear Z a H; intro a w2 b2 H Z
 refine s_runk tLink0 Z 1 rfl rfl ?_; clear Z a; intro a Z
 refine s_end Z [0, 3, 4, 5, 6] rfl ?_; clear Z; intro Z
 refine p_then (wp_seq ?_)
 refine wp_seq (f_region Z ?_); clear Z; intro Z
 refine s_runk tLink0 Z 1 rfl rfl ?_; clear Z a; intro a Z
 refine s_end Z [0, 3, 4, 5, 6, 7] rfl ?_; clear Z; intro Z
 refine p_then (wp_block ?_)
 obtain ⟨I1, _, H⟩ := H.frzlit 0 rfl (R := Ni64) [[.int .i64 s0.boot], [.int .i64 s0.stream], [.int .i64 s0.seq], [.int .i64 s0.ackBoot], [.int .i64 s0.ackStream], [.int .i64 s0.ackSeq]] [s0.boot, s0.stream, s0.seq, s0.ackBoot, s0.ackStream, s0.ackSeq] rfl rfl (fun i h1 h2 => by match i, h1, h2 with | 0, _, _ => exact ⟨rfl, trivial⟩ | 1, _, _ => exact ⟨rfl, trivial⟩ | 2, _, _ => exact ⟨rfl, trivial⟩ | 3, _, _ => exact ⟨rfl, trivial⟩ | 4, _, _ => exact ⟨rfl, trivial⟩ | 5, _, _ => exact ⟨rfl, trivial⟩) (show 6 ≤ maxLen from by decide) (n := 6) rfl
 replace H : Hf I D w I1 w2 [SlC Ni64 (.slice (some ⟨b2, 0, none⟩) 6 6) [s0.boot, s0.stream, s0.seq, s0.ackBoot, s0.ackStream, s0.ackSeq], BxC b1 31 (cESeg s0), OEref22_Link b_l l] := H
 refine f_iter hF (fun sg a' w' => match sg with | i => Sl 152 [(0, .pointer (some ⟨b_l, 0, none⟩)), (3, .pointer (some ⟨b1, 0, none⟩)), (4, .slice none 0 0), (5, .int .i64 0), (6, .slice (some ⟨b2, 0, none⟩) 6 6), (7, .int .i64 i)] a' ∧ ∃ I2, Hf I D w I2 w' [OEref22_Link b_l l, BxC b1 31 (cESeg s0), SlC Ni64 (.slice (some ⟨b2, 0, none⟩) 6 6) [s0.boot, s0.stream, s0.seq, s0.ackBoot, s0.ackStream, s0.ackSeq]]) ⟨Z.sub (ts := [0, 3, 4, 5, 6, 7]) rfl, ⟨I1, (H.sub [(2, false), (1, false), (0, true)] rfl).eq rfl⟩⟩ ?_
 clear Z H hF a
 rintro rc i a w3 ⟨Z, I2, H⟩ hF
 unfold F_ref22_Link_In_l1 at hF
 try dsimp only at hF
 refine wp_seq ?_
 refine wp_seq (f_region Z ?_); clear Z; intro Z
 refine s_runk tLink0 Z 2 rfl rfl ?_; clear Z a; intro a Z
 refine s_ob Z (v := .int .i64 6) rfl rfl (by decide) rfl (Ob_slen tLink0 rfl rfl rfl (H.slshape 2 rfl)) ?_; clear Z a; intro a Z
 refine s_runk tLink0 Z 1 rfl rfl ?_; clear Z a; intro a Z
 refine s_end Z [0, 3, 4, 5, 6, 7, 21, 22, 23, 24] rfl ?_; clear Z; intro Z
 refine p_then ?_
 refine f_cond Z rfl (fun hc1 => ?_) (fun hc1 => ?_)
 ·replace hF := ite_t hc1 hF
  refine wp_skip ?_
  refine p_then (wp_seq ?_)
  refine wp_block ?_
  refine wp_seq ?_
  obtain ⟨hg1, hF⟩ := chk_in hF
  obtain ⟨hg2, hF⟩ := chk_in hF
  refine f_region Z ?_; clear Z; intro Z
  refine s_runk tLink0 Z 2 rfl rfl ?_; clear Z a; intro a Z
  refine s_ob Z (v := .pointer (some ⟨blkOf (.slice (some ⟨b2, 0, none⟩) 6 6), oofOf (.slice (some ⟨b2, 0, none⟩) 6 6) + (i).toNat * 1, none⟩)) rfl rfl (by decide) rfl (Ob_sidx tLink0 rfl rfl rfl rfl (slPl (H.sl 2 rfl) hg1) hg1) ?_; clear Z a; intro a Z
  refine s_ob Z (v := .int .i64 ([s0.boot, s0.stream, s0.seq, s0.ackBoot, s0.ackStream, s0.ackSeq].getD (i).toNat default)) rfl rfl (by decide) rfl (Ob_load tLink0 rfl rfl rfl ((slFl (H.sl 2 rfl) hg1) 0 _ rfl)) ?_; clear Z a; intro a Z
  refine s_runk tLink0 Z 2 rfl rfl ?_; clear Z a; intro a Z
  refine g_ob Z (p := (!(decide (([s0.boot, s0.stream, s0.seq, s0.ackBoot, s0.ackStream, s0.ackSeq].getD (i).toNat default) < 0)))) (v := .slice (some ⟨b2, 0, none⟩) 6 6) (S' := [(6, .slice (some ⟨b2, 0, none⟩) 6 6)]) rfl rfl rfl (wantB_f _) rfl (by decide) (fun hp hS => hS.sub (ts := [6]) rfl) (fun hp => Ob_c tLink0 rfl) ?_; clear Z a; intro a Z
  refine g_ob Z (p := (!(decide (([s0.boot, s0.stream, s0.seq, s0.ackBoot, s0.ackStream, s0.ackSeq].getD (i).toNat default) < 0)))) (v := .int .i64 i) (S' := [(7, .int .i64 i)]) rfl rfl rfl (wantB_f _) rfl (by decide) (fun hp hS => hS.sub (ts := [7]) rfl) (fun hp => Ob_c tLink0 rfl) ?_; clear Z a; intro a Z
  refine g_ob Z (p := (!(decide (([s0.boot, s0.stream, s0.seq, s0.ackBoot, s0.ackStream, s0.ackSeq].getD (i).toNat default) < 0)))) (v := .pointer (some ⟨blkOf (.slice (some ⟨b2, 0, none⟩) 6 6), oofOf (.slice (some ⟨b2, 0, none⟩) 6 6) + (i).toNat * 1, none⟩)) (S' := [(33, .slice (some ⟨b2, 0, none⟩) 6 6), (34, .int .i64 i)]) rfl rfl rfl (wantB_f _) rfl (by decide) (fun hp hS => ((hS.conv (t := 33) rfl (cond_t hp)).conv (t := 34) rfl (cond_t hp)).sub (ts := [33, 34]) rfl) (fun hp => Ob_sidx tLink0 rfl rfl rfl rfl (slPl (H.sl 2 rfl) (hg2 hp)) (hg2 hp)) ?_; clear Z a; intro a Z
  refine g_ob Z (p := (!(decide (([s0.boot, s0.stream, s0.seq, s0.ackBoot, s0.ackStream, s0.ackSeq].getD (i).toNat default) < 0)))) (v := .int .i64 ([s0.boot, s0.stream, s0.seq, s0.ackBoot, s0.ackStream, s0.ackSeq].getD (i).toNat default)) (S' := [(35, .pointer (some ⟨blkOf (.slice (some ⟨b2, 0, none⟩) 6 6), oofOf (.slice (some ⟨b2, 0, none⟩) 6 6) + (i).toNat * 1, none⟩))]) rfl rfl rfl (wantB_f _) rfl (by decide) (fun hp hS => (hS.conv (t := 35) rfl (cond_t hp)).sub (ts := [35]) rfl) (fun hp => Ob_load tLink0 rfl rfl rfl ((slFl (H.sl 2 rfl) (hg2 hp)) 0 _ rfl)) ?_; clear Z a; intro a Z
  refine g_ob Z (p := (!(decide (([s0.boot, s0.stream, s0.seq, s0.ackBoot, s0.ackStream, s0.ackSeq].getD (i).toNat default) < 0)))) (v := .bool (decide (([s0.boot, s0.stream, s0.seq, s0.ackBoot, s0.ackStream, s0.ackSeq].getD (i).toNat default) > 1073741824))) (S' := [(36, .int .i64 ([s0.boot, s0.stream, s0.seq, s0.ackBoot, s0.ackStream, s0.ackSeq].getD (i).toNat default))]) rfl rfl rfl (wantB_f _) rfl (by decide) (fun hp hS => (hS.conv (t := 36) rfl (cond_t hp)).sub (ts := [36]) rfl) (fun hp => Ob_c tLink0 rfl) ?_; clear Z a; intro a Z
  refine s_ob Z (v := .bool ((decide (([s0.boot, s0.stream, s0.seq, s0.ackBoot, s0.ackStream, s0.ackSeq].getD (i).toNat default) < 0)) || (decide (([s0.boot, s0.stream, s0.seq, s0.ackBoot, s0.ackStream, s0.ackSeq].getD (i).toNat default) > 1073741824)))) rfl rfl (by decide) rfl (Ob_pick rfl rfl rfl rfl (pick_or _ _)) ?_; clear Z a; intro a Z
  refine s_end Z [0, 3, 4, 5, 6, 7, 21, 22, 23, 24, 27, 28, 29, 30, 31, 32, 38] rfl ?_; clear Z; intro Z
  refine p_then ?_
  refine f_cond Z rfl (fun hc2 => ?_) (fun hc2 => ?_)
  ·replace hF := ite_t hc2 hF
   refine wp_seq (f_region Z ?_); clear Z; intro Z
   refine s_runk tLink0 Z 2 rfl rfl ?_; clear Z a; intro a Z
   refine s_end Z [0, 3, 4, 5, 6, 7, 21, 22, 23, 24, 27, 28, 29, 30, 31, 32, 38] rfl ?_; clear Z; intro Z
   refine p_then (wp_ret ?_)
   refine p_blk_r ?_
   refine p_then_r ?_
   refine p_then_r ?_
   refine p_blk_r ?_
   refine p_then_r ?_
   replace H : Hf I D w I2 w3 [SlC NS (.slice none 0 0) ([] : List ByteArray), OEref22_Link b_l l, BxC b1 31 (cESeg s0), SlC Ni64 (.slice (some ⟨b2, 0, none⟩) 6 6) [s0.boot, s0.stream, s0.seq, s0.ackBoot, s0.ackStream, s0.ackSeq]] := H.slNil NS
   obtain rfl := some_in hF
   exact f_ret Z (run_results2 rfl Z rfl rfl) ⟨.slice none 0 0, rfl, I2, (H.sub [(1, false), (0, true)] rfl).eq rfl⟩
  ·replace hF := ite_f hc2 hF
   refine wp_skip ?_
   refine p_blk ?_
   refine p_then ?_
   obtain ⟨hg3, hF⟩ := chk_in hF
   refine f_region Z ?_; clear Z; intro Z
   refine s_runk tLink0 Z 1 rfl rfl ?_; clear Z a; intro a Z
   refine s_ob Z (v := .int .i64 (i + 1)) rfl rfl (by decide) rfl (Ob_add rfl rfl rfl (wrI hg3)) ?_; clear Z a; intro a Z
   refine s_runk tLink0 Z 1 rfl rfl ?_; clear Z a; intro a Z
   refine s_end Z [0, 3, 4, 5, 6, 7, 21, 22, 23, 24, 27, 28, 29, 30, 31, 32, 38, 25, 26] rfl ?_; clear Z; intro Z
   refine p_then ?_
   exact ⟨(i + 1), ⟨Z.sub (ts := [0, 3, 4, 5, 6, 7]) rfl, ⟨I2, (H.sub [(0, false), (0, false), (0, true)] rfl).eq rfl⟩⟩, hF⟩
 ·replace hF := ite_f hc1 hF
  refine wp_exit ?_
  refine p_then_x ?_
  refine p_then_x ?_
  refine f_exit_here ?_
  refine p_then (wp_seq ?_)
  refine wp_seq (f_region Z ?_); clear Z; intro Z
  refine s_runk tLink0 Z 1 rfl rfl ?_; clear Z a; intro a Z
  refine s_ob Z (v := .int .i64 s0.boot) rfl rfl (by decide) rfl (Ob_load tLink0 rfl rfl rfl ((H.bx 1 rfl).cell 0 rfl)) ?_; clear Z a; intro a Z
  refine s_runk tLink0 Z 1 rfl rfl ?_; clear Z a; intro a Z
  refine s_end Z [0, 3, 4, 5, 41] rfl ?_; clear Z; intro Z
  refine p_then ?_
  refine f_cond Z rfl (fun hc3 => ?_) (fun hc3 => ?_)
  ·replace hF := ite_t hc3 hF
   refine wp_seq (f_region Z ?_); clear Z; intro Z
   refine s_runk tLink0 Z 2 rfl rfl ?_; clear Z a; intro a Z
   refine s_end Z [0, 3, 4, 5] rfl ?_; clear Z; intro Z
   refine p_then (wp_ret ?_)
   refine p_then_r ?_
   replace H : Hf I D w I2 w3 [SlC NS (.slice none 0 0) ([] : List ByteArray), OEref22_Link b_l l, BxC b1 31 (cESeg s0), SlC Ni64 (.slice (some ⟨b2, 0, none⟩) 6 6) [s0.boot, s0.stream, s0.seq, s0.ackBoot, s0.ackStream, s0.ackSeq]] := H.slNil NS
   obtain rfl := some_in hF
   exact f_ret Z (run_results2 rfl Z rfl rfl) ⟨.slice none 0 0, rfl, I2, (H.sub [(1, false), (0, true)] rfl).eq rfl⟩
  ·replace hF := ite_f hc3 hF
   refine wp_skip ?_
   refine p_then (wp_seq ?_)
   refine wp_seq ?_
   obtain ⟨v1, H⟩ := H.openX 0 rfl
   replace H : Hf I D w I2 w3 [BxC b_l 47 (cEref22_Link l v1), SlC NS v1 l.queue, BxC b1 31 (cESeg s0), SlC Ni64 (.slice (some ⟨b2, 0, none⟩) 6 6) [s0.boot, s0.stream, s0.seq, s0.ackBoot, s0.ackStream, s0.ackSeq]] := H
   refine f_quietd (by kernel_rfl) (by kernel_rfl) Z ?_; clear Z; intro Z
   refine q_runk tLink0 Z 1 rfl rfl ?_; clear Z a; intro a Z
   refine q_ob Z (v := .int .i64 s0.boot) rfl rfl (by decide) rfl (fun _ hw => Ob_load tLink0 rfl rfl rfl (((H.blw hw).bx 2 rfl).cell 0 rfl)) ?_; clear Z a; intro a Z
   refine q_runk tLink0 Z 3 rfl rfl ?_; clear Z a; intro a Z
   refine q_ob Z (v := .int .i64 l.peer) rfl rfl (by decide) rfl (fun _ hw => Ob_load tLink0 rfl rfl rfl (((H.blw hw).bx 0 rfl).cell 5 rfl)) ?_; clear Z a; intro a Z
   refine q_runk tLink0 Z 1 rfl rfl ?_; clear Z a; intro a Z
   refine q_end Z [0, 3, 4, 5, 48] rfl ?_; clear Z; intro w4 hb Z
   replace H : Hf I D w I2 w4 [BxC b_l 47 (cEref22_Link l v1), SlC NS v1 l.queue, BxC b1 31 (cESeg s0), SlC Ni64 (.slice (some ⟨b2, 0, none⟩) 6 6) [s0.boot, s0.stream, s0.seq, s0.ackBoot, s0.ackStream, s0.ackSeq]] := H.blw hb
   clear hb
   refine p_then ?_
   refine f_cond Z rfl (fun hc4 => ?_) (fun hc4 => ?_)
   ·replace hF := ite_t hc4 hF
    refine wp_seq (f_region Z ?_); clear Z; intro Z
    refine s_runk tLink0 Z 2 rfl rfl ?_; clear Z a; intro a Z
    refine s_end Z [0, 3, 4, 5] rfl ?_; clear Z; intro Z
    refine p_then (wp_ret ?_)
    refine p_then_r ?_
    replace H : Hf I D w I2 w4 [SlC NS (.slice none 0 0) ([] : List ByteArray), BxC b_l 47 (cEref22_Link l v1), SlC NS v1 l.queue, BxC b1 31 (cESeg s0), SlC Ni64 (.slice (some ⟨b2, 0, none⟩) 6 6) [s0.boot, s0.stream, s0.seq, s0.ackBoot, s0.ackStream, s0.ackSeq]] := H.slNil NS
    replace H : Hf I D w I2 w4 [OEref22_Link b_l l, SlC NS (.slice none 0 0) ([] : List ByteArray), SlC NS v1 l.queue, BxC b1 31 (cESeg s0), SlC Ni64 (.slice (some ⟨b2, 0, none⟩) 6 6) [s0.boot, s0.stream, s0.seq, s0.ackBoot, s0.ackStream, s0.ackSeq]] := H.shutX (v1) [(1, false), (1, true)] rfl
    obtain rfl := some_in hF
    exact f_ret Z (run_results2 rfl Z rfl rfl) ⟨.slice none 0 0, rfl, I2, (H.sub [(0, false), (0, true)] rfl).eq rfl⟩
   ·replace hF := ite_f hc4 hF
    refine wp_skip ?_
    refine p_then (wp_seq ?_)
    obtain ⟨k, hx1, hF⟩ := bnd_in hF
    refine f_region Z ?_; clear Z; intro Z
    refine s_runk tLink0 Z 1 rfl rfl ?_; clear Z a; intro a Z
    refine s_ob Z (v := .agg #[.int .i64 s0.boot, .int .i64 s0.stream, .int .i64 s0.seq, .int .i64 s0.ackBoot, .int .i64 s0.ackStream, .int .i64 s0.ackSeq, .bool s0.has, .string s0.body]) rfl rfl (by decide) rfl (Ob_loads tLink0 rfl rfl rfl ((H.bx 2 rfl).part 0 rfl)) ?_; clear Z a; intro a Z
    replace H : Hf I D w I2 w4 [OEref22_Link b_l l, SlC NS v1 l.queue, BxC b1 31 (cESeg s0), SlC Ni64 (.slice (some ⟨b2, 0, none⟩) 6 6) [s0.boot, s0.stream, s0.seq, s0.ackBoot, s0.ackStream, s0.ackSeq]] := H.shutX (v1) [(0, false), (0, true)] rfl
    refine h_call Z H (js := [(0, false)]) rfl (caps := #[]) fn_35_YLink0 rfl rfl rfl rfl rfl (by decide) rfl rfl (fun D1 hS => have hq := c_ref22_Link_known hx1 hS; hq) ?_; clear Z a; intro vv a w5 D2 hr hF2 Z
    obtain ⟨rfl, I3, K⟩ := hr
    have H : Hf I D w I3 w5 [OEref22_Link b_l k, SlC NS v1 l.queue, BxC b1 31 (cESeg s0), SlC Ni64 (.slice (some ⟨b2, 0, none⟩) 6 6) [s0.boot, s0.stream, s0.seq, s0.ackBoot, s0.ackStream, s0.ackSeq]] := hF2 K
    clear hF2 K
    refine s_end Z [0, 3, 4, 5] rfl ?_; clear Z; intro Z
    refine p_then (wp_seq ?_)
    refine wp_block ?_
    refine f_iter hF (fun sg a' w' => match sg with | l_2 => Sl 152 [(0, .pointer (some ⟨b_l, 0, none⟩)), (3, .pointer (some ⟨b1, 0, none⟩)), (4, .slice none 0 0), (5, .int .i64 0)] a' ∧ ∃ I2, Hf I D w I2 w' [OEref22_Link b_l l_2, BxC b1 31 (cESeg s0)]) ⟨Z.sub (ts := [0, 3, 4, 5]) rfl, ⟨I3, (H.sub [(0, false), (1, false)] rfl).eq rfl⟩⟩ ?_
    clear Z H hF a
    rintro rc_2 l_2 a w6 ⟨Z, I4, H⟩ hF
    unfold F_ref22_Link_In_l2 at hF
    try dsimp only at hF
    refine wp_seq ?_
    refine wp_seq ?_
    obtain ⟨v2, H⟩ := H.openX 0 rfl
    replace H : Hf I D w I4 w6 [BxC b_l 47 (cEref22_Link l_2 v2), SlC NS v2 l_2.queue, BxC b1 31 (cESeg s0)] := H
    refine f_quietd (by kernel_rfl) (by kernel_rfl) Z ?_; clear Z; intro Z
    refine q_runk tLink0 Z 1 rfl rfl ?_; clear Z a; intro a Z
    refine q_ob Z (v := .int .i64 s0.ackBoot) rfl rfl (by decide) rfl (fun _ hw => Ob_load tLink0 rfl rfl rfl (((H.blw hw).bx 2 rfl).cell 3 rfl)) ?_; clear Z a; intro a Z
    refine q_runk tLink0 Z 3 rfl rfl ?_; clear Z a; intro a Z
    refine q_ob Z (v := .int .i64 l_2.boot) rfl rfl (by decide) rfl (fun _ hw => Ob_load tLink0 rfl rfl rfl (((H.blw hw).bx 0 rfl).cell 0 rfl)) ?_; clear Z a; intro a Z
    refine q_runk tLink0 Z 2 rfl rfl ?_; clear Z a; intro a Z
    refine gq_ob Z (p := (s0.ackBoot == l_2.boot)) (v := .pointer (some ⟨b1, 4, none⟩)) (S' := [(3, .pointer (some ⟨b1, 0, none⟩))]) rfl rfl rfl (wantB_t _) rfl (by decide) (fun hp hS => hS.sub (ts := [3]) rfl) (fun hp _ hw => Ob_c tLink0 rfl) ?_; clear Z a; intro a Z
    refine gq_ob Z (p := (s0.ackBoot == l_2.boot)) (v := .int .i64 s0.ackStream) (S' := [(60, .pointer (some ⟨b1, 4, none⟩))]) rfl rfl rfl (wantB_t _) rfl (by decide) (fun hp hS => (hS.conv (t := 60) rfl (cond_t hp)).sub (ts := [60]) rfl) (fun hp _ hw => Ob_load tLink0 rfl rfl rfl (((H.blw hw).bx 2 rfl).cell 4 rfl)) ?_; clear Z a; intro a Z
    refine gq_ob Z (p := (s0.ackBoot == l_2.boot)) (v := .pointer (some ⟨b_l, 0, none⟩)) (S' := [(0, .pointer (some ⟨b_l, 0, none⟩))]) rfl rfl rfl (wantB_t _) rfl (by decide) (fun hp hS => hS.sub (ts := [0]) rfl) (fun hp _ hw => Ob_c tLink0 rfl) ?_; clear Z a; intro a Z
    refine gq_ob Z (p := (s0.ackBoot == l_2.boot)) (v := .pointer (some ⟨b_l, 0, none⟩)) (S' := [(62, .pointer (some ⟨b_l, 0, none⟩))]) rfl rfl rfl (wantB_t _) rfl (by decide) (fun hp hS => (hS.conv (t := 62) rfl (cond_t hp)).sub (ts := [62]) rfl) (fun hp _ hw => Ob_c tLink0 rfl) ?_; clear Z a; intro a Z
    refine gq_ob Z (p := (s0.ackBoot == l_2.boot)) (v := .pointer (some ⟨b_l, 1, none⟩)) (S' := [(63, .pointer (some ⟨b_l, 0, none⟩))]) rfl rfl rfl (wantB_t _) rfl (by decide) (fun hp hS => (hS.conv (t := 63) rfl (cond_t hp)).sub (ts := [63]) rfl) (fun hp _ hw => Ob_c tLink0 rfl) ?_; clear Z a; intro a Z
    refine gq_ob Z (p := (s0.ackBoot == l_2.boot)) (v := .int .i64 l_2.stream) (S' := [(64, .pointer (some ⟨b_l, 1, none⟩))]) rfl rfl rfl (wantB_t _) rfl (by decide) (fun hp hS => (hS.conv (t := 64) rfl (cond_t hp)).sub (ts := [64]) rfl) (fun hp _ hw => Ob_load tLink0 rfl rfl rfl (((H.blw hw).bx 0 rfl).cell 1 rfl)) ?_; clear Z a; intro a Z
    refine gq_ob Z (p := (s0.ackBoot == l_2.boot)) (v := .bool (s0.ackStream == l_2.stream)) (S' := [(61, .int .i64 s0.ackStream), (65, .int .i64 l_2.stream)]) rfl rfl rfl (wantB_t _) rfl (by decide) (fun hp hS => ((hS.conv (t := 61) rfl (cond_t hp)).conv (t := 65) rfl (cond_t hp)).sub (ts := [61, 65]) rfl) (fun hp _ hw => Ob_c tLink0 rfl) ?_; clear Z a; intro a Z
    refine q_ob Z (v := .bool ((s0.ackBoot == l_2.boot) && (s0.ackStream == l_2.stream))) rfl rfl (by decide) rfl (fun _ hw => Ob_pick rfl rfl rfl rfl (pick_and _ _)) ?_; clear Z a; intro a Z
    refine q_runk tLink0 Z 1 rfl rfl ?_; clear Z a; intro a Z
    refine gq_ob Z (p := ((s0.ackBoot == l_2.boot) && (s0.ackStream == l_2.stream))) (v := .pointer (some ⟨b_l, 0, none⟩)) (S' := [(0, .pointer (some ⟨b_l, 0, none⟩))]) rfl rfl rfl (wantB_t _) rfl (by decide) (fun hp hS => hS.sub (ts := [0]) rfl) (fun hp _ hw => Ob_c tLink0 rfl) ?_; clear Z a; intro a Z
    refine gq_ob Z (p := ((s0.ackBoot == l_2.boot) && (s0.ackStream == l_2.stream))) (v := .pointer (some ⟨b_l, 0, none⟩)) (S' := [(69, .pointer (some ⟨b_l, 0, none⟩))]) rfl rfl rfl (wantB_t _) rfl (by decide) (fun hp hS => (hS.conv (t := 69) rfl (cond_t hp)).sub (ts := [69]) rfl) (fun hp _ hw => Ob_c tLink0 rfl) ?_; clear Z a; intro a Z
    refine gq_ob Z (p := ((s0.ackBoot == l_2.boot) && (s0.ackStream == l_2.stream))) (v := .pointer (some ⟨b_l, 3, none⟩)) (S' := [(70, .pointer (some ⟨b_l, 0, none⟩))]) rfl rfl rfl (wantB_t _) rfl (by decide) (fun hp hS => (hS.conv (t := 70) rfl (cond_t hp)).sub (ts := [70]) rfl) (fun hp _ hw => Ob_c tLink0 rfl) ?_; clear Z a; intro a Z
    refine gq_ob Z (p := ((s0.ackBoot == l_2.boot) && (s0.ackStream == l_2.stream))) (v := v2) (S' := [(71, .pointer (some ⟨b_l, 3, none⟩))]) rfl rfl rfl (wantB_t _) rfl (by decide) (fun hp hS => (hS.conv (t := 71) rfl (cond_t hp)).sub (ts := [71]) rfl) (fun hp _ hw => Ob_load tLink0 rfl rfl rfl (((H.blw hw).bx 0 rfl).cell 3 rfl)) ?_; clear Z a; intro a Z
    refine gq_ob Z (p := ((s0.ackBoot == l_2.boot) && (s0.ackStream == l_2.stream))) (v := .int .i64 (l_2.queue.length : Int)) (S' := [(72, v2)]) rfl rfl rfl (wantB_t _) rfl (by decide) (fun hp hS => (hS.conv (t := 72) rfl (cond_t hp)).sub (ts := [72]) rfl) (fun hp _ hw => Ob_slen tLink0 rfl rfl rfl ((H.blw hw).slshape 1 rfl)) ?_; clear Z a; intro a Z
    refine gq_ob Z (p := ((s0.ackBoot == l_2.boot) && (s0.ackStream == l_2.stream))) (v := .bool (decide ((l_2.queue.length : Int) > 0))) (S' := [(73, .int .i64 (l_2.queue.length : Int))]) rfl rfl rfl (wantB_t _) rfl (by decide) (fun hp hS => (hS.conv (t := 73) rfl (cond_t hp)).sub (ts := [73]) rfl) (fun hp _ hw => Ob_c tLink0 rfl) ?_; clear Z a; intro a Z
    refine q_ob Z (v := .bool (((s0.ackBoot == l_2.boot) && (s0.ackStream == l_2.stream)) && (decide ((l_2.queue.length : Int) > 0)))) rfl rfl (by decide) rfl (fun _ hw => Ob_pick rfl rfl rfl rfl (pick_and _ _)) ?_; clear Z a; intro a Z
    refine q_runk tLink0 Z 1 rfl rfl ?_; clear Z a; intro a Z
    refine gq_ob Z (p := (((s0.ackBoot == l_2.boot) && (s0.ackStream == l_2.stream)) && (decide ((l_2.queue.length : Int) > 0)))) (v := .pointer (some ⟨b_l, 0, none⟩)) (S' := [(0, .pointer (some ⟨b_l, 0, none⟩))]) rfl rfl rfl (wantB_t _) rfl (by decide) (fun hp hS => hS.sub (ts := [0]) rfl) (fun hp _ hw => Ob_c tLink0 rfl) ?_; clear Z a; intro a Z
    refine gq_ob Z (p := (((s0.ackBoot == l_2.boot) && (s0.ackStream == l_2.stream)) && (decide ((l_2.queue.length : Int) > 0)))) (v := .pointer (some ⟨b_l, 0, none⟩)) (S' := [(77, .pointer (some ⟨b_l, 0, none⟩))]) rfl rfl rfl (wantB_t _) rfl (by decide) (fun hp hS => (hS.conv (t := 77) rfl (cond_t hp)).sub (ts := [77]) rfl) (fun hp _ hw => Ob_c tLink0 rfl) ?_; clear Z a; intro a Z
    refine gq_ob Z (p := (((s0.ackBoot == l_2.boot) && (s0.ackStream == l_2.stream)) && (decide ((l_2.queue.length : Int) > 0)))) (v := .pointer (some ⟨b_l, 2, none⟩)) (S' := [(78, .pointer (some ⟨b_l, 0, none⟩))]) rfl rfl rfl (wantB_t _) rfl (by decide) (fun hp hS => (hS.conv (t := 78) rfl (cond_t hp)).sub (ts := [78]) rfl) (fun hp _ hw => Ob_c tLink0 rfl) ?_; clear Z a; intro a Z
    refine gq_ob Z (p := (((s0.ackBoot == l_2.boot) && (s0.ackStream == l_2.stream)) && (decide ((l_2.queue.length : Int) > 0)))) (v := .int .i64 l_2.first) (S' := [(79, .pointer (some ⟨b_l, 2, none⟩))]) rfl rfl rfl (wantB_t _) rfl (by decide) (fun hp hS => (hS.conv (t := 79) rfl (cond_t hp)).sub (ts := [79]) rfl) (fun hp _ hw => Ob_load tLink0 rfl rfl rfl (((H.blw hw).bx 0 rfl).cell 2 rfl)) ?_; clear Z a; intro a Z
    refine gq_ob Z (p := (((s0.ackBoot == l_2.boot) && (s0.ackStream == l_2.stream)) && (decide ((l_2.queue.length : Int) > 0)))) (v := .pointer (some ⟨b1, 5, none⟩)) (S' := [(3, .pointer (some ⟨b1, 0, none⟩))]) rfl rfl rfl (wantB_t _) rfl (by decide) (fun hp hS => hS.sub (ts := [3]) rfl) (fun hp _ hw => Ob_c tLink0 rfl) ?_; clear Z a; intro a Z
    refine gq_ob Z (p := (((s0.ackBoot == l_2.boot) && (s0.ackStream == l_2.stream)) && (decide ((l_2.queue.length : Int) > 0)))) (v := .int .i64 s0.ackSeq) (S' := [(81, .pointer (some ⟨b1, 5, none⟩))]) rfl rfl rfl (wantB_t _) rfl (by decide) (fun hp hS => (hS.conv (t := 81) rfl (cond_t hp)).sub (ts := [81]) rfl) (fun hp _ hw => Ob_load tLink0 rfl rfl rfl (((H.blw hw).bx 2 rfl).cell 5 rfl)) ?_; clear Z a; intro a Z
    refine gq_ob Z (p := (((s0.ackBoot == l_2.boot) && (s0.ackStream == l_2.stream)) && (decide ((l_2.queue.length : Int) > 0)))) (v := .bool (decide (l_2.first < s0.ackSeq))) (S' := [(80, .int .i64 l_2.first), (82, .int .i64 s0.ackSeq)]) rfl rfl rfl (wantB_t _) rfl (by decide) (fun hp hS => ((hS.conv (t := 80) rfl (cond_t hp)).conv (t := 82) rfl (cond_t hp)).sub (ts := [80, 82]) rfl) (fun hp _ hw => Ob_c tLink0 rfl) ?_; clear Z a; intro a Z
    refine q_ob Z (v := .bool ((((s0.ackBoot == l_2.boot) && (s0.ackStream == l_2.stream)) && (decide ((l_2.queue.length : Int) > 0))) && (decide (l_2.first < s0.ackSeq)))) rfl rfl (by decide) rfl (fun _ hw => Ob_pick rfl rfl rfl rfl (pick_and _ _)) ?_; clear Z a; intro a Z
    refine q_end Z [0, 3, 4, 5, 52, 53, 54, 55, 56, 57, 58, 59, 67, 68, 75, 76, 84] rfl ?_; clear Z; intro w7 hb Z
    replace H : Hf I D w I4 w7 [BxC b_l 47 (cEref22_Link l_2 v2), SlC NS v2 l_2.queue, BxC b1 31 (cESeg s0)] := H.blw hb
    clear hb
    refine p_then ?_
    refine f_cond Z rfl (fun hc5 => ?_) (fun hc5 => ?_)
    ·replace hF := ite_t hc5 hF
     refine wp_skip ?_
     refine p_then (wp_block ?_)
     refine wp_seq ?_
     obtain ⟨hg4, hF⟩ := chk_in hF
     obtain ⟨hg5, hF⟩ := chk_in hF
     refine f_region Z ?_; clear Z; intro Z
     refine s_runk tLink0 Z 1 rfl rfl ?_; clear Z a; intro a Z
     refine h_bslice Z H (vs := []) (cl := []) (e := 9) rfl rfl rfl (by decide) rfl rfl (fun w => run_bslice (z := .string ByteArray.empty) (m := 1) Try.underlying39 (by kernel_rfl) rfl rfl (by decide) (by simp [Instr.fill, Value.cells]) w) ?_; clear Z a H; intro a w8 b3 H Z
     refine s_runk tLink0 Z 3 rfl rfl ?_; clear Z a; intro a Z
     refine s_ob Z (v := v2) rfl rfl (by decide) rfl (Ob_load tLink0 rfl rfl rfl ((H.bx 1 rfl).cell 3 rfl)) ?_; clear Z a; intro a Z
     replace H : Hf I D w I4 w8 [SlC NS (subV v2 ((1 : Int).toNat) l_2.queue.length 1) (l_2.queue.drop ((1 : Int).toNat)), BxC b3 9 [], BxC b_l 47 (cEref22_Link l_2 v2), SlC NS v2 l_2.queue, BxC b1 31 (cESeg s0)] := H.slPart_from 2 rfl hg4 1 rfl
     refine s_ob Z (v := subV v2 ((1 : Int).toNat) l_2.queue.length 1) rfl rfl (by decide) rfl (Ob_sub_from tLink0 rfl rfl rfl rfl (H.slshape 3 rfl) hg4) ?_; clear Z a; intro a Z
     replace H : Hf I D w I4 w8 [OwC NS 9 (.slice (some ⟨b3, 0, none⟩) 0 0) [], SlC NS (subV v2 ((1 : Int).toNat) l_2.queue.length 1) (l_2.queue.drop ((1 : Int).toNat)), BxC b_l 47 (cEref22_Link l_2 v2), SlC NS v2 l_2.queue, BxC b1 31 (cESeg s0)] := H.emptyow 1 rfl NS
     refine h_appO Z H 0 E_39_YLink0 (l_2.queue.drop ((1 : Int).toNat)) rfl rfl rfl rfl rfl (by decide) rfl rfl rfl (H.sl2 1 rfl) hg5 (by decide) ?_; clear Z a H; intro v3 a w9 H Z
     dsimp only [List.eraseIdx] at H
     refine s_runk tLink0 Z 2 rfl rfl ?_; clear Z a; intro a Z
     refine h_store tLink0 Z H 2 rfl rfl rfl rfl rfl rfl (slS.cells (H.owshape 0 rfl)) rfl rfl (one_cons (slS.one (H.owshape 0 rfl)) one_nil) (Nat.le_of_ble_eq_true rfl) rfl ?_; clear H; intro w10 H
     dsimp only [List.eraseIdx] at H
     refine s_end Z [0, 3, 4, 5, 52, 53, 54, 55, 56, 57, 58, 59, 67, 68, 75, 76, 84, 85, 86, 87, 88, 89, 90, 91, 92, 93, 94] rfl ?_; clear Z; intro Z
     refine p_then (wp_seq ?_)
     obtain ⟨hg6, hF⟩ := chk_in hF
     refine f_region Z ?_; clear Z; intro Z
     refine s_runk tLink0 Z 3 rfl rfl ?_; clear Z a; intro a Z
     refine s_ob Z (v := .int .i64 l_2.first) rfl rfl (by decide) rfl (Ob_load tLink0 rfl rfl rfl ((H.bx 0 rfl).cell 2 rfl)) ?_; clear Z a; intro a Z
     refine s_ob Z (v := .int .i64 (l_2.first + 1)) rfl rfl (by decide) rfl (Ob_add rfl rfl rfl (wrI hg6)) ?_; clear Z a; intro a Z
     refine s_runk tLink0 Z 2 rfl rfl ?_; clear Z a; intro a Z
     refine h_store tLink0 Z H 0 rfl rfl rfl rfl rfl rfl rfl rfl rfl (one_cons rfl one_nil) (Nat.le_of_ble_eq_true rfl) rfl ?_; clear H; intro w11 H
     dsimp only [List.eraseIdx] at H
     refine s_end Z [0, 3, 4, 5, 52, 53, 54, 55, 56, 57, 58, 59, 67, 68, 75, 76, 84, 85, 86, 87, 88, 89, 90, 91, 92, 93, 94, 95, 96, 97, 98, 99, 100, 101] rfl ?_; clear Z; intro Z
     refine p_then ?_
     obtain ⟨hg7, hF⟩ := chk_in hF
     refine f_region Z ?_; clear Z; intro Z
     refine s_runk tLink0 Z 4 rfl rfl ?_; clear Z a; intro a Z
     refine s_ob Z (v := .int .i64 l_2.told) rfl rfl (by decide) rfl (Ob_load tLink0 rfl rfl rfl ((H.bx 0 rfl).cell 4 rfl)) ?_; clear Z a; intro a Z
     refine s_ob Z (v := .int .i64 (l_2.told - 1)) rfl rfl (by decide) rfl (Ob_sub rfl rfl rfl (wrI hg7)) ?_; clear Z a; intro a Z
     refine s_runk tLink0 Z 3 rfl rfl ?_; clear Z a; intro a Z
     refine h_store tLink0 Z H 0 rfl rfl rfl rfl rfl rfl rfl rfl rfl (one_cons rfl one_nil) (Nat.le_of_ble_eq_true rfl) rfl ?_; clear H; intro w12 H
     dsimp only [List.eraseIdx] at H
     refine s_end Z [0, 3, 4, 5, 52, 53, 54, 55, 56, 57, 58, 59, 67, 68, 75, 76, 84, 85, 86, 87, 88, 89, 90, 91, 92, 93, 94, 95, 96, 97, 98, 99, 100, 101, 102, 103, 104, 105, 106, 107, 108, 109, 110] rfl ?_; clear Z; intro Z
     refine p_blk ?_
     refine p_then ?_
     obtain ⟨I5, _, H⟩ := H.frzow 1 rfl
     replace H : Hf I D w I5 w12 [SlC NS v3 ([] ++ (l_2.queue.drop ((1 : Int).toNat))), BxC b_l 47 [.int .i64 l_2.boot, .int .i64 l_2.stream, .int .i64 (l_2.first + 1), v3, .int .i64 (max (l_2.told - 1) 0), .int .i64 l_2.peer, .int .i64 l_2.in0, .int .i64 l_2.next, .bool l_2.owes], SlC NS (subV v2 ((1 : Int).toNat) l_2.queue.length 1) (l_2.queue.drop ((1 : Int).toNat)), SlC NS v2 l_2.queue, BxC b1 31 (cESeg s0)] := H
     replace H : Hf I D w I5 w12 [OEref22_Link b_l ({ l_2 with first := l_2.first + 1, queue := [] ++ (l_2.queue.drop ((1 : Int).toNat)), told := max (l_2.told - 1) 0 } : Eref22_Link), SlC NS v3 ([] ++ (l_2.queue.drop ((1 : Int).toNat))), SlC NS (subV v2 ((1 : Int).toNat) l_2.queue.length 1) (l_2.queue.drop ((1 : Int).toNat)), SlC NS v2 l_2.queue, BxC b1 31 (cESeg s0)] := H.shutX (v3) [(1, false), (0, true)] rfl
     exact ⟨({ l_2 with first := l_2.first + 1, queue := [] ++ (l_2.queue.drop ((1 : Int).toNat)), told := max (l_2.told - 1) 0 } : Eref22_Link), ⟨Z.sub (ts := [0, 3, 4, 5]) rfl, ⟨I5, (H.sub [(0, false), (3, false)] rfl).eq rfl⟩⟩, hF⟩
    ·replace hF := ite_f hc5 hF
     refine wp_exit ?_
     refine p_then_x ?_
     refine p_then_x ?_
     refine f_exit_here ?_
     refine p_then (wp_seq ?_)
     refine wp_seq (f_region Z ?_); clear Z; intro Z
     refine s_runk tLink0 Z 1 rfl rfl ?_; clear Z a; intro a Z
     refine s_ob Z (v := .bool s0.has) rfl rfl (by decide) rfl (Ob_load tLink0 rfl rfl rfl ((H.bx 2 rfl).cell 6 rfl)) ?_; clear Z a; intro a Z
     refine s_runk tLink0 Z 1 rfl rfl ?_; clear Z a; intro a Z
     refine s_end Z [0, 3, 4, 5, 113] rfl ?_; clear Z; intro Z
     refine p_then ?_
     refine f_cond Z rfl (fun hc6 => ?_) (fun hc6 => ?_)
     ·replace hF := ite_t hc6 hF
      refine wp_seq (f_region Z ?_); clear Z; intro Z
      refine s_runk tLink0 Z 2 rfl rfl ?_; clear Z a; intro a Z
      refine s_end Z [0, 3, 4, 5] rfl ?_; clear Z; intro Z
      refine p_then (wp_ret ?_)
      refine p_then_r ?_
      replace H : Hf I D w I4 w7 [SlC NS (.slice none 0 0) ([] : List ByteArray), BxC b_l 47 (cEref22_Link l_2 v2), SlC NS v2 l_2.queue, BxC b1 31 (cESeg s0)] := H.slNil NS
      replace H : Hf I D w I4 w7 [OEref22_Link b_l l_2, SlC NS (.slice none 0 0) ([] : List ByteArray), SlC NS v2 l_2.queue, BxC b1 31 (cESeg s0)] := H.shutX (v2) [(1, false), (1, true)] rfl
      obtain rfl := some_in hF
      exact f_ret Z (run_results2 rfl Z rfl rfl) ⟨.slice none 0 0, rfl, I4, (H.sub [(0, false), (0, true)] rfl).eq rfl⟩
     ·replace hF := ite_f hc6 hF
      refine wp_skip ?_
      refine p_then (wp_seq (f_region Z ?_)); clear Z; intro Z
      refine s_runk tLink0 Z 3 rfl rfl ?_; clear Z a; intro a Z
      refine h_store tLink0 Z H 0 rfl rfl rfl rfl rfl rfl rfl rfl rfl (one_cons rfl one_nil) (Nat.le_of_ble_eq_true rfl) rfl ?_; clear H; intro w13 H
      dsimp only [List.eraseIdx] at H
      refine s_end Z [0, 3, 4, 5] rfl ?_; clear Z; intro Z
      refine p_then (wp_seq ?_)
      refine wp_seq ?_
      refine f_quietd (by kernel_rfl) (by kernel_rfl) Z ?_; clear Z; intro Z
      refine q_runk tLink0 Z 1 rfl rfl ?_; clear Z a; intro a Z
      refine q_ob Z (v := .int .i64 s0.ackBoot) rfl rfl (by decide) rfl (fun _ hw => Ob_load tLink0 rfl rfl rfl (((H.blw hw).bx 2 rfl).cell 3 rfl)) ?_; clear Z a; intro a Z
      refine q_runk tLink0 Z 3 rfl rfl ?_; clear Z a; intro a Z
      refine q_ob Z (v := .int .i64 l_2.boot) rfl rfl (by decide) rfl (fun _ hw => Ob_load tLink0 rfl rfl rfl (((H.blw hw).bx 0 rfl).cell 0 rfl)) ?_; clear Z a; intro a Z
      refine q_runk tLink0 Z 2 rfl rfl ?_; clear Z a; intro a Z
      refine gq_ob Z (p := (s0.ackBoot == l_2.boot)) (v := .pointer (some ⟨b1, 1, none⟩)) (S' := [(3, .pointer (some ⟨b1, 0, none⟩))]) rfl rfl rfl (wantB_t _) rfl (by decide) (fun hp hS => hS.sub (ts := [3]) rfl) (fun hp _ hw => Ob_c tLink0 rfl) ?_; clear Z a; intro a Z
      refine gq_ob Z (p := (s0.ackBoot == l_2.boot)) (v := .int .i64 s0.stream) (S' := [(125, .pointer (some ⟨b1, 1, none⟩))]) rfl rfl rfl (wantB_t _) rfl (by decide) (fun hp hS => (hS.conv (t := 125) rfl (cond_t hp)).sub (ts := [125]) rfl) (fun hp _ hw => Ob_load tLink0 rfl rfl rfl (((H.blw hw).bx 2 rfl).cell 1 rfl)) ?_; clear Z a; intro a Z
      refine gq_ob Z (p := (s0.ackBoot == l_2.boot)) (v := .pointer (some ⟨b_l, 0, none⟩)) (S' := [(0, .pointer (some ⟨b_l, 0, none⟩))]) rfl rfl rfl (wantB_t _) rfl (by decide) (fun hp hS => hS.sub (ts := [0]) rfl) (fun hp _ hw => Ob_c tLink0 rfl) ?_; clear Z a; intro a Z
      refine gq_ob Z (p := (s0.ackBoot == l_2.boot)) (v := .pointer (some ⟨b_l, 0, none⟩)) (S' := [(127, .pointer (some ⟨b_l, 0, none⟩))]) rfl rfl rfl (wantB_t _) rfl (by decide) (fun hp hS => (hS.conv (t := 127) rfl (cond_t hp)).sub (ts := [127]) rfl) (fun hp _ hw => Ob_c tLink0 rfl) ?_; clear Z a; intro a Z
      refine gq_ob Z (p := (s0.ackBoot == l_2.boot)) (v := .pointer (some ⟨b_l, 6, none⟩)) (S' := [(128, .pointer (some ⟨b_l, 0, none⟩))]) rfl rfl rfl (wantB_t _) rfl (by decide) (fun hp hS => (hS.conv (t := 128) rfl (cond_t hp)).sub (ts := [128]) rfl) (fun hp _ hw => Ob_c tLink0 rfl) ?_; clear Z a; intro a Z
      refine gq_ob Z (p := (s0.ackBoot == l_2.boot)) (v := .int .i64 l_2.in0) (S' := [(129, .pointer (some ⟨b_l, 6, none⟩))]) rfl rfl rfl (wantB_t _) rfl (by decide) (fun hp hS => (hS.conv (t := 129) rfl (cond_t hp)).sub (ts := [129]) rfl) (fun hp _ hw => Ob_load tLink0 rfl rfl rfl (((H.blw hw).bx 0 rfl).cell 6 rfl)) ?_; clear Z a; intro a Z
      refine gq_ob Z (p := (s0.ackBoot == l_2.boot)) (v := .bool (s0.stream == l_2.in0)) (S' := [(126, .int .i64 s0.stream), (130, .int .i64 l_2.in0)]) rfl rfl rfl (wantB_t _) rfl (by decide) (fun hp hS => ((hS.conv (t := 126) rfl (cond_t hp)).conv (t := 130) rfl (cond_t hp)).sub (ts := [126, 130]) rfl) (fun hp _ hw => Ob_c tLink0 rfl) ?_; clear Z a; intro a Z
      refine q_ob Z (v := .bool ((s0.ackBoot == l_2.boot) && (s0.stream == l_2.in0))) rfl rfl (by decide) rfl (fun _ hw => Ob_pick rfl rfl rfl rfl (pick_and _ _)) ?_; clear Z a; intro a Z
      refine q_runk tLink0 Z 1 rfl rfl ?_; clear Z a; intro a Z
      refine gq_ob Z (p := ((s0.ackBoot == l_2.boot) && (s0.stream == l_2.in0))) (v := .pointer (some ⟨b1, 2, none⟩)) (S' := [(3, .pointer (some ⟨b1, 0, none⟩))]) rfl rfl rfl (wantB_t _) rfl (by decide) (fun hp hS => hS.sub (ts := [3]) rfl) (fun hp _ hw => Ob_c tLink0 rfl) ?_; clear Z a; intro a Z
      refine gq_ob Z (p := ((s0.ackBoot == l_2.boot) && (s0.stream == l_2.in0))) (v := .int .i64 s0.seq) (S' := [(134, .pointer (some ⟨b1, 2, none⟩))]) rfl rfl rfl (wantB_t _) rfl (by decide) (fun hp hS => (hS.conv (t := 134) rfl (cond_t hp)).sub (ts := [134]) rfl) (fun hp _ hw => Ob_load tLink0 rfl rfl rfl (((H.blw hw).bx 2 rfl).cell 2 rfl)) ?_; clear Z a; intro a Z
      refine gq_ob Z (p := ((s0.ackBoot == l_2.boot) && (s0.stream == l_2.in0))) (v := .pointer (some ⟨b_l, 0, none⟩)) (S' := [(0, .pointer (some ⟨b_l, 0, none⟩))]) rfl rfl rfl (wantB_t _) rfl (by decide) (fun hp hS => hS.sub (ts := [0]) rfl) (fun hp _ hw => Ob_c tLink0 rfl) ?_; clear Z a; intro a Z
      refine gq_ob Z (p := ((s0.ackBoot == l_2.boot) && (s0.stream == l_2.in0))) (v := .pointer (some ⟨b_l, 0, none⟩)) (S' := [(136, .pointer (some ⟨b_l, 0, none⟩))]) rfl rfl rfl (wantB_t _) rfl (by decide) (fun hp hS => (hS.conv (t := 136) rfl (cond_t hp)).sub (ts := [136]) rfl) (fun hp _ hw => Ob_c tLink0 rfl) ?_; clear Z a; intro a Z
      refine gq_ob Z (p := ((s0.ackBoot == l_2.boot) && (s0.stream == l_2.in0))) (v := .pointer (some ⟨b_l, 7, none⟩)) (S' := [(137, .pointer (some ⟨b_l, 0, none⟩))]) rfl rfl rfl (wantB_t _) rfl (by decide) (fun hp hS => (hS.conv (t := 137) rfl (cond_t hp)).sub (ts := [137]) rfl) (fun hp _ hw => Ob_c tLink0 rfl) ?_; clear Z a; intro a Z
      refine gq_ob Z (p := ((s0.ackBoot == l_2.boot) && (s0.stream == l_2.in0))) (v := .int .i64 l_2.next) (S' := [(138, .pointer (some ⟨b_l, 7, none⟩))]) rfl rfl rfl (wantB_t _) rfl (by decide) (fun hp hS => (hS.conv (t := 138) rfl (cond_t hp)).sub (ts := [138]) rfl) (fun hp _ hw => Ob_load tLink0 rfl rfl rfl (((H.blw hw).bx 0 rfl).cell 7 rfl)) ?_; clear Z a; intro a Z
      refine gq_ob Z (p := ((s0.ackBoot == l_2.boot) && (s0.stream == l_2.in0))) (v := .bool (s0.seq == l_2.next)) (S' := [(135, .int .i64 s0.seq), (139, .int .i64 l_2.next)]) rfl rfl rfl (wantB_t _) rfl (by decide) (fun hp hS => ((hS.conv (t := 135) rfl (cond_t hp)).conv (t := 139) rfl (cond_t hp)).sub (ts := [135, 139]) rfl) (fun hp _ hw => Ob_c tLink0 rfl) ?_; clear Z a; intro a Z
      refine q_ob Z (v := .bool (((s0.ackBoot == l_2.boot) && (s0.stream == l_2.in0)) && (s0.seq == l_2.next))) rfl rfl (by decide) rfl (fun _ hw => Ob_pick rfl rfl rfl rfl (pick_and _ _)) ?_; clear Z a; intro a Z
      refine q_end Z [0, 3, 4, 5, 141] rfl ?_; clear Z; intro w14 hb Z
      replace H : Hf I D w I4 w14 [BxC b_l 47 [.int .i64 l_2.boot, .int .i64 l_2.stream, .int .i64 l_2.first, v2, .int .i64 l_2.told, .int .i64 l_2.peer, .int .i64 l_2.in0, .int .i64 l_2.next, .bool true], SlC NS v2 l_2.queue, BxC b1 31 (cESeg s0)] := H.blw hb
      clear hb
      refine p_then ?_
      refine f_cond Z rfl (fun hc7 => ?_) (fun hc7 => ?_)
      ·replace hF := ite_t hc7 hF
       refine wp_seq ?_
       obtain ⟨hg8, hF⟩ := chk_in hF
       refine f_region Z ?_; clear Z; intro Z
       refine s_runk tLink0 Z 3 rfl rfl ?_; clear Z a; intro a Z
       refine s_ob Z (v := .int .i64 l_2.next) rfl rfl (by decide) rfl (Ob_load tLink0 rfl rfl rfl ((H.bx 0 rfl).cell 7 rfl)) ?_; clear Z a; intro a Z
       refine s_ob Z (v := .int .i64 (l_2.next + 1)) rfl rfl (by decide) rfl (Ob_add rfl rfl rfl (wrI hg8)) ?_; clear Z a; intro a Z
       refine s_runk tLink0 Z 2 rfl rfl ?_; clear Z a; intro a Z
       refine h_store tLink0 Z H 0 rfl rfl rfl rfl rfl rfl rfl rfl rfl (one_cons rfl one_nil) (Nat.le_of_ble_eq_true rfl) rfl ?_; clear H; intro w15 H
       dsimp only [List.eraseIdx] at H
       refine s_end Z [3, 4, 5] rfl ?_; clear Z; intro Z
       refine p_then (wp_seq (f_region Z ?_)); clear Z; intro Z
       refine s_runk tLink0 Z 1 rfl rfl ?_; clear Z a; intro a Z
       refine s_ob Z (v := .string s0.body) rfl rfl (by decide) rfl (Ob_load tLink0 rfl rfl rfl ((H.bx 2 rfl).cell 7 rfl)) ?_; clear Z a; intro a Z
       refine h_bslice Z H (vs := [(0, .string s0.body)]) (cl := [.string s0.body]) (e := 9) rfl rfl rfl (by decide) rfl rfl (fun w => run_bslice (z := .string ByteArray.empty) (m := 1) Try.underlying39 (by kernel_rfl) rfl rfl (by decide) (by simp [Instr.fill, Value.cells]) w) ?_; clear Z a H; intro a w16 b4 H Z
       refine s_runk tLink0 Z 2 rfl rfl ?_; clear Z a; intro a Z
       refine s_end Z [4, 5] rfl ?_; clear Z; intro Z
       refine p_then (wp_ret ?_)
       refine p_then_r ?_
       obtain ⟨I6, _, H⟩ := H.frzlit 0 rfl (R := NS) [[.string s0.body]] [s0.body] rfl rfl (fun i h1 h2 => by match i, h1, h2 with | 0, _, _ => exact ⟨rfl, trivial⟩) (show 1 ≤ maxLen from by decide) (n := 1) rfl
       replace H : Hf I D w I6 w16 [SlC NS (.slice (some ⟨b4, 0, none⟩) 1 1) [s0.body], BxC b_l 47 [.int .i64 l_2.boot, .int .i64 l_2.stream, .int .i64 l_2.first, v2, .int .i64 l_2.told, .int .i64 l_2.peer, .int .i64 l_2.in0, .int .i64 (l_2.next + 1), .bool true], SlC NS v2 l_2.queue, BxC b1 31 (cESeg s0)] := H
       replace H : Hf I D w I6 w16 [OEref22_Link b_l ({ l_2 with next := l_2.next + 1, owes := true } : Eref22_Link), SlC NS (.slice (some ⟨b4, 0, none⟩) 1 1) [s0.body], SlC NS v2 l_2.queue, BxC b1 31 (cESeg s0)] := H.shutX (v2) [(1, false), (1, true)] rfl
       obtain rfl := some_in hF
       exact f_ret Z (run_results2 rfl Z rfl rfl) ⟨.slice (some ⟨b4, 0, none⟩) 1 1, rfl, I6, (H.sub [(0, false), (0, true)] rfl).eq rfl⟩
      ·replace hF := ite_f hc7 hF
       refine wp_skip ?_
       refine p_then (wp_seq (f_region Z ?_)); clear Z; intro Z
       refine s_runk tLink0 Z 2 rfl rfl ?_; clear Z a; intro a Z
       refine s_end Z [4, 5] rfl ?_; clear Z; intro Z
       refine p_then (wp_ret ?_)
       replace H : Hf I D w I4 w14 [SlC NS (.slice none 0 0) ([] : List ByteArray), BxC b_l 47 [.int .i64 l_2.boot, .int .i64 l_2.stream, .int .i64 l_2.first, v2, .int .i64 l_2.told, .int .i64 l_2.peer, .int .i64 l_2.in0, .int .i64 l_2.next, .bool true], SlC NS v2 l_2.queue, BxC b1 31 (cESeg s0)] := H.slNil NS
       replace H : Hf I D w I4 w14 [OEref22_Link b_l ({ l_2 with owes := true } : Eref22_Link), SlC NS (.slice none 0 0) ([] : List ByteArray), SlC NS v2 l_2.queue, BxC b1 31 (cESeg s0)] := H.shutX (v2) [(1, false), (1, true)] rfl
       obtain rfl := some_in hF
       exact f_ret Z (run_results2 rfl Z rfl rfl) ⟨.slice none 0 0, rfl, I4, (H.sub [(0, false), (0, true)] rfl).eq rfl⟩

end Go.Proofs.Ythomnhhjgcabkaa
