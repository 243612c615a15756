/- Links: what goes out. -/
import Derived.Test.YtghkhndlpfmpfaaYLink0
import Derived.Test.YtghkhndlpfmpfaaYR
namespace Go.Proofs.Ytghkhndlpfmpfaa
open Go.RowKit
structure Eruntime_boundsError where
 x : Int
 y : Int
 signed : Bool
 code : Int

instance : Inhabited Eruntime_boundsError := ⟨⟨0, 0, false, 0⟩⟩

def cEruntime_boundsError (x : Eruntime_boundsError) : List Value := [.int .i64 x.x, .int .i64 x.y, .bool x.signed, .int .u8 x.code]

def NEruntime_boundsError : Rp Eruntime_boundsError := Rp.flat 4 (fun _ => True) (fun x => cEruntime_boundsError x) (fun _ => rfl) (fun x c hc => by simp only [cEruntime_boundsError, List.mem_cons, List.not_mem_nil, or_false] at hc; rcases hc with rfl | rfl | rfl | rfl <;> rfl)

structure Eruntime_errorAddressString where
 msg : ByteArray
 addr : Int

instance : Inhabited Eruntime_errorAddressString := ⟨⟨ByteArray.empty, 0⟩⟩

structure Elaw23_Act where
 k : Int
 n : Int
 s : ByteArray
 again : Bool

instance : Inhabited Elaw23_Act := ⟨⟨0, 0, ByteArray.empty, false⟩⟩

def cElaw23_Act (x : Elaw23_Act) : List Value := [.int .i64 x.k, .int .i64 x.n, .string x.s, .bool x.again]

def NElaw23_Act : Rp Elaw23_Act := Rp.flat 4 (fun _ => True) (fun x => cElaw23_Act x) (fun _ => rfl) (fun x c hc => by simp only [cElaw23_Act, List.mem_cons, List.not_mem_nil, or_false] at hc; rcases hc with rfl | rfl | rfl | rfl <;> rfl)

structure EOut where
 to_ : Int
 body : ByteArray

instance : Inhabited EOut := ⟨⟨0, ByteArray.empty⟩⟩

def cEOut (x : EOut) : List Value := [.int .i64 x.to_, .string x.body]

def NEOut : Rp EOut := Rp.flat 2 (fun _ => True) (fun x => cEOut x) (fun _ => rfl) (fun x c hc => by simp only [cEOut, List.mem_cons, List.not_mem_nil, or_false] at hc; rcases hc with rfl | rfl <;> rfl)

def tLinkAL : TabL := ⟨[(59394, 2), (59398, 6), (59399, 7), (67585, 1), (67586, 2), (71682, 2), (71684, 8)], [], [], [(28, (9, 1)), (55, (58, 8))], [(3, (1, false)), (4, (1, false)), (9, (1, false)), (28, (1, false)), (45, (1, false)), (55, (1, false)), (58, (8, true))]⟩

def tLinkA : Tab Try.prog := ⟨tLinkAL, by kernel_rfl⟩

theorem fn_24_YLinkA : IsFn Try.prog 24 := ⟨_, Try.func24, by kernel_rfl, by kernel_rfl⟩

theorem fn_25_YLinkA : IsFn Try.prog 25 := ⟨_, Try.func25, by kernel_rfl, by kernel_rfl⟩

theorem fn_26_YLinkA : IsFn Try.prog 26 := ⟨_, Try.func26, by kernel_rfl, by kernel_rfl⟩

theorem fn_41_YLinkA : IsFn Try.prog 41 := ⟨_, Try.func41, by kernel_rfl, by kernel_rfl⟩

theorem E_55_YLinkA : Elem Try.prog 55 58 8 72 := ⟨Try.underlying55, by
 have h : (Try.prog.info? 58).map (fun i => (i.zero, i.size, i.bytes)) = some (some (.agg #[.int .i64 0, .int .i64 0, .int .i64 0, .int .i64 0, .int .i64 0, .int .i64 0, .bool false, .string ByteArray.empty]), 8, 72) := by kernel_rfl
 obtain ⟨i, hi, h1⟩ := Option.map_eq_some_iff.1 h
 simp only [Prod.mk.injEq] at h1
 exact ⟨i, _, hi, h1.1, h1.2.1, h1.2.2, by rfl⟩, by decide⟩

def F_link_Link_texts (l : Elink_Link) (from_ : Int) : Option Int := some from_

set_option maxHeartbeats 1000000 in
theorem c_link_Link_texts {I D : Dm} {b_l : Nat} {l : Elink_Link} {from_ : Int} {w : World} {rr : Int} (hF : F_link_Link_texts l from_ = some rr) (H : St I D w [OElink_Link b_l l]) :
  Calls Try.prog 25 #[.pointer (some ⟨b_l, 0, none⟩), .int .i64 from_] w (Ret fun vv w' => ∃ g1 g2 : Nat, vv = .func (.func 41) #[] #[.pointer (some ⟨g1, 0, none⟩), .pointer (some ⟨g2, 0, none⟩)] ∧ ∃ I', Hf I D w I' w' [OElink_Link b_l l, BxC g1 3 [.int .i64 rr], BxC g2 45 [.pointer (some ⟨b_l, 0, none⟩)]]) := by
 replace H := H.hf
 unfold F_link_Link_texts at hF
 refine f_enter 6 Try.func25 rfl rfl (Nat.le_of_ble_eq_true rfl) fun a Z => ?_
 replace Z := Z.sub (ts := [0, 1]) rfl
 refine wp_seq (f_region Z ?_); clear Z; intro Z
 refine h_boxv Z H (cl := [.pointer (some ⟨b_l, 0, none⟩)]) rfl rfl rfl (by decide) rfl rfl rfl ?_; clear Z a H; intro a w1 b1 H Z
 refine h_boxv Z H (cl := [.int .i64 from_]) rfl rfl rfl (by decide) rfl rfl rfl ?_; clear Z a H; intro a w2 b2 H Z
 refine s_runk tLinkA Z 1 rfl rfl ?_; clear Z a; intro a Z
 refine s_end Z [2, 3, 4] rfl ?_; clear Z; intro Z
 refine p_then (wp_seq (f_region Z ?_)); clear Z; intro Z
 refine s_runk tLinkA Z 2 rfl rfl ?_; clear Z a; intro a Z
 refine s_end Z [4] rfl ?_; clear Z; intro Z
 refine p_then (wp_ret ?_)
 obtain rfl := some_in hF
 exact f_ret Z (run_results1 rfl Z rfl) ⟨b2, b1, rfl, I, (H.sub [(2, false), (0, false), (0, false)] rfl).eq rfl⟩

def F_link_Link_texts_1_l1 {σ : Type} (y : ESeg → σ → Option (Bool × σ)) (p2 : Elink_Link) (rc : (Int × (Bool × σ)) → Option (Bool × σ)) (sg : Int × (Bool × σ)) : Option (Bool × σ) := match sg with | (i, yY) => if (decide (i < min (p2.q.l.length : Int) 4)) = true then ((F_link_Link_head p2).bind fun h => (chk (inI (h.seq + i)) (chk ((0 : Int) ≤ i ∧ i < (p2.q.l.length : Int)) (chk (yY.1 = true) ((y ({ h with seq := h.seq + i, has := true, body := (p2.q.l.getD (i).toNat default) } : ESeg) yY.2).bind fun r0 => (if (!r0.1) = true then (some r0) else (chk (inI (i + 1)) (rc (i + 1, r0))))))))) else (some yY)

def F_link_Link_texts_1 {σ : Type} (y : ESeg → σ → Option (Bool × σ)) (x0 : Bool × σ) (p1 : Int) (p2 : Elink_Link) : Option (Bool × σ) := iter (F_link_Link_texts_1_l1 y p2) FU (p1, x0)

set_option maxHeartbeats 1000000 in
theorem c_link_Link_texts_1 {σ : Type} {I D : Dm} {Y : Bool × σ → Ch} {y : ESeg → σ → Option (Bool × σ)} {x0 : Bool × σ} {ly : Nat} {b_p1 : Nat} {p1 : Int} {b_p2 : Nat} {p2 : Elink_Link} {bb_p2 : Nat} {w : World} {rr : Bool × σ} (hy : YieldOk Try.prog ly Y (fun (e_ : ESeg) (v_ : Unit) => .agg #[.int .i64 e_.boot, .int .i64 e_.stream, .int .i64 e_.seq, .int .i64 e_.ackBoot, .int .i64 e_.ackStream, .int .i64 e_.ackSeq, .bool e_.has, .string e_.body]) (fun (e_ : ESeg) (v_ : Unit) => []) y) (hF : F_link_Link_texts_1 y x0 p1 p2 = some rr) (H : St I D w [BxC b_p1 3 [.int .i64 p1], BxC b_p2 45 [.pointer (some ⟨bb_p2, 0, none⟩)], OElink_Link bb_p2 p2, Y x0]) :
  Calls Try.prog 41 #[.func (.yield ly) #[] #[], .pointer (some ⟨b_p1, 0, none⟩), .pointer (some ⟨b_p2, 0, none⟩)] w (Ret fun vv w' => vv = .tuple #[] ∧ ∃ I', Hf I D w I' w' [BxC b_p1 3 [.int .i64 p1], BxC b_p2 45 [.pointer (some ⟨bb_p2, 0, none⟩)], OElink_Link bb_p2 p2, Y rr]) := by
 replace H := H.hf
 unfold F_link_Link_texts_1 at hF
 refine f_enter 39 Try.func41 rfl rfl (Nat.le_of_ble_eq_true rfl) fun a Z => ?_
 replace Z := Z.sub (ts := [0, 1, 2]) rfl
 refine wp_seq (f_region Z ?_); clear Z; intro Z
 refine s_ob Z (v := .int .i64 p1) rfl rfl (by decide) rfl (Ob_load tLinkA rfl rfl rfl ((H.bx 0 rfl).cell 0 rfl)) ?_; clear Z a; intro a Z
 refine s_runk tLinkA Z 1 rfl rfl ?_; clear Z a; intro a Z
 refine s_end Z [0, 2, 4] rfl ?_; clear Z; intro Z
 refine p_then (wp_block ?_)
 refine f_iter hF (fun sg a' w' => match sg with | (i, yY) => Sl 39 [(0, .func (.yield ly) #[] #[]), (2, .pointer (some ⟨b_p2, 0, none⟩)), (4, .int .i64 i)] a' ∧ ∃ I2, Hf I D w I2 w' [Y yY, BxC b_p1 3 [.int .i64 p1], BxC b_p2 45 [.pointer (some ⟨bb_p2, 0, none⟩)], OElink_Link bb_p2 p2]) ⟨Z.sub (ts := [0, 2, 4]) rfl, ⟨I, (H.sub [(3, false), (0, false), (0, false), (0, false)] rfl).eq rfl⟩⟩ ?_
 clear Z H hF a
 rintro rc ⟨i, yY⟩ a w1 ⟨Z, I1, H⟩ hF
 unfold F_link_Link_texts_1_l1 at hF
 try dsimp only at hF
 refine wp_seq ?_
 refine wp_seq (f_region Z ?_); clear Z; intro Z
 refine s_runk tLinkA Z 1 rfl rfl ?_; clear Z a; intro a Z
 refine s_ob Z (v := .pointer (some ⟨bb_p2, 0, none⟩)) rfl rfl (by decide) rfl (Ob_load tLinkA rfl rfl rfl ((H.bx 2 rfl).cell 0 rfl)) ?_; clear Z a; intro a Z
 refine s_runk tLinkA Z 3 rfl rfl ?_; clear Z a; intro a Z
 obtain ⟨v1, H⟩ := H.openX 3 rfl
 replace H : Hf I D w I1 w1 [BxC bb_p2 70 (cElink_Link p2 v1), OwC NS 9 v1 p2.q.l, Y yY, BxC b_p1 3 [.int .i64 p1], BxC b_p2 45 [.pointer (some ⟨bb_p2, 0, none⟩)]] := H
 refine s_ob Z (v := v1) rfl rfl (by decide) rfl (Ob_load tLinkA rfl rfl rfl ((H.bx 0 rfl).cell 3 rfl)) ?_; clear Z a; intro a Z
 refine s_ob Z (v := .int .i64 (p2.q.l.length : Int)) rfl rfl (by decide) rfl (Ob_slen tLinkA rfl rfl rfl (H.owshape 1 rfl)) ?_; clear Z a; intro a Z
 refine s_runk tLinkA Z 2 rfl rfl ?_; clear Z a; intro a Z
 refine s_end Z [0, 2, 4, 7, 8, 9, 10, 11, 12, 13, 14, 15] rfl ?_; clear Z; intro Z
 refine p_then ?_
 refine f_cond Z rfl (fun hc1 => ?_) (fun hc1 => ?_)
 ·replace hF := ite_t hc1 hF
  refine wp_skip ?_
  refine p_then (wp_seq ?_)
  refine wp_block ?_
  refine wp_seq ?_
  obtain ⟨h, hx1, hF⟩ := bnd_in hF
  refine f_region Z ?_; clear Z; intro Z
  refine s_ob Z (v := .pointer (some ⟨bb_p2, 0, none⟩)) rfl rfl (by decide) rfl (Ob_load tLinkA rfl rfl rfl ((H.bx 4 rfl).cell 0 rfl)) ?_; clear Z a; intro a Z
  replace H : Hf I D w I1 w1 [OElink_Link bb_p2 p2, Y yY, BxC b_p1 3 [.int .i64 p1], BxC b_p2 45 [.pointer (some ⟨bb_p2, 0, none⟩)]] := H.shutX (v1) [(0, false), (0, false)] rfl
  refine h_call Z H (js := [(0, false)]) rfl (caps := #[]) fn_26_YLinkA rfl rfl rfl rfl rfl (by decide) rfl rfl (fun D1 hS => have hq := c_link_Link_head hx1 hS; hq) ?_; clear Z a; intro vv a w2 D2 hr hF2 Z
  obtain ⟨rfl, I2, K⟩ := hr
  have H : Hf I D w I2 w2 [OElink_Link bb_p2 p2, Y yY, BxC b_p1 3 [.int .i64 p1], BxC b_p2 45 [.pointer (some ⟨bb_p2, 0, none⟩)]] := hF2 K
  clear hF2 K
  refine h_alloc Z H (cl := [.int .i64 0, .int .i64 0, .int .i64 0, .int .i64 0, .int .i64 0, .int .i64 0, .bool false, .string ByteArray.empty]) (z := .agg #[.int .i64 0, .int .i64 0, .int .i64 0, .int .i64 0, .int .i64 0, .int .i64 0, .bool false, .string ByteArray.empty]) rfl rfl rfl (by decide) rfl (by kernel_rfl) rfl ?_; clear Z a H; intro a w3 b1 H Z
  refine h_store tLinkA Z H 0 rfl rfl rfl rfl rfl rfl rfl rfl rfl (one_cons rfl (one_cons rfl (one_cons rfl (one_cons rfl (one_cons rfl (one_cons rfl (one_cons rfl (one_cons rfl one_nil)))))))) (Nat.le_of_ble_eq_true rfl) rfl ?_; clear H; intro w4 H
  dsimp only [List.eraseIdx] at H
  refine s_end Z [0, 2, 4, 7, 8, 9, 10, 11, 12, 13, 14, 15, 18, 19, 5] rfl ?_; clear Z; intro Z
  refine p_then (wp_seq ?_)
  obtain ⟨hg1, hF⟩ := chk_in hF
  obtain ⟨v2, H⟩ := H.openX 1 rfl
  replace H : Hf I D w I2 w4 [BxC bb_p2 70 (cElink_Link p2 v2), OwC NS 9 v2 p2.q.l, BxC b1 58 (cESeg h), Y yY, BxC b_p1 3 [.int .i64 p1], BxC b_p2 45 [.pointer (some ⟨bb_p2, 0, none⟩)]] := H
  obtain ⟨hg2, hF⟩ := chk_in hF
  refine f_regionL Z (by kernel_rfl) (by kernel_rfl) (by decide) (by decide) [13, 15, 17] [(0, 0, 0), (1, 0, 0), (0, 0, 0), (7, 0, 0), (0, 0, 2), (16, 0, 2), (48, 0, 2), (112, 0, 2), (240, 0, 2), (0, 0, 2), (1008, 0, 2), (2032, 0, 2), (15, 0, 0), (4111, 0, 0), (12303, 1, 1), (28687, 1, 1), (65535, 2, 2), (131071, 2, 2)] (by kernel_rfl) (fun jj vv => cond (Nat.blt jj 9) (cond (Nat.blt jj 4) (cond (Nat.blt jj 2) (cond (Nat.blt jj 1) (vv = .pointer (some ⟨b1, 2, none⟩)) (vv = .int .i64 h.seq)) (cond (Nat.blt jj 3) (vv = .int .i64 i) (vv = .int .i64 (h.seq + i)))) (cond (Nat.blt jj 6) (cond (Nat.blt jj 5) (vv = .pointer (some ⟨bb_p2, 0, none⟩)) (vv = .pointer (some ⟨bb_p2, 0, none⟩))) (cond (Nat.blt jj 7) (vv = .pointer (some ⟨bb_p2, 2, none⟩)) (cond (Nat.blt jj 8) (vv = .pointer (some ⟨bb_p2, 3, none⟩)) (vv = v2))))) (cond (Nat.blt jj 13) (cond (Nat.blt jj 11) (cond (Nat.blt jj 10) (vv = .int .i64 i) (vv = .pointer (some ⟨blkOf v2, oofOf v2 + (i).toNat * 1, none⟩))) (cond (Nat.blt jj 12) (vv = .string (p2.q.l.getD (i).toNat default)) (vv = .pointer (some ⟨b1, 2, none⟩)))) (cond (Nat.blt jj 15) (cond (Nat.blt jj 14) (True) (vv = .pointer (some ⟨b1, 6, none⟩))) (cond (Nat.blt jj 16) (True) (cond (Nat.blt jj 17) (vv = .pointer (some ⟨b1, 7, none⟩)) (True)))))) (fun ss vals1 xw => match ss with | 0 => Gx I D w I2 w4 xw [BxC bb_p2 70 (cElink_Link p2 v2), OwC NS 9 v2 p2.q.l, BxC b1 58 (cESeg h), Y yY, BxC b_p1 3 [.int .i64 p1], BxC b_p2 45 [.pointer (some ⟨bb_p2, 0, none⟩)]] | 1 => Gx I D w I2 w4 xw [BxC b1 58 [.int .i64 h.boot, .int .i64 h.stream, .int .i64 (h.seq + i), .int .i64 h.ackBoot, .int .i64 h.ackStream, .int .i64 h.ackSeq, .bool h.has, .string h.body], BxC bb_p2 70 (cElink_Link p2 v2), OwC NS 9 v2 p2.q.l, Y yY, BxC b_p1 3 [.int .i64 p1], BxC b_p2 45 [.pointer (some ⟨bb_p2, 0, none⟩)]] | 2 => Gx I D w I2 w4 xw [BxC b1 58 [.int .i64 h.boot, .int .i64 h.stream, .int .i64 (h.seq + i), .int .i64 h.ackBoot, .int .i64 h.ackStream, .int .i64 h.ackSeq, .bool true, .string h.body], BxC bb_p2 70 (cElink_Link p2 v2), OwC NS 9 v2 p2.q.l, Y yY, BxC b_p1 3 [.int .i64 p1], BxC b_p2 45 [.pointer (some ⟨bb_p2, 0, none⟩)]] | _ => Gx I D w I2 w4 xw [BxC b1 58 [.int .i64 h.boot, .int .i64 h.stream, .int .i64 (h.seq + i), .int .i64 h.ackBoot, .int .i64 h.ackStream, .int .i64 h.ackSeq, .bool true, .string (p2.q.l.getD (i).toNat default)], BxC bb_p2 70 (cElink_Link p2 v2), OwC NS 9 v2 p2.q.l, Y yY, BxC b_p1 3 [.int .i64 p1], BxC b_p2 45 [.pointer (some ⟨bb_p2, 0, none⟩)]]) (fun _ => Gx.start H) ?_ ?_
  ·intro fr hfr hfe
   refine .cons (fun ss hlo hhi vals1 xw hG hV => ?_) ?_
   ·obtain rfl : ss = 0 := Nat.le_antisymm hhi hlo
    rw [← hfe]
    have hS := (hfr vals1).sub (ts := [5]) (S' := [(5, .pointer (some ⟨b1, 0, none⟩))]) rfl
    exact L_val hS rfl (Ob_c tLinkA rfl) ⟨rfl, hG⟩
   refine .cons (fun ss hlo hhi vals1 xw hG hV => ?_) ?_
   ·obtain rfl : ss = 0 := Nat.le_antisymm hhi hlo
    rw [← hfe]
    have hS := (hfr vals1).sub (ts := [20]) (S' := [(20, vals1 0)]) rfl
    replace hS := hS.conv (t := 20) rfl (show (vals1 0) = .pointer (some ⟨b1, 2, none⟩) from hV 0 (by decide))
    obtain ⟨I2, hI2, H⟩ := Gx.ex hG
    exact L_val hS rfl (Ob_load tLinkA rfl rfl rfl ((H.bx 2 rfl).cell 2 rfl)) ⟨rfl, hG⟩
   refine .cons (fun ss hlo hhi vals1 xw hG hV => ?_) ?_
   ·obtain rfl : ss = 0 := Nat.le_antisymm hhi hlo
    rw [← hfe]
    have hS := (hfr vals1).sub (ts := [4]) (S' := [(4, .int .i64 i)]) rfl
    exact L_val hS rfl (Ob_c tLinkA rfl) ⟨rfl, hG⟩
   refine .cons (fun ss hlo hhi vals1 xw hG hV => ?_) ?_
   ·obtain rfl : ss = 0 := Nat.le_antisymm hhi hlo
    rw [← hfe]
    have hS := (hfr vals1).sub (ts := [21, 22]) (S' := [(21, vals1 1), (22, vals1 2)]) rfl
    replace hS := hS.conv (t := 21) rfl (show (vals1 1) = .int .i64 h.seq from hV 1 (by decide))
    replace hS := hS.conv (t := 22) rfl (show (vals1 2) = .int .i64 i from hV 2 (by decide))
    exact L_val hS rfl (Ob_add rfl rfl rfl (wrI hg1)) ⟨rfl, hG⟩
   refine .cons (fun ss hlo hhi vals1 xw hG hV => ?_) ?_
   ·obtain rfl | rfl | rfl : ss = 0 ∨ ss = 1 ∨ ss = 2 := st2 hlo hhi
    all_goals
    ·rw [← hfe]
     have hS := (hfr vals1).sub (ts := [2]) (S' := [(2, .pointer (some ⟨b_p2, 0, none⟩))]) rfl
     obtain ⟨I2, hI2, H⟩ := Gx.ex hG
     exact L_val hS rfl (Ob_load tLinkA rfl rfl rfl ((H.bx 5 rfl).cell 0 rfl)) ⟨rfl, hG⟩
   refine .cons (fun ss hlo hhi vals1 xw hG hV => ?_) ?_
   ·obtain rfl | rfl | rfl : ss = 0 ∨ ss = 1 ∨ ss = 2 := st2 hlo hhi
    all_goals
    ·rw [← hfe]
     have hS := (hfr vals1).sub (ts := [24]) (S' := [(24, vals1 4)]) rfl
     replace hS := hS.conv (t := 24) rfl (show (vals1 4) = .pointer (some ⟨bb_p2, 0, none⟩) from hV 4 (by decide))
     exact L_val hS rfl (Ob_c tLinkA rfl) ⟨rfl, hG⟩
   refine .cons (fun ss hlo hhi vals1 xw hG hV => ?_) ?_
   ·obtain rfl | rfl | rfl : ss = 0 ∨ ss = 1 ∨ ss = 2 := st2 hlo hhi
    all_goals
    ·rw [← hfe]
     have hS := (hfr vals1).sub (ts := [25]) (S' := [(25, vals1 5)]) rfl
     replace hS := hS.conv (t := 25) rfl (show (vals1 5) = .pointer (some ⟨bb_p2, 0, none⟩) from hV 5 (by decide))
     exact L_val hS rfl (Ob_c tLinkA rfl) ⟨rfl, hG⟩
   refine .cons (fun ss hlo hhi vals1 xw hG hV => ?_) ?_
   ·obtain rfl | rfl | rfl : ss = 0 ∨ ss = 1 ∨ ss = 2 := st2 hlo hhi
    all_goals
    ·rw [← hfe]
     have hS := (hfr vals1).sub (ts := [26]) (S' := [(26, vals1 6)]) rfl
     replace hS := hS.conv (t := 26) rfl (show (vals1 6) = .pointer (some ⟨bb_p2, 2, none⟩) from hV 6 (by decide))
     exact L_val hS rfl (Ob_c tLinkA rfl) ⟨rfl, hG⟩
   refine .cons (fun ss hlo hhi vals1 xw hG hV => ?_) ?_
   ·obtain rfl | rfl | rfl : ss = 0 ∨ ss = 1 ∨ ss = 2 := st2 hlo hhi
    ·rw [← hfe]
     have hS := (hfr vals1).sub (ts := [27]) (S' := [(27, vals1 7)]) rfl
     replace hS := hS.conv (t := 27) rfl (show (vals1 7) = .pointer (some ⟨bb_p2, 3, none⟩) from hV 7 (by decide))
     obtain ⟨I2, hI2, H⟩ := Gx.ex hG
     exact L_val hS rfl (Ob_load tLinkA rfl rfl rfl ((H.bx 0 rfl).cell 3 rfl)) ⟨rfl, hG⟩
    ·rw [← hfe]
     have hS := (hfr vals1).sub (ts := [27]) (S' := [(27, vals1 7)]) rfl
     replace hS := hS.conv (t := 27) rfl (show (vals1 7) = .pointer (some ⟨bb_p2, 3, none⟩) from hV 7 (by decide))
     obtain ⟨I2, hI2, H⟩ := Gx.ex hG
     exact L_val hS rfl (Ob_load tLinkA rfl rfl rfl ((H.bx 1 rfl).cell 3 rfl)) ⟨rfl, hG⟩
    ·rw [← hfe]
     have hS := (hfr vals1).sub (ts := [27]) (S' := [(27, vals1 7)]) rfl
     replace hS := hS.conv (t := 27) rfl (show (vals1 7) = .pointer (some ⟨bb_p2, 3, none⟩) from hV 7 (by decide))
     obtain ⟨I2, hI2, H⟩ := Gx.ex hG
     exact L_val hS rfl (Ob_load tLinkA rfl rfl rfl ((H.bx 1 rfl).cell 3 rfl)) ⟨rfl, hG⟩
   refine .cons (fun ss hlo hhi vals1 xw hG hV => ?_) ?_
   ·obtain rfl | rfl | rfl : ss = 0 ∨ ss = 1 ∨ ss = 2 := st2 hlo hhi
    all_goals
    ·rw [← hfe]
     have hS := (hfr vals1).sub (ts := [4]) (S' := [(4, .int .i64 i)]) rfl
     exact L_val hS rfl (Ob_c tLinkA rfl) ⟨rfl, hG⟩
   refine .cons (fun ss hlo hhi vals1 xw hG hV => ?_) ?_
   ·obtain rfl | rfl | rfl : ss = 0 ∨ ss = 1 ∨ ss = 2 := st2 hlo hhi
    ·rw [← hfe]
     have hS := (hfr vals1).sub (ts := [28, 29]) (S' := [(28, vals1 8), (29, vals1 9)]) rfl
     replace hS := hS.conv (t := 28) rfl (show (vals1 8) = v2 from hV 8 (by decide))
     replace hS := hS.conv (t := 29) rfl (show (vals1 9) = .int .i64 i from hV 9 (by decide))
     obtain ⟨I2, hI2, H⟩ := Gx.ex hG
     exact L_val hS rfl (Ob_sidx tLinkA rfl rfl rfl rfl (slPl (H.owA 1 rfl) hg2) hg2) ⟨rfl, hG⟩
    ·rw [← hfe]
     have hS := (hfr vals1).sub (ts := [28, 29]) (S' := [(28, vals1 8), (29, vals1 9)]) rfl
     replace hS := hS.conv (t := 28) rfl (show (vals1 8) = v2 from hV 8 (by decide))
     replace hS := hS.conv (t := 29) rfl (show (vals1 9) = .int .i64 i from hV 9 (by decide))
     obtain ⟨I2, hI2, H⟩ := Gx.ex hG
     exact L_val hS rfl (Ob_sidx tLinkA rfl rfl rfl rfl (slPl (H.owA 2 rfl) hg2) hg2) ⟨rfl, hG⟩
    ·rw [← hfe]
     have hS := (hfr vals1).sub (ts := [28, 29]) (S' := [(28, vals1 8), (29, vals1 9)]) rfl
     replace hS := hS.conv (t := 28) rfl (show (vals1 8) = v2 from hV 8 (by decide))
     replace hS := hS.conv (t := 29) rfl (show (vals1 9) = .int .i64 i from hV 9 (by decide))
     obtain ⟨I2, hI2, H⟩ := Gx.ex hG
     exact L_val hS rfl (Ob_sidx tLinkA rfl rfl rfl rfl (slPl (H.owA 2 rfl) hg2) hg2) ⟨rfl, hG⟩
   refine .cons (fun ss hlo hhi vals1 xw hG hV => ?_) ?_
   ·obtain rfl | rfl | rfl : ss = 0 ∨ ss = 1 ∨ ss = 2 := st2 hlo hhi
    ·rw [← hfe]
     have hS := (hfr vals1).sub (ts := [30]) (S' := [(30, vals1 10)]) rfl
     replace hS := hS.conv (t := 30) rfl (show (vals1 10) = .pointer (some ⟨blkOf v2, oofOf v2 + (i).toNat * 1, none⟩) from hV 10 (by decide))
     obtain ⟨I2, hI2, H⟩ := Gx.ex hG
     exact L_val hS rfl (Ob_load tLinkA rfl rfl rfl ((slFl (H.owA 1 rfl) hg2) 0 _ rfl)) ⟨rfl, hG⟩
    ·rw [← hfe]
     have hS := (hfr vals1).sub (ts := [30]) (S' := [(30, vals1 10)]) rfl
     replace hS := hS.conv (t := 30) rfl (show (vals1 10) = .pointer (some ⟨blkOf v2, oofOf v2 + (i).toNat * 1, none⟩) from hV 10 (by decide))
     obtain ⟨I2, hI2, H⟩ := Gx.ex hG
     exact L_val hS rfl (Ob_load tLinkA rfl rfl rfl ((slFl (H.owA 2 rfl) hg2) 0 _ rfl)) ⟨rfl, hG⟩
    ·rw [← hfe]
     have hS := (hfr vals1).sub (ts := [30]) (S' := [(30, vals1 10)]) rfl
     replace hS := hS.conv (t := 30) rfl (show (vals1 10) = .pointer (some ⟨blkOf v2, oofOf v2 + (i).toNat * 1, none⟩) from hV 10 (by decide))
     obtain ⟨I2, hI2, H⟩ := Gx.ex hG
     exact L_val hS rfl (Ob_load tLinkA rfl rfl rfl ((slFl (H.owA 2 rfl) hg2) 0 _ rfl)) ⟨rfl, hG⟩
   refine .cons (fun ss hlo hhi vals1 xw hG hV => ?_) ?_
   ·obtain rfl : ss = 0 := Nat.le_antisymm hhi hlo
    rw [← hfe]
    have hS := (hfr vals1).sub (ts := [5]) (S' := [(5, .pointer (some ⟨b1, 0, none⟩))]) rfl
    exact L_val hS rfl (Ob_c tLinkA rfl) ⟨rfl, hG⟩
   refine .cons (fun ss hlo hhi vals1 xw hG hV => ?_) ?_
   ·obtain rfl : ss = 0 := Nat.le_antisymm hhi hlo
    rw [← hfe]
    have hS := (hfr vals1).sub (ts := [32, 23]) (S' := [(32, vals1 12), (23, vals1 3)]) rfl
    replace hS := hS.conv (t := 32) rfl (show (vals1 12) = .pointer (some ⟨b1, 2, none⟩) from hV 12 (by decide))
    replace hS := hS.conv (t := 23) rfl (show (vals1 3) = .int .i64 (h.seq + i) from hV 3 (by decide))
    obtain ⟨I2, hI2, H⟩ := Gx.ex hG
    exact L_store tLinkA H 2 rfl hS rfl rfl rfl rfl rfl rfl rfl rfl (one_cons rfl one_nil) (Nat.le_of_ble_eq_true rfl) rfl fun yw hK H => ⟨trivial, Gx.go hG hI2 hK (fun _ h => h) H⟩
   refine .cons (fun ss hlo hhi vals1 xw hG hV => ?_) ?_
   ·obtain rfl : ss = 1 := Nat.le_antisymm hhi hlo
    rw [← hfe]
    have hS := (hfr vals1).sub (ts := [5]) (S' := [(5, .pointer (some ⟨b1, 0, none⟩))]) rfl
    exact L_val hS rfl (Ob_c tLinkA rfl) ⟨rfl, hG⟩
   refine .cons (fun ss hlo hhi vals1 xw hG hV => ?_) ?_
   ·obtain rfl : ss = 1 := Nat.le_antisymm hhi hlo
    rw [← hfe]
    have hS := (hfr vals1).sub (ts := [33]) (S' := [(33, vals1 14)]) rfl
    replace hS := hS.conv (t := 33) rfl (show (vals1 14) = .pointer (some ⟨b1, 6, none⟩) from hV 14 (by decide))
    obtain ⟨I2, hI2, H⟩ := Gx.ex hG
    exact L_store tLinkA H 0 rfl hS rfl rfl rfl rfl rfl rfl rfl rfl (one_cons rfl one_nil) (Nat.le_of_ble_eq_true rfl) rfl fun yw hK H => ⟨trivial, Gx.go hG hI2 hK (fun _ h => h) H⟩
   refine .cons (fun ss hlo hhi vals1 xw hG hV => ?_) ?_
   ·obtain rfl : ss = 2 := Nat.le_antisymm hhi hlo
    rw [← hfe]
    have hS := (hfr vals1).sub (ts := [5]) (S' := [(5, .pointer (some ⟨b1, 0, none⟩))]) rfl
    exact L_val hS rfl (Ob_c tLinkA rfl) ⟨rfl, hG⟩
   refine .cons (fun ss hlo hhi vals1 xw hG hV => ?_) ?_
   ·obtain rfl : ss = 2 := Nat.le_antisymm hhi hlo
    rw [← hfe]
    have hS := (hfr vals1).sub (ts := [34, 31]) (S' := [(34, vals1 16), (31, vals1 11)]) rfl
    replace hS := hS.conv (t := 34) rfl (show (vals1 16) = .pointer (some ⟨b1, 7, none⟩) from hV 16 (by decide))
    replace hS := hS.conv (t := 31) rfl (show (vals1 11) = .string (p2.q.l.getD (i).toNat default) from hV 11 (by decide))
    obtain ⟨I2, hI2, H⟩ := Gx.ex hG
    exact L_store tLinkA H 0 rfl hS rfl rfl rfl rfl rfl rfl rfl rfl (one_cons rfl one_nil) (Nat.le_of_ble_eq_true rfl) rfl fun yw hK H => ⟨trivial, Gx.go hG hI2 hK (fun _ h => h) H⟩
   exact .nil
  ·intro vals1 a w5 Z hG hV
   replace Z := Z.sub (ts := [0, 2, 4, 7, 8, 9, 10, 11, 12, 13, 14, 15, 18, 19, 5, 20, 21, 22, 23, 24, 25, 26, 27, 28, 29, 30, 31, 32, 33, 34]) (S' := [(0, .func (.yield ly) #[] #[]), (2, .pointer (some ⟨b_p2, 0, none⟩)), (4, .int .i64 i), (7, .int .i64 i), (8, .pointer (some ⟨bb_p2, 0, none⟩)), (9, .pointer (some ⟨bb_p2, 0, none⟩)), (10, .pointer (some ⟨bb_p2, 2, none⟩)), (11, .pointer (some ⟨bb_p2, 3, none⟩)), (12, v1), (13, .int .i64 (p2.q.l.length : Int)), (14, .int .i64 (min (p2.q.l.length : Int) 4)), (15, .bool (decide (i < min (p2.q.l.length : Int) 4))), (18, .pointer (some ⟨bb_p2, 0, none⟩)), (19, .agg #[.int .i64 h.boot, .int .i64 h.stream, .int .i64 h.seq, .int .i64 h.ackBoot, .int .i64 h.ackStream, .int .i64 h.ackSeq, .bool h.has, .string h.body]), (5, .pointer (some ⟨b1, 0, none⟩)), (20, vals1 0), (21, vals1 1), (22, vals1 2), (23, vals1 3), (24, vals1 4), (25, vals1 5), (26, vals1 6), (27, vals1 7), (28, vals1 8), (29, vals1 9), (30, vals1 10), (31, vals1 11), (32, vals1 12), (33, vals1 14), (34, vals1 16)]) rfl
   replace Z := Z.conv (t := 20) rfl (show (vals1 0) = .pointer (some ⟨b1, 2, none⟩) from hV 0 (by decide))
   replace Z := Z.conv (t := 21) rfl (show (vals1 1) = .int .i64 h.seq from hV 1 (by decide))
   replace Z := Z.conv (t := 22) rfl (show (vals1 2) = .int .i64 i from hV 2 (by decide))
   replace Z := Z.conv (t := 23) rfl (show (vals1 3) = .int .i64 (h.seq + i) from hV 3 (by decide))
   replace Z := Z.conv (t := 24) rfl (show (vals1 4) = .pointer (some ⟨bb_p2, 0, none⟩) from hV 4 (by decide))
   replace Z := Z.conv (t := 25) rfl (show (vals1 5) = .pointer (some ⟨bb_p2, 0, none⟩) from hV 5 (by decide))
   replace Z := Z.conv (t := 26) rfl (show (vals1 6) = .pointer (some ⟨bb_p2, 2, none⟩) from hV 6 (by decide))
   replace Z := Z.conv (t := 27) rfl (show (vals1 7) = .pointer (some ⟨bb_p2, 3, none⟩) from hV 7 (by decide))
   replace Z := Z.conv (t := 28) rfl (show (vals1 8) = v2 from hV 8 (by decide))
   replace Z := Z.conv (t := 29) rfl (show (vals1 9) = .int .i64 i from hV 9 (by decide))
   replace Z := Z.conv (t := 30) rfl (show (vals1 10) = .pointer (some ⟨blkOf v2, oofOf v2 + (i).toNat * 1, none⟩) from hV 10 (by decide))
   replace Z := Z.conv (t := 31) rfl (show (vals1 11) = .string (p2.q.l.getD (i).toNat default) from hV 11 (by decide))
   replace Z := Z.conv (t := 32) rfl (show (vals1 12) = .pointer (some ⟨b1, 2, none⟩) from hV 12 (by decide))
   replace Z := Z.conv (t := 33) rfl (show (vals1 14) = .pointer (some ⟨b1, 6, none⟩) from hV 14 (by decide))
   replace Z := Z.conv (t := 34) rfl (show (vals1 16) = .pointer (some ⟨b1, 7, none⟩) from hV 16 (by decide))
   obtain ⟨I3, _, H⟩ := Gx.ex hG
   clear hG hV
   replace Z := Z.sub (ts := [0, 2, 4, 7, 8, 9, 10, 11, 12, 13, 14, 15, 18, 19, 5, 20, 21, 22, 23, 24, 25, 26, 27, 28, 29, 30, 31, 32, 33, 34]) rfl
   replace H : Hf I D w I3 w5 [BxC b1 58 [.int .i64 h.boot, .int .i64 h.stream, .int .i64 (h.seq + i), .int .i64 h.ackBoot, .int .i64 h.ackStream, .int .i64 h.ackSeq, .bool true, .string (p2.q.l.getD (i).toNat default)], BxC bb_p2 70 (cElink_Link p2 v2), OwC NS 9 v2 p2.q.l, Y yY, BxC b_p1 3 [.int .i64 p1], BxC b_p2 45 [.pointer (some ⟨bb_p2, 0, none⟩)]] := H
   refine p_then (wp_seq ?_)
   obtain ⟨hg3, hF⟩ := chk_in hF
   obtain ⟨r0, hx2, hF⟩ := bnd_in hF
   refine f_regionY 2 (by kernel_rfl) (by rintro ⟨_, _, h⟩; exact h) Z ?_; clear Z; intro Z
   refine s_runk tLinkA Z 1 rfl rfl ?_; clear Z a; intro a Z
   refine s_ob Z (v := .agg #[.int .i64 h.boot, .int .i64 h.stream, .int .i64 (h.seq + i), .int .i64 h.ackBoot, .int .i64 h.ackStream, .int .i64 h.ackSeq, .bool true, .string (p2.q.l.getD (i).toNat default)]) rfl rfl (by decide) rfl (Ob_loads tLinkA rfl rfl rfl ((H.bx 0 rfl).part 0 rfl)) ?_; clear Z a; intro a Z
   refine s_mid ?_
   refine h_yield Z H (js := [(3, false)]) rfl rfl rfl rfl rfl rfl (by decide) rfl rfl (fun D1 hS => have hq := hy ({ h with seq := h.seq + i, has := true, body := (p2.q.l.getD (i).toNat default) } : ESeg) () yY _ hg3 hx2 hS; hq) ?_; clear Z a; intro vv a w6 D2 hr hF2 Z
   obtain ⟨rfl, I4, K⟩ := hr
   have H : Hf I D w I4 w6 [Y r0, BxC b1 58 [.int .i64 h.boot, .int .i64 h.stream, .int .i64 (h.seq + i), .int .i64 h.ackBoot, .int .i64 h.ackStream, .int .i64 h.ackSeq, .bool true, .string (p2.q.l.getD (i).toNat default)], BxC bb_p2 70 (cElink_Link p2 v2), OwC NS 9 v2 p2.q.l, BxC b_p1 3 [.int .i64 p1], BxC b_p2 45 [.pointer (some ⟨bb_p2, 0, none⟩)]] := hF2 K
   clear hF2 K
   refine l_back (by rintro ⟨_, _, h⟩; exact h) (by kernel_rfl) ?_
   refine s_runk tLinkA Z 1 rfl rfl ?_; clear Z a; intro a Z
   refine s_end Z [0, 2, 4, 7, 8, 9, 10, 11, 12, 13, 14, 15, 18, 19, 5, 20, 21, 22, 23, 24, 25, 26, 27, 28, 29, 30, 31, 32, 33, 34, 35, 36, 37, 38] rfl ?_; clear Z; intro Z
   refine p_then ?_
   refine f_cond Z rfl (fun hc2 => ?_) (fun hc2 => ?_)
   ·replace hF := ite_t hc2 hF
    refine wp_ret ?_
    refine p_blk_r ?_
    refine p_then_r ?_
    refine p_then_r ?_
    refine p_blk_r ?_
    replace H : Hf I D w I4 w6 [OElink_Link bb_p2 p2, Y r0, BxC b1 58 [.int .i64 h.boot, .int .i64 h.stream, .int .i64 (h.seq + i), .int .i64 h.ackBoot, .int .i64 h.ackStream, .int .i64 h.ackSeq, .bool true, .string (p2.q.l.getD (i).toNat default)], BxC b_p1 3 [.int .i64 p1], BxC b_p2 45 [.pointer (some ⟨bb_p2, 0, none⟩)]] := H.shutX (v2) [(2, false), (2, false)] rfl
    obtain rfl := some_in hF
    exact f_ret Z (run_results0 rfl) ⟨rfl, I4, (H.sub [(3, false), (3, false), (0, false), (0, false)] rfl).eq rfl⟩
   ·replace hF := ite_f hc2 hF
    refine wp_skip ?_
    refine p_blk ?_
    refine p_then ?_
    obtain ⟨hg4, hF⟩ := chk_in hF
    refine f_region Z ?_; clear Z; intro Z
    refine s_runk tLinkA Z 1 rfl rfl ?_; clear Z a; intro a Z
    refine s_ob Z (v := .int .i64 (i + 1)) rfl rfl (by decide) rfl (Ob_add rfl rfl rfl (wrI hg4)) ?_; clear Z a; intro a Z
    refine s_runk tLinkA Z 1 rfl rfl ?_; clear Z a; intro a Z
    refine s_end Z [0, 2, 4, 7, 8, 9, 10, 11, 12, 13, 14, 15, 18, 19, 5, 20, 21, 22, 23, 24, 25, 26, 27, 28, 29, 30, 31, 32, 33, 34, 35, 36, 37, 38, 16, 17] rfl ?_; clear Z; intro Z
    refine p_then ?_
    replace H : Hf I D w I4 w6 [OElink_Link bb_p2 p2, Y r0, BxC b1 58 [.int .i64 h.boot, .int .i64 h.stream, .int .i64 (h.seq + i), .int .i64 h.ackBoot, .int .i64 h.ackStream, .int .i64 h.ackSeq, .bool true, .string (p2.q.l.getD (i).toNat default)], BxC b_p1 3 [.int .i64 p1], BxC b_p2 45 [.pointer (some ⟨bb_p2, 0, none⟩)]] := H.shutX (v2) [(2, false), (2, false)] rfl
    exact ⟨(i + 1, r0), ⟨Z.sub (ts := [0, 2, 4]) rfl, ⟨I4, (H.sub [(1, false), (2, false), (2, false), (0, false)] rfl).eq rfl⟩⟩, hF⟩
 ·replace hF := ite_f hc1 hF
  refine wp_exit ?_
  refine p_then_x ?_
  refine p_then_x ?_
  refine f_exit_here ?_
  replace H : Hf I D w I1 w1 [OElink_Link bb_p2 p2, Y yY, BxC b_p1 3 [.int .i64 p1], BxC b_p2 45 [.pointer (some ⟨bb_p2, 0, none⟩)]] := H.shutX (v1) [(0, false), (0, false)] rfl
  obtain rfl := some_in hF
  exact f_fall Z (run_results0 rfl) ⟨rfl, I1, (H.sub [(2, false), (2, false), (0, false), (0, false)] rfl).eq rfl⟩

def F_link_Link_Out_y2 (e_ : ESeg) (sg : (List ESeg)) : Option (Bool × (List ESeg)) := match sg with | out => chk (((out.length + [e_].length : Nat) : Int) * 72 ≤ 140737488355328) (some (true, (out ++ [e_])))

def F_link_Link_Out_k3 (l : Elink_Link) (out_2 : List ESeg) : Option ((List ESeg) × Elink_Link) := some (out_2, ({ l with q := ({ l.q with told := max l.q.told (min (l.q.l.length : Int) 4) } : Elink_queue_string), owes := false } : Elink_Link))

def F_link_Link_Out_k1 (l : Elink_Link) (from_ : Int) : Option ((List ESeg) × Elink_Link) := (F_link_Link_texts l from_).bind fun t => ((F_link_Link_texts_1 F_link_Link_Out_y2 (true, ([] : List ESeg)) t l).bind fun r0 => (if (r0.1) = true then (if (((r0.2.length : Int) == 0) && l.owes) = true then ((F_link_Link_head l).bind fun h => (chk (((r0.2.length + [h].length : Nat) : Int) * 72 ≤ 140737488355328) (F_link_Link_Out_k3 l (r0.2 ++ [h])))) else (F_link_Link_Out_k3 l r0.2)) else (none)))

def F_link_Link_Out (l : Elink_Link) (again : Bool) : Option ((List ESeg) × Elink_Link) := (F_link_Link_none l).bind fun n0 => (if (n0) = true then (some (([] : List ESeg), l)) else (if (again) = true then (F_link_Link_Out_k1 l 0) else (F_link_Link_Out_k1 l l.q.told)))

set_option maxHeartbeats 1000000 in
theorem c_link_Link_Out {I D : Dm} {b_l : Nat} {l : Elink_Link} {again : Bool} {w : World} {rr : (List ESeg) × Elink_Link} (hF : F_link_Link_Out l again = some rr) (H : St I D w [OElink_Link b_l l]) :
  Calls Try.prog 17 #[.pointer (some ⟨b_l, 0, none⟩), .bool again] w (Ret fun vv w' => ∃ q1 : Value, vv = q1 ∧ ∃ I', Hf I D w I' w' [OElink_Link b_l rr.2, SlC NESeg q1 rr.1]) := by
 replace H := H.hf
 unfold F_link_Link_Out at hF
 refine f_enterM 59 Try.func17 rfl rfl (Nat.le_of_ble_eq_true rfl) fun a Z => ?_
 replace Z := Z.sub (ts := [0, 1]) rfl
 refine wp_seq (f_region Z ?_); clear Z; intro Z
 refine s_runk tLinkA Z 1 rfl rfl ?_; clear Z a; intro a Z
 refine s_end Z [0, 1, 4] rfl ?_; clear Z; intro Z
 refine p_then (wp_seq ?_)
 refine wp_seq ?_
 obtain ⟨n0, hx1, hF⟩ := bnd_in hF
 refine f_region Z ?_; clear Z; intro Z
 refine s_runk tLinkA Z 1 rfl rfl ?_; clear Z a; intro a Z
 refine h_call Z H (js := [(0, false)]) rfl (caps := #[]) fn_24_YLinkA rfl rfl rfl rfl rfl (by decide) rfl rfl (fun D1 hS => have hq := c_link_Link_none hx1 hS; hq) ?_; clear Z a; intro vv a w1 D2 hr hF2 Z
 obtain ⟨rfl, I1, K⟩ := hr
 have H : Hf I D w I1 w1 [OElink_Link b_l l] := hF2 K
 clear hF2 K
 refine s_end Z [0, 1, 4, 9] rfl ?_; clear Z; intro Z
 refine p_then ?_
 refine f_cond Z rfl (fun hc1 => ?_) (fun hc1 => ?_)
 ·replace hF := ite_t hc1 hF
  refine wp_seq (f_region Z ?_); clear Z; intro Z
  refine s_runk tLinkA Z 1 rfl rfl ?_; clear Z a; intro a Z
  refine s_end Z [0, 1, 4] rfl ?_; clear Z; intro Z
  refine p_then (wp_ret ?_)
  refine p_then_r ?_
  replace H : Hf I D w I1 w1 [SlC NESeg (.slice none 0 0) ([] : List ESeg), OElink_Link b_l l] := H.slNil NESeg
  obtain rfl := some_in hF
  exact f_retM0 Z (run_results1 rfl Z rfl) ⟨.slice none 0 0, rfl, I1, (H.sub [(1, false), (0, true)] rfl).eq rfl⟩
 ·replace hF := ite_f hc1 hF
  refine wp_skip ?_
  refine p_then (wp_seq (f_region Z ?_)); clear Z; intro Z
  refine s_runk tLinkA Z 4 rfl rfl ?_; clear Z a; intro a Z
  obtain ⟨v1, H⟩ := H.openX 0 rfl
  replace H : Hf I D w I1 w1 [BxC b_l 70 (cElink_Link l v1), OwC NS 9 v1 l.q.l] := H
  refine s_ob Z (v := .int .i64 l.q.told) rfl rfl (by decide) rfl (Ob_load tLinkA rfl rfl rfl ((H.bx 0 rfl).cell 4 rfl)) ?_; clear Z a; intro a Z
  refine s_runk tLinkA Z 1 rfl rfl ?_; clear Z a; intro a Z
  refine s_end Z [0, 1, 4, 5] rfl ?_; clear Z; intro Z
  refine p_then ?_
  refine f_cut (fun a' w' => ∃ (from_ : Int), Sl 59 [(0, .pointer (some ⟨b_l, 0, none⟩)), (4, .slice none 0 0), (5, .int .i64 from_)] a' ∧ (∃ I2, Hf I D w I2 w' [BxC b_l 70 (cElink_Link l v1), OwC NS 9 v1 l.q.l]) ∧ F_link_Link_Out_k1 l from_ = some rr) ?_ ?_
  ·rintro a w2 ⟨from_, Z, ⟨I2, H⟩, hF⟩
   unfold F_link_Link_Out_k1 at hF
   try dsimp only at hF
   refine wp_seq (f_region Z ?_); clear Z; intro Z
   refine h_alloc Z H (cl := [.slice none 0 0]) (z := .slice none 0 0) rfl rfl rfl (by decide) rfl (by kernel_rfl) rfl ?_; clear Z a H; intro a w3 b1 H Z
   refine s_end Z [0, 4, 5, 6] rfl ?_; clear Z; intro Z
   refine p_then (wp_seq ?_)
   refine wp_seq ?_
   obtain ⟨t, hx2, hF⟩ := bnd_in hF
   refine f_region Z ?_; clear Z; intro Z
   refine s_runk tLinkA Z 2 rfl rfl ?_; clear Z a; intro a Z
   replace H : Hf I D w I2 w3 [OElink_Link b_l l, BxC b1 55 [.slice none 0 0]] := H.shutX (v1) [(1, false), (1, false)] rfl
   refine h_call Z H (js := [(0, false)]) rfl (caps := #[]) fn_25_YLinkA rfl rfl rfl rfl rfl (by decide) rfl rfl (fun D1 hS => have hq := c_link_Link_texts hx2 hS; hq) ?_; clear Z a; intro vv a w4 D2 hr hF2 Z
   obtain ⟨g1, g2, rfl, I3, K⟩ := hr
   have H : Hf I D w I3 w4 [OElink_Link b_l l, BxC g1 3 [.int .i64 t], BxC g2 45 [.pointer (some ⟨b_l, 0, none⟩)], BxC b1 55 [.slice none 0 0]] := hF2 K
   clear hF2 K
   refine s_end Z [0, 4, 6, 18] rfl ?_; clear Z; intro Z
   refine p_then (wp_block ?_)
   replace H : Hf I D w I3 w4 [OwC NESeg 58 (.slice none 0 0) ([] : List ESeg), OElink_Link b_l l, BxC g1 3 [.int .i64 t], BxC g2 45 [.pointer (some ⟨b_l, 0, none⟩)], BxC b1 55 [.slice none 0 0]] := H.nilow NESeg 58
   replace H := Hf.shutX (f := fun (xv_ : Value) => [BxC b1 55 [xv_], OwC NESeg 58 xv_ ([] : List ESeg)]) (.slice none 0 0) H [(4, false), (0, false)] rfl
   obtain ⟨r0, hx3, hF⟩ := bnd_in hF
   refine f_rangeFunc (KC := (fun (sg_ : (List ESeg)) => ExC fun (xv_ : Value) => [BxC b1 55 [xv_], OwC NESeg 58 xv_ sg_])) (s0 := ([] : List ESeg)) (enc := (fun (e_ : ESeg) (v_ : Unit) => .agg #[.int .i64 e_.boot, .int .i64 e_.stream, .int .i64 e_.seq, .int .i64 e_.ackBoot, .int .i64 e_.ackStream, .int .i64 e_.ackSeq, .bool e_.has, .string e_.body])) (ech := (fun (e_ : ESeg) (v_ : Unit) => [])) (c0 := .skip) (rr := r0) Z H (js := [(0, false), (1, false), (1, false), (0, false)]) rfl [BxC g1 3 [.int .i64 t], BxC g2 45 [.pointer (some ⟨b_l, 0, none⟩)], OElink_Link b_l l] fn_41_YLinkA rfl (by decide) ?_ (fun L Y hyk hS => have hq := c_link_Link_texts_1 hyk hx3 hS; Ret.mono hq fun _ _ h => h.2) ?_
   ·clear hF H Z
    intro m I D w L D0 fn tm e_ v_ sg_ rr a hF Z H
    obtain ⟨out, rfl⟩ : ∃ x_, x_ = sg_ := ⟨_, rfl⟩
    obtain ⟨v2, H⟩ := H.openX 1 rfl
    replace H : Hf I D w I w [BxC b1 55 [v2], OwC NESeg 58 v2 out, LpC L (lrec fn tm #[19] _ _ D0 .ready none)] := H
    unfold F_link_Link_Out_y2 at hF; try dsimp only at hF
    refine f_regionI (by kernel_rfl) (by rintro ⟨_, _, h⟩; exact h) Z ?_; clear Z; intro Z
    refine h_alloc Z H (cl := [.int .i64 0, .int .i64 0, .int .i64 0, .int .i64 0, .int .i64 0, .int .i64 0, .bool false, .string ByteArray.empty]) (z := .agg #[.int .i64 0, .int .i64 0, .int .i64 0, .int .i64 0, .int .i64 0, .int .i64 0, .bool false, .string ByteArray.empty]) rfl rfl rfl (by decide) rfl (by kernel_rfl) rfl ?_; clear Z a H; intro a w6 b2 H Z
    refine h_store tLinkA Z H 0 rfl rfl rfl rfl rfl rfl rfl rfl rfl (one_cons rfl (one_cons rfl (one_cons rfl (one_cons rfl (one_cons rfl (one_cons rfl (one_cons rfl (one_cons rfl one_nil)))))))) (Nat.le_of_ble_eq_true rfl) rfl ?_; clear H; intro w7 H
    dsimp only [List.eraseIdx] at H
    refine s_end Z [0, 4, 6, 18, 19, 7] rfl ?_; clear Z; intro Z
    refine p_begin H 3 rfl fun w8 H => ?_
    replace H : Hf I D w I w8 [LpC L (lrec fn tm #[19] _ _ D0 .busy none), BxC b2 58 (cESeg e_), BxC b1 55 [v2], OwC NESeg 58 v2 out] := H
    refine wpIn_block ?_
    obtain ⟨hg1, hF⟩ := chk_in hF
    refine f_regionI (by kernel_rfl) (by rintro ⟨_, _, h⟩; exact h) Z ?_; clear Z; intro Z
    refine s_ob Z (v := v2) rfl rfl (by decide) rfl (Ob_load tLinkA rfl rfl rfl ((H.bx 2 rfl).cell 0 rfl)) ?_; clear Z a; intro a Z
    refine s_ob Z (v := .agg #[.int .i64 e_.boot, .int .i64 e_.stream, .int .i64 e_.seq, .int .i64 e_.ackBoot, .int .i64 e_.ackStream, .int .i64 e_.ackSeq, .bool e_.has, .string e_.body]) rfl rfl (by decide) rfl (Ob_loads tLinkA rfl rfl rfl ((H.bx 1 rfl).part 0 rfl)) ?_; clear Z a; intro a Z
    refine h_bslice Z H (vs := [(0, .agg #[.int .i64 e_.boot, .int .i64 e_.stream, .int .i64 e_.seq, .int .i64 e_.ackBoot, .int .i64 e_.ackStream, .int .i64 e_.ackSeq, .bool e_.has, .string e_.body])]) (cl := [.int .i64 e_.boot, .int .i64 e_.stream, .int .i64 e_.seq, .int .i64 e_.ackBoot, .int .i64 e_.ackStream, .int .i64 e_.ackSeq, .bool e_.has, .string e_.body]) (e := 58) rfl rfl rfl (by decide) rfl rfl (fun w => run_bslice (z := .agg #[.int .i64 0, .int .i64 0, .int .i64 0, .int .i64 0, .int .i64 0, .int .i64 0, .bool false, .string ByteArray.empty]) (m := 8) Try.underlying55 (by kernel_rfl) rfl rfl (by decide) (by simp [Instr.fill, Value.cells]) w) ?_; clear Z a H; intro a w9 b3 H Z
    refine h_appO Z H 4 E_55_YLinkA [e_] rfl rfl rfl rfl rfl (by decide) rfl rfl rfl (slRep2.box1 (H.bx 0 rfl) ⟨rfl, trivial⟩) hg1 (by decide) ?_; clear Z a H; intro v3 a w10 H Z
    dsimp only [List.eraseIdx] at H
    replace H : Hf I D w I w10 [OwC NESeg 58 v3 (out ++ [e_]), LpC L (lrec fn tm #[19] _ _ D0 .busy none), BxC b2 58 (cESeg e_), BxC b1 55 [v2]] := H.sub [(0, false), (1, false), (1, false), (1, false)] rfl
    refine h_store tLinkA Z H 3 rfl rfl rfl rfl rfl rfl (slS.cells (H.owshape 0 rfl)) rfl rfl (one_cons (slS.one (H.owshape 0 rfl)) one_nil) (Nat.le_of_ble_eq_true rfl) rfl ?_; clear H; intro w11 H
    dsimp only [List.eraseIdx] at H
    refine s_end Z [0, 4, 6, 18, 19, 7, 20, 21, 22, 23] rfl ?_; clear Z; intro Z
    refine p_blk ?_
    refine y_norm H 2 rfl fun w12 H => ?_
    obtain rfl := some_in hF
    exact ⟨rfl, I, ((Hf.shutX (f := fun (xv_ : Value) => [BxC b1 55 [xv_], OwC NESeg 58 xv_ (out ++ [e_])]) v3 H [(1, false), (1, false)] rfl).sub [(1, false), (0, false)] rfl).eq rfl⟩
   ·intro D0_1 a w13 I5 Z H
    obtain ⟨v4, H⟩ := H.openX 1 rfl
    replace H : Hf I D w I5 w13 [BxC b1 55 [v4], OwC NESeg 58 v4 r0.2, DfC D0_1, BxC g1 3 [.int .i64 t], BxC g2 45 [.pointer (some ⟨b_l, 0, none⟩)], OElink_Link b_l l] := H
    refine ⟨fun hc2 => ?_, fun hc2 => ?_⟩
    ·replace hF := ite_t hc2 hF
     refine p_blk ?_
     refine p_then ?_
     refine f_cut (fun a' w' => ∃ (out_2 : List ESeg), ∃ v5 : Value, SlD [{ target := .collected D0_1, args := #[] }] 59 [(0, .pointer (some ⟨b_l, 0, none⟩)), (4, .slice none 0 0), (6, .pointer (some ⟨b1, 0, none⟩))] a' ∧ (∃ I2, Hf I D w I2 w' [OElink_Link b_l l, BxC b1 55 [v5], DfC D0_1, OwC NESeg 58 v5 out_2]) ∧ F_link_Link_Out_k3 l out_2 = some rr) ?_ ?_
     ·rintro a w14 ⟨out_2, v5, Z, ⟨I6, H⟩, hF⟩
      unfold F_link_Link_Out_k3 at hF
      try dsimp only at hF
      refine wp_seq ?_
      obtain ⟨v6, H⟩ := H.openX 0 rfl
      replace H : Hf I D w I6 w14 [BxC b_l 70 (cElink_Link l v6), OwC NS 9 v6 l.q.l, BxC b1 55 [v5], DfC D0_1, OwC NESeg 58 v5 out_2] := H
      refine f_regionL Z (by kernel_rfl) (by kernel_rfl) (by decide) (by decide) [17, 21] [(0, 0, 0), (0, 0, 1), (0, 0, 0), (4, 0, 0), (12, 0, 0), (28, 0, 0), (60, 0, 0), (0, 0, 0), (128, 0, 0), (384, 0, 0), (896, 0, 0), (1920, 0, 0), (3968, 0, 1), (8064, 0, 1), (16380, 0, 1), (4093, 0, 0), (36861, 0, 0), (102397, 0, 0), (262143, 1, 1), (524287, 1, 1), (1048575, 1, 1), (2097151, 1, 1)] (by kernel_rfl) (fun jj vv => cond (Nat.blt jj 11) (cond (Nat.blt jj 5) (cond (Nat.blt jj 2) (cond (Nat.blt jj 1) (vv = .pointer (some ⟨b_l, 0, none⟩)) (vv = .pointer (some ⟨b_l, 0, none⟩))) (cond (Nat.blt jj 3) (vv = .pointer (some ⟨b_l, 0, none⟩)) (cond (Nat.blt jj 4) (vv = .pointer (some ⟨b_l, 0, none⟩)) (vv = .pointer (some ⟨b_l, 2, none⟩))))) (cond (Nat.blt jj 8) (cond (Nat.blt jj 6) (vv = .pointer (some ⟨b_l, 4, none⟩)) (cond (Nat.blt jj 7) (vv = .int .i64 l.q.told) (vv = .pointer (some ⟨b_l, 0, none⟩)))) (cond (Nat.blt jj 9) (vv = .pointer (some ⟨b_l, 0, none⟩)) (cond (Nat.blt jj 10) (vv = .pointer (some ⟨b_l, 2, none⟩)) (vv = .pointer (some ⟨b_l, 3, none⟩)))))) (cond (Nat.blt jj 16) (cond (Nat.blt jj 13) (cond (Nat.blt jj 12) (vv = v6) (vv = .int .i64 (l.q.l.length : Int))) (cond (Nat.blt jj 14) (vv = .int .i64 (min (l.q.l.length : Int) 4)) (cond (Nat.blt jj 15) (vv = .int .i64 (max l.q.told (min (l.q.l.length : Int) 4))) (vv = .pointer (some ⟨b_l, 0, none⟩))))) (cond (Nat.blt jj 19) (cond (Nat.blt jj 17) (vv = .pointer (some ⟨b_l, 8, none⟩)) (cond (Nat.blt jj 18) (True) (vv = .pointer (some ⟨b_l, 0, none⟩)))) (cond (Nat.blt jj 20) (vv = .pointer (some ⟨b_l, 2, none⟩)) (cond (Nat.blt jj 21) (vv = .pointer (some ⟨b_l, 4, none⟩)) (True)))))) (fun ss vals1 xw => match ss with | 0 => Gx I D w I6 w14 xw [BxC b_l 70 (cElink_Link l v6), OwC NS 9 v6 l.q.l, BxC b1 55 [v5], DfC D0_1, OwC NESeg 58 v5 out_2] | 1 => Gx I D w I6 w14 xw [BxC b_l 70 [.int .i64 l.boot, .int .i64 l.stream, .int .i64 l.q.first, v6, .int .i64 l.q.told, .int .i64 l.peer.boot, .int .i64 l.peer.stream, .int .i64 l.peer.next, .bool false], OwC NS 9 v6 l.q.l, BxC b1 55 [v5], DfC D0_1, OwC NESeg 58 v5 out_2] | _ => Gx I D w I6 w14 xw [BxC b_l 70 [.int .i64 l.boot, .int .i64 l.stream, .int .i64 l.q.first, v6, .int .i64 (max l.q.told (min (l.q.l.length : Int) 4)), .int .i64 l.peer.boot, .int .i64 l.peer.stream, .int .i64 l.peer.next, .bool false], OwC NS 9 v6 l.q.l, BxC b1 55 [v5], DfC D0_1, OwC NESeg 58 v5 out_2]) (fun _ => Gx.start H) ?_ ?_
      ·intro fr hfr hfe
       refine .cons (fun ss hlo hhi vals1 xw hG hV => ?_) ?_
       ·obtain rfl : ss = 0 := Nat.le_antisymm hhi hlo
        rw [← hfe]
        have hS := (hfr vals1).sub (ts := [0]) (S' := [(0, .pointer (some ⟨b_l, 0, none⟩))]) rfl
        exact L_val hS rfl (Ob_c tLinkA rfl) ⟨rfl, hG⟩
       refine .cons (fun ss hlo hhi vals1 xw hG hV => ?_) ?_
       ·obtain rfl | rfl : ss = 0 ∨ ss = 1 := st1 hlo hhi
        all_goals
        ·rw [← hfe]
         have hS := (hfr vals1).sub (ts := [0]) (S' := [(0, .pointer (some ⟨b_l, 0, none⟩))]) rfl
         exact L_val hS rfl (Ob_c tLinkA rfl) ⟨rfl, hG⟩
       refine .cons (fun ss hlo hhi vals1 xw hG hV => ?_) ?_
       ·obtain rfl : ss = 0 := Nat.le_antisymm hhi hlo
        rw [← hfe]
        have hS := (hfr vals1).sub (ts := [0]) (S' := [(0, .pointer (some ⟨b_l, 0, none⟩))]) rfl
        exact L_val hS rfl (Ob_c tLinkA rfl) ⟨rfl, hG⟩
       refine .cons (fun ss hlo hhi vals1 xw hG hV => ?_) ?_
       ·obtain rfl : ss = 0 := Nat.le_antisymm hhi hlo
        rw [← hfe]
        have hS := (hfr vals1).sub (ts := [40]) (S' := [(40, vals1 2)]) rfl
        replace hS := hS.conv (t := 40) rfl (show (vals1 2) = .pointer (some ⟨b_l, 0, none⟩) from hV 2 (by decide))
        exact L_val hS rfl (Ob_c tLinkA rfl) ⟨rfl, hG⟩
       refine .cons (fun ss hlo hhi vals1 xw hG hV => ?_) ?_
       ·obtain rfl : ss = 0 := Nat.le_antisymm hhi hlo
        rw [← hfe]
        have hS := (hfr vals1).sub (ts := [41]) (S' := [(41, vals1 3)]) rfl
        replace hS := hS.conv (t := 41) rfl (show (vals1 3) = .pointer (some ⟨b_l, 0, none⟩) from hV 3 (by decide))
        exact L_val hS rfl (Ob_c tLinkA rfl) ⟨rfl, hG⟩
       refine .cons (fun ss hlo hhi vals1 xw hG hV => ?_) ?_
       ·obtain rfl : ss = 0 := Nat.le_antisymm hhi hlo
        rw [← hfe]
        have hS := (hfr vals1).sub (ts := [42]) (S' := [(42, vals1 4)]) rfl
        replace hS := hS.conv (t := 42) rfl (show (vals1 4) = .pointer (some ⟨b_l, 2, none⟩) from hV 4 (by decide))
        exact L_val hS rfl (Ob_c tLinkA rfl) ⟨rfl, hG⟩
       refine .cons (fun ss hlo hhi vals1 xw hG hV => ?_) ?_
       ·obtain rfl : ss = 0 := Nat.le_antisymm hhi hlo
        rw [← hfe]
        have hS := (hfr vals1).sub (ts := [43]) (S' := [(43, vals1 5)]) rfl
        replace hS := hS.conv (t := 43) rfl (show (vals1 5) = .pointer (some ⟨b_l, 4, none⟩) from hV 5 (by decide))
        obtain ⟨I2, hI2, H⟩ := Gx.ex hG
        exact L_val hS rfl (Ob_load tLinkA rfl rfl rfl ((H.bx 0 rfl).cell 4 rfl)) ⟨rfl, hG⟩
       refine .cons (fun ss hlo hhi vals1 xw hG hV => ?_) ?_
       ·obtain rfl : ss = 0 := Nat.le_antisymm hhi hlo
        rw [← hfe]
        have hS := (hfr vals1).sub (ts := [0]) (S' := [(0, .pointer (some ⟨b_l, 0, none⟩))]) rfl
        exact L_val hS rfl (Ob_c tLinkA rfl) ⟨rfl, hG⟩
       refine .cons (fun ss hlo hhi vals1 xw hG hV => ?_) ?_
       ·obtain rfl : ss = 0 := Nat.le_antisymm hhi hlo
        rw [← hfe]
        have hS := (hfr vals1).sub (ts := [45]) (S' := [(45, vals1 7)]) rfl
        replace hS := hS.conv (t := 45) rfl (show (vals1 7) = .pointer (some ⟨b_l, 0, none⟩) from hV 7 (by decide))
        exact L_val hS rfl (Ob_c tLinkA rfl) ⟨rfl, hG⟩
       refine .cons (fun ss hlo hhi vals1 xw hG hV => ?_) ?_
       ·obtain rfl : ss = 0 := Nat.le_antisymm hhi hlo
        rw [← hfe]
        have hS := (hfr vals1).sub (ts := [46]) (S' := [(46, vals1 8)]) rfl
        replace hS := hS.conv (t := 46) rfl (show (vals1 8) = .pointer (some ⟨b_l, 0, none⟩) from hV 8 (by decide))
        exact L_val hS rfl (Ob_c tLinkA rfl) ⟨rfl, hG⟩
       refine .cons (fun ss hlo hhi vals1 xw hG hV => ?_) ?_
       ·obtain rfl : ss = 0 := Nat.le_antisymm hhi hlo
        rw [← hfe]
        have hS := (hfr vals1).sub (ts := [47]) (S' := [(47, vals1 9)]) rfl
        replace hS := hS.conv (t := 47) rfl (show (vals1 9) = .pointer (some ⟨b_l, 2, none⟩) from hV 9 (by decide))
        exact L_val hS rfl (Ob_c tLinkA rfl) ⟨rfl, hG⟩
       refine .cons (fun ss hlo hhi vals1 xw hG hV => ?_) ?_
       ·obtain rfl : ss = 0 := Nat.le_antisymm hhi hlo
        rw [← hfe]
        have hS := (hfr vals1).sub (ts := [48]) (S' := [(48, vals1 10)]) rfl
        replace hS := hS.conv (t := 48) rfl (show (vals1 10) = .pointer (some ⟨b_l, 3, none⟩) from hV 10 (by decide))
        obtain ⟨I2, hI2, H⟩ := Gx.ex hG
        exact L_val hS rfl (Ob_load tLinkA rfl rfl rfl ((H.bx 0 rfl).cell 3 rfl)) ⟨rfl, hG⟩
       refine .cons (fun ss hlo hhi vals1 xw hG hV => ?_) ?_
       ·obtain rfl | rfl : ss = 0 ∨ ss = 1 := st1 hlo hhi
        all_goals
        ·rw [← hfe]
         have hS := (hfr vals1).sub (ts := [49]) (S' := [(49, vals1 11)]) rfl
         replace hS := hS.conv (t := 49) rfl (show (vals1 11) = v6 from hV 11 (by decide))
         obtain ⟨I2, hI2, H⟩ := Gx.ex hG
         exact L_val hS rfl (Ob_slen tLinkA rfl rfl rfl (H.owshape 1 rfl)) ⟨rfl, hG⟩
       refine .cons (fun ss hlo hhi vals1 xw hG hV => ?_) ?_
       ·obtain rfl | rfl : ss = 0 ∨ ss = 1 := st1 hlo hhi
        all_goals
        ·rw [← hfe]
         have hS := (hfr vals1).sub (ts := [50]) (S' := [(50, vals1 12)]) rfl
         replace hS := hS.conv (t := 50) rfl (show (vals1 12) = .int .i64 (l.q.l.length : Int) from hV 12 (by decide))
         exact L_val hS rfl (Ob_c tLinkA rfl) ⟨rfl, hG⟩
       refine .cons (fun ss hlo hhi vals1 xw hG hV => ?_) ?_
       ·obtain rfl | rfl : ss = 0 ∨ ss = 1 := st1 hlo hhi
        all_goals
        ·rw [← hfe]
         have hS := (hfr vals1).sub (ts := [44, 51]) (S' := [(44, vals1 6), (51, vals1 13)]) rfl
         replace hS := hS.conv (t := 44) rfl (show (vals1 6) = .int .i64 l.q.told from hV 6 (by decide))
         replace hS := hS.conv (t := 51) rfl (show (vals1 13) = .int .i64 (min (l.q.l.length : Int) 4) from hV 13 (by decide))
         exact L_val hS rfl (Ob_c tLinkA rfl) ⟨rfl, hG⟩
       refine .cons (fun ss hlo hhi vals1 xw hG hV => ?_) ?_
       ·obtain rfl : ss = 0 := Nat.le_antisymm hhi hlo
        rw [← hfe]
        have hS := (hfr vals1).sub (ts := [38]) (S' := [(38, vals1 0)]) rfl
        replace hS := hS.conv (t := 38) rfl (show (vals1 0) = .pointer (some ⟨b_l, 0, none⟩) from hV 0 (by decide))
        exact L_val hS rfl (Ob_c tLinkA rfl) ⟨rfl, hG⟩
       refine .cons (fun ss hlo hhi vals1 xw hG hV => ?_) ?_
       ·obtain rfl : ss = 0 := Nat.le_antisymm hhi hlo
        rw [← hfe]
        have hS := (hfr vals1).sub (ts := [53]) (S' := [(53, vals1 15)]) rfl
        replace hS := hS.conv (t := 53) rfl (show (vals1 15) = .pointer (some ⟨b_l, 0, none⟩) from hV 15 (by decide))
        exact L_val hS rfl (Ob_c tLinkA rfl) ⟨rfl, hG⟩
       refine .cons (fun ss hlo hhi vals1 xw hG hV => ?_) ?_
       ·obtain rfl : ss = 0 := Nat.le_antisymm hhi hlo
        rw [← hfe]
        have hS := (hfr vals1).sub (ts := [54]) (S' := [(54, vals1 16)]) rfl
        replace hS := hS.conv (t := 54) rfl (show (vals1 16) = .pointer (some ⟨b_l, 8, none⟩) from hV 16 (by decide))
        obtain ⟨I2, hI2, H⟩ := Gx.ex hG
        exact L_store tLinkA H 0 rfl hS rfl rfl rfl rfl rfl rfl rfl rfl (one_cons rfl one_nil) (Nat.le_of_ble_eq_true rfl) rfl fun yw hK H => ⟨trivial, Gx.go hG hI2 hK (fun _ h => h) H⟩
       refine .cons (fun ss hlo hhi vals1 xw hG hV => ?_) ?_
       ·obtain rfl : ss = 1 := Nat.le_antisymm hhi hlo
        rw [← hfe]
        have hS := (hfr vals1).sub (ts := [39]) (S' := [(39, vals1 1)]) rfl
        replace hS := hS.conv (t := 39) rfl (show (vals1 1) = .pointer (some ⟨b_l, 0, none⟩) from hV 1 (by decide))
        exact L_val hS rfl (Ob_c tLinkA rfl) ⟨rfl, hG⟩
       refine .cons (fun ss hlo hhi vals1 xw hG hV => ?_) ?_
       ·obtain rfl : ss = 1 := Nat.le_antisymm hhi hlo
        rw [← hfe]
        have hS := (hfr vals1).sub (ts := [55]) (S' := [(55, vals1 18)]) rfl
        replace hS := hS.conv (t := 55) rfl (show (vals1 18) = .pointer (some ⟨b_l, 0, none⟩) from hV 18 (by decide))
        exact L_val hS rfl (Ob_c tLinkA rfl) ⟨rfl, hG⟩
       refine .cons (fun ss hlo hhi vals1 xw hG hV => ?_) ?_
       ·obtain rfl : ss = 1 := Nat.le_antisymm hhi hlo
        rw [← hfe]
        have hS := (hfr vals1).sub (ts := [56]) (S' := [(56, vals1 19)]) rfl
        replace hS := hS.conv (t := 56) rfl (show (vals1 19) = .pointer (some ⟨b_l, 2, none⟩) from hV 19 (by decide))
        exact L_val hS rfl (Ob_c tLinkA rfl) ⟨rfl, hG⟩
       refine .cons (fun ss hlo hhi vals1 xw hG hV => ?_) ?_
       ·obtain rfl : ss = 1 := Nat.le_antisymm hhi hlo
        rw [← hfe]
        have hS := (hfr vals1).sub (ts := [57, 52]) (S' := [(57, vals1 20), (52, vals1 14)]) rfl
        replace hS := hS.conv (t := 57) rfl (show (vals1 20) = .pointer (some ⟨b_l, 4, none⟩) from hV 20 (by decide))
        replace hS := hS.conv (t := 52) rfl (show (vals1 14) = .int .i64 (max l.q.told (min (l.q.l.length : Int) 4)) from hV 14 (by decide))
        obtain ⟨I2, hI2, H⟩ := Gx.ex hG
        exact L_store tLinkA H 0 rfl hS rfl rfl rfl rfl rfl rfl rfl rfl (one_cons rfl one_nil) (Nat.le_of_ble_eq_true rfl) rfl fun yw hK H => ⟨trivial, Gx.go hG hI2 hK (fun _ h => h) H⟩
       exact .nil
      ·intro vals1 a w15 Z hG hV
       replace Z := Z.sub (ts := [4, 6]) (S' := [(4, .slice none 0 0), (6, .pointer (some ⟨b1, 0, none⟩))]) rfl
       obtain ⟨I7, _, H⟩ := Gx.ex hG
       clear hG hV
       replace Z := Z.sub (ts := [4, 6]) rfl
       replace H : Hf I D w I7 w15 [BxC b_l 70 [.int .i64 l.boot, .int .i64 l.stream, .int .i64 l.q.first, v6, .int .i64 (max l.q.told (min (l.q.l.length : Int) 4)), .int .i64 l.peer.boot, .int .i64 l.peer.stream, .int .i64 l.peer.next, .bool false], OwC NS 9 v6 l.q.l, BxC b1 55 [v5], DfC D0_1, OwC NESeg 58 v5 out_2] := H
       refine p_then (wp_seq (f_region Z ?_)); clear Z; intro Z
       refine s_ob Z (v := v5) rfl rfl (by decide) rfl (Ob_load tLinkA rfl rfl rfl ((H.bx 2 rfl).cell 0 rfl)) ?_; clear Z a; intro a Z
       refine s_runk tLinkA Z 1 rfl rfl ?_; clear Z a; intro a Z
       refine s_end Z [4] rfl ?_; clear Z; intro Z
       refine p_then (wp_ret ?_)
       refine f_retM Z H 3 rfl fun w16 H => ?_
       replace H : Hf I D w I7 w16 [ObC D0_1 (.deferred none), BxC b_l 70 [.int .i64 l.boot, .int .i64 l.stream, .int .i64 l.q.first, v6, .int .i64 (max l.q.told (min (l.q.l.length : Int) 4)), .int .i64 l.peer.boot, .int .i64 l.peer.stream, .int .i64 l.peer.next, .bool false], OwC NS 9 v6 l.q.l, BxC b1 55 [v5], OwC NESeg 58 v5 out_2] := H
       obtain ⟨I8, _, H⟩ := H.frzow 4 rfl
       replace H : Hf I D w I8 w16 [SlC NESeg v5 out_2, ObC D0_1 (.deferred none), BxC b_l 70 [.int .i64 l.boot, .int .i64 l.stream, .int .i64 l.q.first, v6, .int .i64 (max l.q.told (min (l.q.l.length : Int) 4)), .int .i64 l.peer.boot, .int .i64 l.peer.stream, .int .i64 l.peer.next, .bool false], OwC NS 9 v6 l.q.l, BxC b1 55 [v5]] := H
       replace H : Hf I D w I8 w16 [OElink_Link b_l ({ l with q := ({ l.q with told := max l.q.told (min (l.q.l.length : Int) 4) } : Elink_queue_string), owes := false } : Elink_Link), SlC NESeg v5 out_2, ObC D0_1 (.deferred none), BxC b1 55 [v5]] := H.shutX (v6) [(2, false), (2, false)] rfl
       obtain rfl := some_in hF
       exact ⟨_, (run_results1 rfl Z rfl), v5, rfl, I8, (H.sub [(0, false), (0, true)] rfl).eq rfl⟩
     ·skip
      refine wp_seq (f_region Z ?_); clear Z; intro Z
      refine s_ob Z (v := v4) rfl rfl (by decide) rfl (Ob_load tLinkA rfl rfl rfl ((H.bx 0 rfl).cell 0 rfl)) ?_; clear Z a; intro a Z
      refine s_ob Z (v := .int .i64 (r0.2.length : Int)) rfl rfl (by decide) rfl (Ob_slen tLinkA rfl rfl rfl (H.owshape 1 rfl)) ?_; clear Z a; intro a Z
      refine s_runk tLinkA Z 2 rfl rfl ?_; clear Z a; intro a Z
      refine g_ob Z (p := ((r0.2.length : Int) == 0)) (v := .pointer (some ⟨b_l, 0, none⟩)) (S' := [(0, .pointer (some ⟨b_l, 0, none⟩))]) rfl rfl rfl (wantB_t _) rfl (by decide) (fun hp hS => hS.sub (ts := [0]) rfl) (fun hp => Ob_c tLinkA rfl) ?_; clear Z a; intro a Z
      refine g_ob Z (p := ((r0.2.length : Int) == 0)) (v := .pointer (some ⟨b_l, 0, none⟩)) (S' := [(28, .pointer (some ⟨b_l, 0, none⟩))]) rfl rfl rfl (wantB_t _) rfl (by decide) (fun hp hS => (hS.conv (t := 28) rfl (cond_t hp)).sub (ts := [28]) rfl) (fun hp => Ob_c tLinkA rfl) ?_; clear Z a; intro a Z
      refine g_ob Z (p := ((r0.2.length : Int) == 0)) (v := .pointer (some ⟨b_l, 8, none⟩)) (S' := [(29, .pointer (some ⟨b_l, 0, none⟩))]) rfl rfl rfl (wantB_t _) rfl (by decide) (fun hp hS => (hS.conv (t := 29) rfl (cond_t hp)).sub (ts := [29]) rfl) (fun hp => Ob_c tLinkA rfl) ?_; clear Z a; intro a Z
      obtain ⟨v7, H⟩ := H.openX 5 rfl
      replace H : Hf I D w I5 w13 [BxC b_l 70 (cElink_Link l v7), OwC NS 9 v7 l.q.l, BxC b1 55 [v4], OwC NESeg 58 v4 r0.2, DfC D0_1, BxC g1 3 [.int .i64 t], BxC g2 45 [.pointer (some ⟨b_l, 0, none⟩)]] := H
      refine g_ob Z (p := ((r0.2.length : Int) == 0)) (v := .bool l.owes) (S' := [(30, .pointer (some ⟨b_l, 8, none⟩))]) rfl rfl rfl (wantB_t _) rfl (by decide) (fun hp hS => (hS.conv (t := 30) rfl (cond_t hp)).sub (ts := [30]) rfl) (fun hp => Ob_load tLinkA rfl rfl rfl ((H.bx 0 rfl).cell 8 rfl)) ?_; clear Z a; intro a Z
      refine s_ob Z (v := .bool (((r0.2.length : Int) == 0) && l.owes)) rfl rfl (by decide) rfl (Ob_pick rfl rfl rfl rfl (pick_and _ _)) ?_; clear Z a; intro a Z
      refine s_end Z [0, 4, 6, 32] rfl ?_; clear Z; intro Z
      refine p_then ?_
      refine f_cond Z rfl (fun hc3 => ?_) (fun hc3 => ?_)
      ·replace hF := ite_t hc3 hF
       replace H : Hf I D w I5 w13 [OElink_Link b_l l, BxC b1 55 [v4], OwC NESeg 58 v4 r0.2, DfC D0_1, BxC g1 3 [.int .i64 t], BxC g2 45 [.pointer (some ⟨b_l, 0, none⟩)]] := H.shutX (v7) [(0, false), (0, false)] rfl
       obtain ⟨h, hx4, hF⟩ := bnd_in hF
       obtain ⟨hg2, hF⟩ := chk_in hF
       refine f_regionL Z (by kernel_rfl) (by kernel_rfl) (by decide) (by decide) [2, 3, 4, 5] [(0, 0, 2), (0, 0, 0), (2, 0, 0), (6, 1, 1), (15, 2, 2), (31, 3, 3)] (by kernel_rfl) (fun jj vv => match jj with | 0 => vv = v4 | 1 => vv = .pointer (some ⟨b_l, 0, none⟩) | 2 => vv = .agg #[.int .i64 h.boot, .int .i64 h.stream, .int .i64 h.seq, .int .i64 h.ackBoot, .int .i64 h.ackStream, .int .i64 h.ackSeq, .bool h.has, .string h.body] | 3 => vv = .slice (some ⟨blkOf vv, 0, none⟩) 1 1 | 4 => True | 5 => True | _ => True) (fun ss vals2 xw => match ss with | 0 => Gx I D w I5 w13 xw [OElink_Link b_l l, BxC b1 55 [v4], OwC NESeg 58 v4 r0.2, DfC D0_1, BxC g1 3 [.int .i64 t], BxC g2 45 [.pointer (some ⟨b_l, 0, none⟩)]] | 1 => Gx I D w I5 w13 xw [OElink_Link b_l l, BxC b1 55 [v4], OwC NESeg 58 v4 r0.2, DfC D0_1, BxC g1 3 [.int .i64 t], BxC g2 45 [.pointer (some ⟨b_l, 0, none⟩)]] | 2 => Gx I D w I5 w13 xw [BxC (blkOf (vals2 3)) 58 [.int .i64 h.boot, .int .i64 h.stream, .int .i64 h.seq, .int .i64 h.ackBoot, .int .i64 h.ackStream, .int .i64 h.ackSeq, .bool h.has, .string h.body], OElink_Link b_l l, BxC b1 55 [v4], OwC NESeg 58 v4 r0.2, DfC D0_1, BxC g1 3 [.int .i64 t], BxC g2 45 [.pointer (some ⟨b_l, 0, none⟩)]] | 3 => Gx I D w I5 w13 xw [OwC NESeg 58 (vals2 4) (r0.2 ++ [h]), OElink_Link b_l l, BxC b1 55 [v4], DfC D0_1, BxC g1 3 [.int .i64 t], BxC g2 45 [.pointer (some ⟨b_l, 0, none⟩)]] | _ => Gx I D w I5 w13 xw [BxC b1 55 [(vals2 4)], OwC NESeg 58 (vals2 4) (r0.2 ++ [h]), OElink_Link b_l l, DfC D0_1, BxC g1 3 [.int .i64 t], BxC g2 45 [.pointer (some ⟨b_l, 0, none⟩)]]) (fun _ => Gx.start H) ?_ ?_
       ·intro fr hfr hfe
        refine .cons (fun ss hlo hhi vals2 xw hG hV => ?_) ?_
        ·obtain rfl | rfl | rfl : ss = 0 ∨ ss = 1 ∨ ss = 2 := st2 hlo hhi
         ·rw [← hfe]
          have hS := (hfr vals2).sub (ts := [6]) (S' := [(6, .pointer (some ⟨b1, 0, none⟩))]) rfl
          obtain ⟨I2, hI2, H⟩ := Gx.ex hG
          exact L_val hS rfl (Ob_load tLinkA rfl rfl rfl ((H.bx 1 rfl).cell 0 rfl)) ⟨rfl, hG⟩
         ·rw [← hfe]
          have hS := (hfr vals2).sub (ts := [6]) (S' := [(6, .pointer (some ⟨b1, 0, none⟩))]) rfl
          obtain ⟨I2, hI2, H⟩ := Gx.ex hG
          exact L_val hS rfl (Ob_load tLinkA rfl rfl rfl ((H.bx 1 rfl).cell 0 rfl)) ⟨rfl, hG⟩
         ·rw [← hfe]
          have hS := (hfr vals2).sub (ts := [6]) (S' := [(6, .pointer (some ⟨b1, 0, none⟩))]) rfl
          obtain ⟨I2, hI2, H⟩ := Gx.ex hG
          exact L_val hS rfl (Ob_load tLinkA rfl rfl rfl ((H.bx 2 rfl).cell 0 rfl)) ⟨rfl, hG⟩
        refine .cons (fun ss hlo hhi vals2 xw hG hV => ?_) ?_
        ·obtain rfl : ss = 0 := Nat.le_antisymm hhi hlo
         rw [← hfe]
         have hS := (hfr vals2).sub (ts := [0]) (S' := [(0, .pointer (some ⟨b_l, 0, none⟩))]) rfl
         exact L_val hS rfl (Ob_c tLinkA rfl) ⟨rfl, hG⟩
        refine .cons (fun ss hlo hhi vals2 xw hG hV => ?_) ?_
        ·obtain rfl : ss = 0 := Nat.le_antisymm hhi hlo
         rw [← hfe]
         have hS := (hfr vals2).sub (ts := [34]) (S' := [(34, vals2 1)]) rfl
         replace hS := hS.conv (t := 34) rfl (show (vals2 1) = .pointer (some ⟨b_l, 0, none⟩) from hV 1 (by decide))
         obtain ⟨I2, hI2, H⟩ := Gx.ex hG
         refine L_hcall H (js := [(0, false)]) rfl (caps := #[]) hS fn_26_YLinkA rfl rfl rfl rfl rfl (fun D1 hS => have hq := c_link_Link_head hx4 hS; hq) fun _ yw D1 hr hF2 => ?_
         obtain ⟨rfl, I3, K⟩ := hr
         obtain ⟨hK, H2⟩ := hF2 K
         exact ⟨rfl, Gx.go hG hI2 hK K.imm H2⟩
        refine .cons (fun ss hlo hhi vals2 xw hG hV => ?_) ?_
        ·obtain rfl : ss = 1 := Nat.le_antisymm hhi hlo
         rw [← hfe]
         have hS := (hfr vals2).sub (ts := [35]) (S' := [(35, vals2 2)]) rfl
         replace hS := hS.conv (t := 35) rfl (show (vals2 2) = .agg #[.int .i64 h.boot, .int .i64 h.stream, .int .i64 h.seq, .int .i64 h.ackBoot, .int .i64 h.ackStream, .int .i64 h.ackSeq, .bool h.has, .string h.body] from hV 2 (by decide))
         obtain ⟨I2, hI2, H⟩ := Gx.ex hG
         exact L_bslice H (vs := [(0, .agg #[.int .i64 h.boot, .int .i64 h.stream, .int .i64 h.seq, .int .i64 h.ackBoot, .int .i64 h.ackStream, .int .i64 h.ackSeq, .bool h.has, .string h.body])]) (cl := [.int .i64 h.boot, .int .i64 h.stream, .int .i64 h.seq, .int .i64 h.ackBoot, .int .i64 h.ackStream, .int .i64 h.ackSeq, .bool h.has, .string h.body]) (e := 58) hS rfl rfl rfl (fun w => run_bslice (z := .agg #[.int .i64 0, .int .i64 0, .int .i64 0, .int .i64 0, .int .i64 0, .int .i64 0, .bool false, .string ByteArray.empty]) (m := 8) Try.underlying55 (by kernel_rfl) rfl rfl (by decide) (by simp [Instr.fill, Value.cells]) w) fun yw b hK H => ⟨rfl, Gx.go hG hI2 hK (fun _ h => h) H⟩
        refine .cons (fun ss hlo hhi vals2 xw hG hV => ?_) ?_
        ·obtain rfl : ss = 2 := Nat.le_antisymm hhi hlo
         rw [← hfe]
         have hS := (hfr vals2).sub (ts := [33, 36]) (S' := [(33, vals2 0), (36, vals2 3)]) rfl
         replace hS := hS.conv (t := 33) rfl (show (vals2 0) = v4 from hV 0 (by decide))
         replace hS := hS.conv (t := 36) rfl (show (vals2 3) = .slice (some ⟨blkOf (vals2 3), 0, none⟩) 1 1 from hV 3 (by decide))
         obtain ⟨I2, hI2, H⟩ := Gx.ex hG
         exact L_appO H 3 E_55_YLinkA [h] rfl rfl hS rfl rfl rfl rfl (slRep2.box1 (H.bx 0 rfl) ⟨rfl, trivial⟩) hg2 (by decide) fun v yw hK H => ⟨trivial, Gx.go hG hI2 hK (fun _ h => h) (H.sub [(0, false), (1, false), (1, false), (1, false), (1, false), (1, false)] rfl)⟩
        refine .cons (fun ss hlo hhi vals2 xw hG hV => ?_) ?_
        ·obtain rfl : ss = 3 := Nat.le_antisymm hhi hlo
         rw [← hfe]
         have hS := (hfr vals2).sub (ts := [37, 6]) (S' := [(37, vals2 4), (6, .pointer (some ⟨b1, 0, none⟩))]) rfl
         obtain ⟨I2, hI2, H⟩ := Gx.ex hG
         exact L_store tLinkA H 2 rfl hS rfl rfl rfl rfl rfl (slS.cells (H.owshape 0 rfl)) rfl rfl (one_cons (slS.one (H.owshape 0 rfl)) one_nil) (Nat.le_of_ble_eq_true rfl) rfl fun yw hK H => ⟨trivial, Gx.go hG hI2 hK (fun _ h => h) H⟩
        exact .nil
       ·intro vals2 a w17 Z hG hV
        replace Z := Z.sub (ts := [0, 4, 6]) (S' := [(0, .pointer (some ⟨b_l, 0, none⟩)), (4, .slice none 0 0), (6, .pointer (some ⟨b1, 0, none⟩))]) rfl
        obtain ⟨I9, _, H⟩ := Gx.ex hG
        clear hG hV
        replace Z := Z.sub (ts := [0, 4, 6]) rfl
        replace H : Hf I D w I9 w17 [BxC b1 55 [(vals2 4)], OwC NESeg 58 (vals2 4) (r0.2 ++ [h]), OElink_Link b_l l, DfC D0_1, BxC g1 3 [.int .i64 t], BxC g2 45 [.pointer (some ⟨b_l, 0, none⟩)]] := H
        refine p_then ?_
        exact ⟨r0.2 ++ [h], (vals2 4), Z.sub (ts := [0, 4, 6]) rfl, ⟨I9, (H.sub [(2, false), (0, false), (1, false), (0, false)] rfl).eq rfl⟩, hF⟩
      ·replace hF := ite_f hc3 hF
       refine wp_skip ?_
       refine p_then ?_
       replace H : Hf I D w I5 w13 [OElink_Link b_l l, BxC b1 55 [v4], OwC NESeg 58 v4 r0.2, DfC D0_1, BxC g1 3 [.int .i64 t], BxC g2 45 [.pointer (some ⟨b_l, 0, none⟩)]] := H.shutX (v7) [(0, false), (0, false)] rfl
       exact ⟨r0.2, v4, Z.sub (ts := [0, 4, 6]) rfl, ⟨I5, (H.sub [(0, false), (0, false), (1, false), (0, false)] rfl).eq rfl⟩, hF⟩
    ·replace hF := ite_f hc2 hF
     cases hF
  ·skip
   refine wp_seq (f_region Z ?_); clear Z; intro Z
   refine s_runk tLinkA Z 1 rfl rfl ?_; clear Z a; intro a Z
   refine s_end Z [0, 4, 5, 15] rfl ?_; clear Z; intro Z
   refine p_then ?_
   refine f_cond Z rfl (fun hc4 => ?_) (fun hc4 => ?_)
   ·replace hF := ite_t hc4 hF
    refine f_region Z ?_; clear Z; intro Z
    refine s_runk tLinkA Z 1 rfl rfl ?_; clear Z a; intro a Z
    refine s_end Z [0, 4, 5] rfl ?_; clear Z; intro Z
    refine p_then ?_
    exact ⟨0, Z.sub (ts := [0, 4, 5]) rfl, ⟨I1, (H.sub [(0, false), (0, false)] rfl).eq rfl⟩, hF⟩
   ·replace hF := ite_f hc4 hF
    refine wp_skip ?_
    refine p_then ?_
    exact ⟨l.q.told, Z.sub (ts := [0, 4, 5]) rfl, ⟨I1, (H.sub [(0, false), (0, false)] rfl).eq rfl⟩, hF⟩

end Go.Proofs.Ytghkhndlpfmpfaa
