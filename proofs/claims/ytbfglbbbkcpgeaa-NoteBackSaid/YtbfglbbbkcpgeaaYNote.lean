/- Notes. -/
import Derived.Test.YtbfglbbbkcpgeaaYItem
import Derived.Test.YtbfglbbbkcpgeaaYConf1
namespace Go.Proofs.Ytbfglbbbkcpgeaa
open Go.RowKit
structure EPin where
 id : Int
 at_ : Int
 left : Int

instance : Inhabited EPin := ⟨⟨0, 0, 0⟩⟩

def eqEPin (x y : EPin) : Bool := (x.id == y.id) && (x.at_ == y.at_) && (x.left == y.left)

theorem eqEPin_iff {x y : EPin} : eqEPin x y = true ↔ x = y := by cases x; cases y; simp [eqEPin, seqB_iff, and_assoc]

def cEPin (x : EPin) : List Value := [.int .i64 x.id, .int .u64 x.at_, .int .i64 x.left]

def NEPin : Rp EPin := Rp.flat 3 (fun _ => True) (fun x => cEPin x) (fun _ => rfl) (fun x c hc => by simp only [cEPin, List.mem_cons, List.not_mem_nil, or_false] at hc; rcases hc with rfl | rfl | rfl <;> rfl)

structure EAnswer where
 client : Int
 req : Int
 e : Int
 pin : Int

instance : Inhabited EAnswer := ⟨⟨0, 0, 0, 0⟩⟩

def eqEAnswer (x y : EAnswer) : Bool := (x.client == y.client) && (x.req == y.req) && (x.e == y.e) && (x.pin == y.pin)

theorem eqEAnswer_iff {x y : EAnswer} : eqEAnswer x y = true ↔ x = y := by cases x; cases y; simp [eqEAnswer, seqB_iff, and_assoc]

def cEAnswer (x : EAnswer) : List Value := [.int .i64 x.client, .int .i64 x.req, .int .i64 x.e, .int .i64 x.pin]

def NEAnswer : Rp EAnswer := Rp.flat 4 (fun _ => True) (fun x => cEAnswer x) (fun _ => rfl) (fun x c hc => by simp only [cEAnswer, List.mem_cons, List.not_mem_nil, or_false] at hc; rcases hc with rfl | rfl | rfl | rfl <;> rfl)

structure ENote where
 k : Int
 n : Int
 at_ : Int
 conf : EConf
 legit : List Int
 entry : EEntry
 pin : EPin
 said : EAnswer

instance : Inhabited ENote := ⟨⟨0, 0, 0, default, [], default, default, default⟩⟩

def cENote (x : ENote) (v0 : Value) (v1 : Value) (v2 : Value) : List Value := [.int .i64 x.k, .int .i64 x.n, .int .u64 x.at_, .int .i64 x.conf.epoch, v0, .int .u64 x.conf.floor, v1, .int .i64 x.entry.batch.client, .int .i64 x.entry.batch.req, v2, .int .u64 x.entry.ts, .int .i64 x.pin.id, .int .u64 x.pin.at_, .int .i64 x.pin.left, .int .i64 x.said.client, .int .i64 x.said.req, .int .i64 x.said.e, .int .i64 x.said.pin]

def NENote : Rp ENote where
 n := 18
 rep A w cs x := ∃ v0 v1 v2 : Value, cs = cENote x v0 v1 v2 ∧ slRep NEMember A w v0 x.conf.members ∧ slRep Ni64 A w v1 x.legit ∧ slRep NEOp A w v2 x.entry.batch.ops
 len := fun ⟨v0, v1, v2, h, _⟩ => by rw [h]; rfl
 one := fun ⟨v0, v1, v2, h, s0, s1, s2⟩ c hc => by
  rw [h] at hc
  simp only [cENote, List.mem_cons, List.not_mem_nil, or_false] at hc
  rcases hc with rfl | rfl | rfl | rfl | rfl | rfl | rfl | rfl | rfl | rfl | rfl | rfl | rfl | rfl | rfl | rfl | rfl | rfl
  ·rfl
  ·rfl
  ·rfl
  ·rfl
  ·exact s0.one
  ·rfl
  ·exact s1.one
  ·rfl
  ·rfl
  ·exact s2.one
  ·rfl
  ·rfl
  ·rfl
  ·rfl
  ·rfl
  ·rfl
  ·rfl
  ·rfl
 mono := fun ⟨v0, v1, v2, h, s0, s1, s2⟩ hA hk => ⟨v0, v1, v2, h, s0.mono hA hk, s1.mono hA hk, s2.mono hA hk⟩
 bound := fun ⟨v0, v1, v2, h, s0, s1, s2⟩ => ⟨v0, v1, v2, h, s0.bound, s1.bound, s2.bound⟩

def tNL : TabL := ⟨[(34816, 0), (34817, 1), (34818, 2), (37888, 0), (37889, 1), (37890, 2), (37891, 3), (39936, 0), (39937, 1), (39938, 2), (39939, 3), (39940, 6), (39941, 7), (39942, 11), (39943, 14)], [], [], [(27, (3, 1))], [(3, (1, false)), (23, (1, false)), (26, (3, true)), (27, (1, false)), (32, (4, true)), (35, (1, false)), (37, (4, true)), (39, (18, true)), (80, (2, true))]⟩

def tN : Tab Try.prog := ⟨tNL, by kernel_rfl⟩

theorem fn_14_YNote : IsFn Try.prog 14 := ⟨_, Try.func14, by kernel_rfl, by kernel_rfl⟩

theorem fn_30_YNote : IsFn Try.prog 30 := ⟨_, Try.func30, by kernel_rfl, by kernel_rfl⟩

theorem fn_31_YNote : IsFn Try.prog 31 := ⟨_, Try.func31, by kernel_rfl, by kernel_rfl⟩

theorem fn_32_YNote : IsFn Try.prog 32 := ⟨_, Try.func32, by kernel_rfl, by kernel_rfl⟩

theorem fn_33_YNote : IsFn Try.prog 33 := ⟨_, Try.func33, by kernel_rfl, by kernel_rfl⟩

theorem fn_34_YNote : IsFn Try.prog 34 := ⟨_, Try.func34, by kernel_rfl, by kernel_rfl⟩

theorem fn_35_YNote : IsFn Try.prog 35 := ⟨_, Try.func35, by kernel_rfl, by kernel_rfl⟩

theorem fn_36_YNote : IsFn Try.prog 36 := ⟨_, Try.func36, by kernel_rfl, by kernel_rfl⟩

theorem fn_43_YNote : IsFn Try.prog 43 := ⟨_, Try.func43, by kernel_rfl, by kernel_rfl⟩

theorem fn_44_YNote : IsFn Try.prog 44 := ⟨_, Try.func44, by kernel_rfl, by kernel_rfl⟩

theorem fn_45_YNote : IsFn Try.prog 45 := ⟨_, Try.func45, by kernel_rfl, by kernel_rfl⟩

theorem fn_46_YNote : IsFn Try.prog 46 := ⟨_, Try.func46, by kernel_rfl, by kernel_rfl⟩

theorem fn_47_YNote : IsFn Try.prog 47 := ⟨_, Try.func47, by kernel_rfl, by kernel_rfl⟩

theorem fn_80_YNote : IsFn Try.prog 80 := ⟨_, Try.func80, by kernel_rfl, by kernel_rfl⟩

theorem fn_81_YNote : IsFn Try.prog 81 := ⟨_, Try.func81, by kernel_rfl, by kernel_rfl⟩

theorem fn_82_YNote : IsFn Try.prog 82 := ⟨_, Try.func82, by kernel_rfl, by kernel_rfl⟩

def F_ref10_legit_l1 (l : List Int) (rc : Int → Option Int) (sg : Int) : Option Int := match sg with | i => if (decide (i < (l.length : Int))) = true then (chk ((0 : Int) ≤ i ∧ i < (l.length : Int)) (chk ((!(decide ((l.getD (i).toNat default) < 0))) = true → (0 : Int) ≤ i ∧ i < (l.length : Int)) (if ((decide ((l.getD (i).toNat default) < 0)) || (decide ((l.getD (i).toNat default) ≥ 4))) = true then (some 1) else (chk ((decide (i > 0)) = true → inI (i - 1)) (chk ((decide (i > 0)) = true → (0 : Int) ≤ i - 1 ∧ i - 1 < (l.length : Int)) (chk ((decide (i > 0)) = true → (0 : Int) ≤ i ∧ i < (l.length : Int)) (if ((decide (i > 0)) && (decide ((l.getD (i - 1).toNat default) ≥ (l.getD (i).toNat default)))) = true then (some 18) else (chk (inI (i + 1)) (rc (i + 1)))))))))) else (some 0)

def F_ref10_legit (l : List Int) : Option Int := if (decide ((l.length : Int) > 4)) = true then (some 6) else (iter (F_ref10_legit_l1 l) FU 0)

def F_note_legit_1 (i : Int) (x : Int) (p2 : List Int) : Option Int := if ((decide (x < 0)) || (decide (x ≥ 4))) = true then (some 1) else (chk ((decide (i > 0)) = true → inI (i - 1)) (chk ((decide (i > 0)) = true → (0 : Int) ≤ i - 1 ∧ i - 1 < (p2.length : Int)) (if ((decide (i > 0)) && (decide ((p2.getD (i - 1).toNat default) ≥ x))) = true then (some 18) else (some 0))))

set_option maxHeartbeats 1000000 in
theorem c_note_legit_1 {I D : Dm} {i : Int} {x : Int} {b_p2 : Nat} {p2 : List Int} {v1_p2 : Value} {w : World} {rr : Int} (hF : F_note_legit_1 i x p2 = some rr) (H : St I D w [BxC b_p2 27 [v1_p2], SlC Ni64 v1_p2 p2]) :
  Calls Try.prog 81 #[.int .i64 i, .int .i64 x, .pointer (some ⟨b_p2, 0, none⟩)] w (Ret fun vv w' => vv = .int .i64 rr ∧ ∃ I', Hf I D w I' w' [BxC b_p2 27 [v1_p2]]) := by
 replace H := H.hf
 unfold F_note_legit_1 at hF
 refine f_enter 25 Try.func81 rfl rfl (Nat.le_of_ble_eq_true rfl) fun a Z => ?_
 replace Z := Z.sub (ts := [0, 1, 2]) rfl
 refine wp_seq (f_region Z ?_); clear Z; intro Z
 refine s_runk tN Z 1 rfl rfl ?_; clear Z a; intro a Z
 refine s_end Z [0, 1, 2, 5] rfl ?_; clear Z; intro Z
 refine p_then (wp_seq ?_)
 refine wp_block ?_
 refine wp_seq (f_region Z ?_); clear Z; intro Z
 refine s_runk tN Z 3 rfl rfl ?_; clear Z a; intro a Z
 refine g_ob Z (p := (!(decide (x < 0)))) (v := .int .i64 x) (S' := [(1, .int .i64 x)]) rfl rfl rfl (wantB_f _) rfl (by decide) (fun hp hS => hS.sub (ts := [1]) rfl) (fun hp => Ob_c tN rfl) ?_; clear Z a; intro a Z
 refine g_ob Z (p := (!(decide (x < 0)))) (v := .bool (decide (x ≥ 4))) (S' := [(10, .int .i64 x)]) rfl rfl rfl (wantB_f _) rfl (by decide) (fun hp hS => (hS.conv (t := 10) rfl (cond_t hp)).sub (ts := [10]) rfl) (fun hp => Ob_c tN rfl) ?_; clear Z a; intro a Z
 refine s_ob Z (v := .bool ((decide (x < 0)) || (decide (x ≥ 4)))) rfl rfl (by decide) rfl (Ob_pick rfl rfl rfl rfl (pick_or _ _)) ?_; clear Z a; intro a Z
 refine s_runk tN Z 1 rfl rfl ?_; clear Z a; intro a Z
 refine s_end Z [0, 1, 2, 5, 6] rfl ?_; clear Z; intro Z
 refine p_then ?_
 refine f_cond Z rfl (fun hc1 => ?_) (fun hc1 => ?_)
 ·replace hF := ite_t hc1 hF
  refine wp_seq (f_region Z ?_); clear Z; intro Z
  refine s_runk tN Z 1 rfl rfl ?_; clear Z a; intro a Z
  refine s_end Z [5] rfl ?_; clear Z; intro Z
  refine p_then (wp_ret ?_)
  refine p_blk_r ?_
  refine p_then_r ?_
  obtain rfl := some_in hF
  exact f_ret Z (run_results1 rfl Z rfl) ⟨rfl, I, (H.sub [(0, false)] rfl).eq rfl⟩
 ·replace hF := ite_f hc1 hF
  refine wp_seq ?_
  obtain ⟨hg1, hF⟩ := chk_in hF
  obtain ⟨hg2, hF⟩ := chk_in hF
  refine f_region Z ?_; clear Z; intro Z
  refine s_runk tN Z 3 rfl rfl ?_; clear Z a; intro a Z
  refine g_ob Z (p := (decide (i > 0))) (v := v1_p2) (S' := [(2, .pointer (some ⟨b_p2, 0, none⟩))]) rfl rfl rfl (wantB_t _) rfl (by decide) (fun hp hS => hS.sub (ts := [2]) rfl) (fun hp => Ob_load tN rfl rfl rfl ((H.bx 0 rfl).cell 0 rfl)) ?_; clear Z a; intro a Z
  refine g_ob Z (p := (decide (i > 0))) (v := .int .i64 i) (S' := [(0, .int .i64 i)]) rfl rfl rfl (wantB_t _) rfl (by decide) (fun hp hS => hS.sub (ts := [0]) rfl) (fun hp => Ob_c tN rfl) ?_; clear Z a; intro a Z
  refine g_ob Z (p := (decide (i > 0))) (v := .int .i64 (i - 1)) (S' := [(18, .int .i64 i)]) rfl rfl rfl (wantB_t _) rfl (by decide) (fun hp hS => (hS.conv (t := 18) rfl (cond_t hp)).sub (ts := [18]) rfl) (fun hp => Ob_sub rfl rfl rfl (wrI (hg1 hp))) ?_; clear Z a; intro a Z
  refine g_ob Z (p := (decide (i > 0))) (v := .pointer (some ⟨blkOf v1_p2, oofOf v1_p2 + (i - 1).toNat * 1, none⟩)) (S' := [(17, v1_p2), (19, .int .i64 (i - 1))]) rfl rfl rfl (wantB_t _) rfl (by decide) (fun hp hS => ((hS.conv (t := 17) rfl (cond_t hp)).conv (t := 19) rfl (cond_t hp)).sub (ts := [17, 19]) rfl) (fun hp => Ob_sidx tN rfl rfl rfl rfl (slPl (H.sl 1 rfl) (hg2 hp)) (hg2 hp)) ?_; clear Z a; intro a Z
  refine g_ob Z (p := (decide (i > 0))) (v := .int .i64 (p2.getD (i - 1).toNat default)) (S' := [(20, .pointer (some ⟨blkOf v1_p2, oofOf v1_p2 + (i - 1).toNat * 1, none⟩))]) rfl rfl rfl (wantB_t _) rfl (by decide) (fun hp hS => (hS.conv (t := 20) rfl (cond_t hp)).sub (ts := [20]) rfl) (fun hp => Ob_load tN rfl rfl rfl ((slFl (H.sl 1 rfl) (hg2 hp)) 0 _ rfl)) ?_; clear Z a; intro a Z
  refine g_ob Z (p := (decide (i > 0))) (v := .int .i64 x) (S' := [(1, .int .i64 x)]) rfl rfl rfl (wantB_t _) rfl (by decide) (fun hp hS => hS.sub (ts := [1]) rfl) (fun hp => Ob_c tN rfl) ?_; clear Z a; intro a Z
  refine g_ob Z (p := (decide (i > 0))) (v := .bool (decide ((p2.getD (i - 1).toNat default) ≥ x))) (S' := [(21, .int .i64 (p2.getD (i - 1).toNat default)), (22, .int .i64 x)]) rfl rfl rfl (wantB_t _) rfl (by decide) (fun hp hS => ((hS.conv (t := 21) rfl (cond_t hp)).conv (t := 22) rfl (cond_t hp)).sub (ts := [21, 22]) rfl) (fun hp => Ob_c tN rfl) ?_; clear Z a; intro a Z
  refine s_ob Z (v := .bool ((decide (i > 0)) && (decide ((p2.getD (i - 1).toNat default) ≥ x)))) rfl rfl (by decide) rfl (Ob_pick rfl rfl rfl rfl (pick_and _ _)) ?_; clear Z a; intro a Z
  refine s_runk tN Z 1 rfl rfl ?_; clear Z a; intro a Z
  refine s_end Z [5, 13] rfl ?_; clear Z; intro Z
  refine p_then ?_
  refine f_cond Z rfl (fun hc2 => ?_) (fun hc2 => ?_)
  ·replace hF := ite_t hc2 hF
   refine wp_seq (f_region Z ?_); clear Z; intro Z
   refine s_runk tN Z 1 rfl rfl ?_; clear Z a; intro a Z
   refine s_end Z [5] rfl ?_; clear Z; intro Z
   refine p_then (wp_ret ?_)
   refine p_blk_r ?_
   refine p_then_r ?_
   obtain rfl := some_in hF
   exact f_ret Z (run_results1 rfl Z rfl) ⟨rfl, I, (H.sub [(0, false)] rfl).eq rfl⟩
  ·replace hF := ite_f hc2 hF
   refine wp_skip ?_
   refine p_blk ?_
   refine p_then (wp_seq (f_region Z ?_)); clear Z; intro Z
   refine s_runk tN Z 1 rfl rfl ?_; clear Z a; intro a Z
   refine s_end Z [5] rfl ?_; clear Z; intro Z
   refine p_then (wp_ret ?_)
   obtain rfl := some_in hF
   exact f_ret Z (run_results1 rfl Z rfl) ⟨rfl, I, (H.sub [(0, false)] rfl).eq rfl⟩

def F_note_each_int__note_legit_1_l1 (l : List Int) (x : List Int) (rc : Int → Option Int) (sg : Int) : Option Int := match sg with | x_2 => if (decide (x_2 < (l.length : Int))) = true then (chk ((0 : Int) ≤ x_2 ∧ x_2 < (l.length : Int)) ((F_note_legit_1 x_2 (l.getD (x_2).toNat default) x).bind fun x0 => (if (x0 != 0) = true then (some x0) else (chk (inI (x_2 + 1)) (rc (x_2 + 1)))))) else (some 0)

def F_note_each_int__note_legit_1 (l : List Int) (x : List Int) : Option Int := iter (F_note_each_int__note_legit_1_l1 l x) FU 0

set_option maxHeartbeats 1000000 in
theorem c_note_each_int__note_legit_1 {I D : Dm} {l : List Int} {v1_l : Value} {b_ : Nat} {x : List Int} {v2_x : Value} {w : World} {rr : Int} (hF : F_note_each_int__note_legit_1 l x = some rr) (H : St I D w [SlC Ni64 v1_l l, BxC b_ 27 [v2_x], SlC Ni64 v2_x x]) :
  Calls Try.prog 80 #[v1_l, .func (.func 81) #[] #[.pointer (some ⟨b_, 0, none⟩)]] w (Ret fun vv w' => vv = .int .i64 rr ∧ ∃ I', Hf I D w I' w' [BxC b_ 27 [v2_x]]) := by
 replace H := H.hf
 unfold F_note_each_int__note_legit_1 at hF
 refine f_enter 23 Try.func80 rfl rfl (Nat.le_of_ble_eq_true rfl) fun a Z => ?_
 replace Z := Z.sub (ts := [0, 1]) rfl
 refine wp_seq (f_region Z ?_); clear Z; intro Z
 refine s_runk tN Z 1 rfl rfl ?_; clear Z a; intro a Z
 refine s_end Z [0, 1, 4] rfl ?_; clear Z; intro Z
 refine p_then (wp_seq ?_)
 refine wp_seq (f_region Z ?_); clear Z; intro Z
 refine s_runk tN Z 1 rfl rfl ?_; clear Z a; intro a Z
 refine s_ob Z (v := .int .i64 (l.length : Int)) rfl rfl (by decide) rfl (Ob_slen tN rfl rfl rfl (H.slshape 0 rfl)) ?_; clear Z a; intro a Z
 refine s_runk tN Z 1 rfl rfl ?_; clear Z a; intro a Z
 refine s_end Z [1, 4, 8, 9, 10] rfl ?_; clear Z; intro Z
 refine p_then (wp_block ?_)
 refine f_iter hF (fun sg a' w' => match sg with | x_2 => Sl 23 [(1, .func (.func 81) #[] #[.pointer (some ⟨b_, 0, none⟩)]), (4, .int .i64 0), (8, v1_l), (9, .int .i64 (l.length : Int)), (10, .int .i64 x_2)] a' ∧ ∃ I2, Hf I D w I2 w' [BxC b_ 27 [v2_x], SlC Ni64 v1_l l, SlC Ni64 v2_x x]) ⟨Z.sub (ts := [1, 4, 8, 9, 10]) rfl, ⟨I, (H.sub [(1, false), (0, true), (1, true)] rfl).eq rfl⟩⟩ ?_
 clear Z H hF a
 rintro rc x_2 a w1 ⟨Z, I1, H⟩ hF
 unfold F_note_each_int__note_legit_1_l1 at hF
 try dsimp only at hF
 refine wp_seq (f_region Z ?_); clear Z; intro Z
 refine s_runk tN Z 1 rfl rfl ?_; clear Z a; intro a Z
 refine s_end Z [1, 4, 8, 9, 10, 11] rfl ?_; clear Z; intro Z
 refine p_then (wp_seq ?_)
 refine f_cond Z rfl (fun hc1 => ?_) (fun hc1 => ?_)
 ·replace hF := ite_t hc1 hF
  refine wp_skip ?_
  refine p_then (wp_seq ?_)
  refine wp_block ?_
  refine wp_seq ?_
  obtain ⟨hg1, hF⟩ := chk_in hF
  refine f_region Z ?_; clear Z; intro Z
  refine s_runk tN Z 1 rfl rfl ?_; clear Z a; intro a Z
  refine s_ob Z (v := .pointer (some ⟨blkOf v1_l, oofOf v1_l + (x_2).toNat * 1, none⟩)) rfl rfl (by decide) rfl (Ob_sidx tN rfl rfl rfl rfl (slPl (H.sl 1 rfl) hg1) hg1) ?_; clear Z a; intro a Z
  refine s_ob Z (v := .int .i64 (l.getD (x_2).toNat default)) rfl rfl (by decide) rfl (Ob_load tN rfl rfl rfl ((slFl (H.sl 1 rfl) hg1) 0 _ rfl)) ?_; clear Z a; intro a Z
  refine s_runk tN Z 2 rfl rfl ?_; clear Z a; intro a Z
  refine s_end Z [1, 4, 8, 9, 10, 11, 12, 13, 14, 5, 6] rfl ?_; clear Z; intro Z
  refine p_then (wp_seq ?_)
  obtain ⟨x0, hx1, hF⟩ := bnd_in hF
  refine f_region Z ?_; clear Z; intro Z
  refine s_runk tN Z 3 rfl rfl ?_; clear Z a; intro a Z
  refine h_call Z H (js := [(0, false), (1, true)]) rfl (caps := #[.pointer (some ⟨b_, 0, none⟩)]) fn_81_YNote rfl rfl rfl rfl rfl (by decide) rfl rfl (fun D1 hS => have hq := c_note_legit_1 hx1 hS; hq) ?_; clear Z a; intro vv a w2 D2 hr hF2 Z
  obtain ⟨rfl, I2, K⟩ := hr
  have H : Hf I D w I2 w2 [BxC b_ 27 [v2_x], SlC Ni64 v1_l l, SlC Ni64 v2_x x] := hF2 K
  clear hF2 K
  refine s_runk tN Z 1 rfl rfl ?_; clear Z a; intro a Z
  refine s_end Z [1, 4, 8, 9, 10, 11, 12, 13, 14, 5, 6, 15, 16, 17, 18, 7] rfl ?_; clear Z; intro Z
  refine p_then (wp_seq (f_region Z ?_)); clear Z; intro Z
  refine s_runk tN Z 2 rfl rfl ?_; clear Z a; intro a Z
  refine s_end Z [1, 4, 8, 9, 10, 11, 12, 13, 14, 5, 6, 15, 16, 17, 18, 7, 19, 20] rfl ?_; clear Z; intro Z
  refine p_then ?_
  refine f_cond Z rfl (fun hc2 => ?_) (fun hc2 => ?_)
  ·replace hF := ite_t hc2 hF
   refine wp_seq (f_region Z ?_); clear Z; intro Z
   refine s_runk tN Z 2 rfl rfl ?_; clear Z a; intro a Z
   refine s_end Z [1, 4, 8, 9, 10, 11, 12, 13, 14, 5, 6, 15, 16, 17, 18, 7, 19, 20, 21] rfl ?_; clear Z; intro Z
   refine p_then (wp_ret ?_)
   refine p_blk_r ?_
   refine p_then_r ?_
   refine p_then_r ?_
   refine p_blk_r ?_
   refine p_then_r ?_
   obtain rfl := some_in hF
   exact f_ret Z (run_results1 rfl Z rfl) ⟨rfl, I2, (H.sub [(0, false)] rfl).eq rfl⟩
  ·replace hF := ite_f hc2 hF
   refine wp_skip ?_
   refine p_blk ?_
   refine p_then ?_
   obtain ⟨hg2, hF⟩ := chk_in hF
   refine f_region Z ?_; clear Z; intro Z
   refine s_ob Z (v := .int .i64 (x_2 + 1)) rfl rfl (by decide) rfl (Ob_add rfl rfl rfl (wrI hg2)) ?_; clear Z a; intro a Z
   refine s_runk tN Z 1 rfl rfl ?_; clear Z a; intro a Z
   refine s_end Z [1, 4, 8, 9, 10, 11, 12, 13, 14, 5, 6, 15, 16, 17, 18, 7, 19, 20, 22] rfl ?_; clear Z; intro Z
   refine p_then ?_
   exact ⟨(x_2 + 1), ⟨Z.sub (ts := [1, 4, 8, 9, 10]) rfl, ⟨I2, (H.sub [(0, false), (0, true), (1, true)] rfl).eq rfl⟩⟩, hF⟩
 ·replace hF := ite_f hc1 hF
  refine wp_exit ?_
  refine p_then_x ?_
  refine p_then_x ?_
  refine f_exit_here ?_
  refine p_then (wp_seq (f_region Z ?_)); clear Z; intro Z
  refine s_runk tN Z 1 rfl rfl ?_; clear Z a; intro a Z
  refine s_end Z [4] rfl ?_; clear Z; intro Z
  refine p_then (wp_ret ?_)
  obtain rfl := some_in hF
  exact f_ret Z (run_results1 rfl Z rfl) ⟨rfl, I1, (H.sub [(0, false)] rfl).eq rfl⟩

def F_note_legit (l : List Int) : Option Int := if (decide ((l.length : Int) > 4)) = true then (some 6) else ((F_note_each_int__note_legit_1 l l).bind fun x0 => (some x0))

set_option maxHeartbeats 1000000 in
theorem c_note_legit {I D : Dm} {l : List Int} {v1_l : Value} {w : World} {rr : Int} (hF : F_note_legit l = some rr) (H : St I D w [SlC Ni64 v1_l l]) :
  Calls Try.prog 44 #[v1_l] w (Ret fun vv w' => vv = .int .i64 rr ∧ ∃ I', Hf I D w I' w' []) := by
 replace H := H.hf
 unfold F_note_legit at hF
 refine f_enter 9 Try.func44 rfl rfl (Nat.le_of_ble_eq_true rfl) fun a Z => ?_
 replace Z := Z.sub (ts := [0]) rfl
 refine wp_seq (f_region Z ?_); clear Z; intro Z
 refine h_boxv Z H (cl := [v1_l]) rfl rfl rfl (by decide) rfl rfl (slS.cells (H.slshape 0 rfl)) ?_; clear Z a H; intro a w1 b1 H Z
 refine s_runk tN Z 1 rfl rfl ?_; clear Z a; intro a Z
 refine s_end Z [1, 2] rfl ?_; clear Z; intro Z
 refine p_then (wp_seq ?_)
 refine wp_seq (f_region Z ?_); clear Z; intro Z
 refine s_ob Z (v := v1_l) rfl rfl (by decide) rfl (Ob_load tN rfl rfl rfl ((H.bx 0 rfl).cell 0 rfl)) ?_; clear Z a; intro a Z
 refine s_ob Z (v := .int .i64 (l.length : Int)) rfl rfl (by decide) rfl (Ob_slen tN rfl rfl rfl (H.slshape 1 rfl)) ?_; clear Z a; intro a Z
 refine s_runk tN Z 1 rfl rfl ?_; clear Z a; intro a Z
 refine s_end Z [1, 2, 5] rfl ?_; clear Z; intro Z
 refine p_then ?_
 refine f_cond Z rfl (fun hc1 => ?_) (fun hc1 => ?_)
 ·replace hF := ite_t hc1 hF
  refine wp_seq (f_region Z ?_); clear Z; intro Z
  refine s_runk tN Z 1 rfl rfl ?_; clear Z a; intro a Z
  refine s_end Z [1, 2] rfl ?_; clear Z; intro Z
  refine p_then (wp_ret ?_)
  refine p_then_r ?_
  obtain rfl := some_in hF
  exact f_ret Z (run_results1 rfl Z rfl) ⟨rfl, I, (H.sub [] rfl).eq rfl⟩
 ·replace hF := ite_f hc1 hF
  refine wp_skip ?_
  refine p_then (wp_seq ?_)
  obtain ⟨x0, hx1, hF⟩ := bnd_in hF
  refine f_region Z ?_; clear Z; intro Z
  refine s_ob Z (v := v1_l) rfl rfl (by decide) rfl (Ob_load tN rfl rfl rfl ((H.bx 0 rfl).cell 0 rfl)) ?_; clear Z a; intro a Z
  refine s_runk tN Z 1 rfl rfl ?_; clear Z a; intro a Z
  refine h_call Z H (js := [(1, true), (0, false), (0, true)]) rfl (caps := #[]) fn_80_YNote rfl rfl rfl rfl rfl (by decide) rfl rfl (fun D1 hS => have hq := c_note_each_int__note_legit_1 hx1 hS; hq) ?_; clear Z a; intro vv a w2 D2 hr hF2 Z
  obtain ⟨rfl, I1, K⟩ := hr
  have H : Hf I D w I1 w2 [BxC b1 27 [v1_l], SlC Ni64 v1_l l] := hF2 K
  clear hF2 K
  refine s_runk tN Z 1 rfl rfl ?_; clear Z a; intro a Z
  refine s_end Z [2] rfl ?_; clear Z; intro Z
  refine p_then (wp_ret ?_)
  obtain rfl := some_in hF
  exact f_ret Z (run_results1 rfl Z rfl) ⟨rfl, I1, (H.sub [] rfl).eq rfl⟩

def F_note_range0_1 (x0 : Int) (x : Int) : Option Int := if ((decide (x < 0)) || (decide (x > 1073741824))) = true then (some 5) else (some 0)

set_option maxHeartbeats 1000000 in
theorem c_note_range0_1 {I D : Dm} {x0 : Int} {x : Int} {w : World} {rr : Int} (hF : F_note_range0_1 x0 x = some rr) (H : St I D w []) :
  Calls Try.prog 82 #[.int .i64 x0, .int .i64 x] w (Ret fun vv w' => vv = .int .i64 rr ∧ ∃ I', Hf I D w I' w' []) := by
 replace H := H.hf
 unfold F_note_range0_1 at hF
 refine f_enter 11 Try.func82 rfl rfl (Nat.le_of_ble_eq_true rfl) fun a Z => ?_
 replace Z := Z.sub (ts := [0, 1]) rfl
 refine wp_seq (f_region Z ?_); clear Z; intro Z
 refine s_runk tN Z 1 rfl rfl ?_; clear Z a; intro a Z
 refine s_end Z [1, 4] rfl ?_; clear Z; intro Z
 refine p_then (wp_seq ?_)
 refine wp_seq (f_region Z ?_); clear Z; intro Z
 refine s_runk tN Z 3 rfl rfl ?_; clear Z a; intro a Z
 refine g_ob Z (p := (!(decide (x < 0)))) (v := .int .i64 x) (S' := [(1, .int .i64 x)]) rfl rfl rfl (wantB_f _) rfl (by decide) (fun hp hS => hS.sub (ts := [1]) rfl) (fun hp => Ob_c tN rfl) ?_; clear Z a; intro a Z
 refine g_ob Z (p := (!(decide (x < 0)))) (v := .bool (decide (x > 1073741824))) (S' := [(8, .int .i64 x)]) rfl rfl rfl (wantB_f _) rfl (by decide) (fun hp hS => (hS.conv (t := 8) rfl (cond_t hp)).sub (ts := [8]) rfl) (fun hp => Ob_c tN rfl) ?_; clear Z a; intro a Z
 refine s_ob Z (v := .bool ((decide (x < 0)) || (decide (x > 1073741824)))) rfl rfl (by decide) rfl (Ob_pick rfl rfl rfl rfl (pick_or _ _)) ?_; clear Z a; intro a Z
 refine s_end Z [4, 10] rfl ?_; clear Z; intro Z
 refine p_then ?_
 refine f_cond Z rfl (fun hc1 => ?_) (fun hc1 => ?_)
 ·replace hF := ite_t hc1 hF
  refine wp_seq (f_region Z ?_); clear Z; intro Z
  refine s_runk tN Z 1 rfl rfl ?_; clear Z a; intro a Z
  refine s_end Z [4] rfl ?_; clear Z; intro Z
  refine p_then (wp_ret ?_)
  refine p_then_r ?_
  obtain rfl := some_in hF
  exact f_ret Z (run_results1 rfl Z rfl) ⟨rfl, I, (H.sub [] rfl).eq rfl⟩
 ·replace hF := ite_f hc1 hF
  refine wp_skip ?_
  refine p_then (wp_seq (f_region Z ?_)); clear Z; intro Z
  refine s_runk tN Z 1 rfl rfl ?_; clear Z a; intro a Z
  refine s_end Z [4] rfl ?_; clear Z; intro Z
  refine p_then (wp_ret ?_)
  obtain rfl := some_in hF
  exact f_ret Z (run_results1 rfl Z rfl) ⟨rfl, I, (H.sub [] rfl).eq rfl⟩

def F_note_each_int__note_range0_1_l1 (l : List Int) (rc : Int → Option Int) (sg : Int) : Option Int := match sg with | x => if (decide (x < (l.length : Int))) = true then (chk ((0 : Int) ≤ x ∧ x < (l.length : Int)) ((F_note_range0_1 x (l.getD (x).toNat default)).bind fun x0 => (if (x0 != 0) = true then (some x0) else (chk (inI (x + 1)) (rc (x + 1)))))) else (some 0)

def F_note_each_int__note_range0_1 (l : List Int) : Option Int := iter (F_note_each_int__note_range0_1_l1 l) FU 0

set_option maxHeartbeats 1000000 in
theorem c_note_each_int__note_range0_1 {I D : Dm} {l : List Int} {v1_l : Value} {w : World} {rr : Int} (hF : F_note_each_int__note_range0_1 l = some rr) (H : St I D w [SlC Ni64 v1_l l]) :
  Calls Try.prog 80 #[v1_l, .func (.func 82) #[] #[]] w (Ret fun vv w' => vv = .int .i64 rr ∧ ∃ I', Hf I D w I' w' []) := by
 replace H := H.hf
 unfold F_note_each_int__note_range0_1 at hF
 refine f_enter 23 Try.func80 rfl rfl (Nat.le_of_ble_eq_true rfl) fun a Z => ?_
 replace Z := Z.sub (ts := [0, 1]) rfl
 refine wp_seq (f_region Z ?_); clear Z; intro Z
 refine s_runk tN Z 1 rfl rfl ?_; clear Z a; intro a Z
 refine s_end Z [0, 1, 4] rfl ?_; clear Z; intro Z
 refine p_then (wp_seq ?_)
 refine wp_seq (f_region Z ?_); clear Z; intro Z
 refine s_runk tN Z 1 rfl rfl ?_; clear Z a; intro a Z
 refine s_ob Z (v := .int .i64 (l.length : Int)) rfl rfl (by decide) rfl (Ob_slen tN rfl rfl rfl (H.slshape 0 rfl)) ?_; clear Z a; intro a Z
 refine s_runk tN Z 1 rfl rfl ?_; clear Z a; intro a Z
 refine s_end Z [1, 4, 8, 9, 10] rfl ?_; clear Z; intro Z
 refine p_then (wp_block ?_)
 refine f_iter hF (fun sg a' w' => match sg with | x => Sl 23 [(1, .func (.func 82) #[] #[]), (4, .int .i64 0), (8, v1_l), (9, .int .i64 (l.length : Int)), (10, .int .i64 x)] a' ∧ ∃ I2, Hf I D w I2 w' [SlC Ni64 v1_l l]) ⟨Z.sub (ts := [1, 4, 8, 9, 10]) rfl, ⟨I, (H.sub [(0, true)] rfl).eq rfl⟩⟩ ?_
 clear Z H hF a
 rintro rc x a w1 ⟨Z, I1, H⟩ hF
 unfold F_note_each_int__note_range0_1_l1 at hF
 try dsimp only at hF
 refine wp_seq (f_region Z ?_); clear Z; intro Z
 refine s_runk tN Z 1 rfl rfl ?_; clear Z a; intro a Z
 refine s_end Z [1, 4, 8, 9, 10, 11] rfl ?_; clear Z; intro Z
 refine p_then (wp_seq ?_)
 refine f_cond Z rfl (fun hc1 => ?_) (fun hc1 => ?_)
 ·replace hF := ite_t hc1 hF
  refine wp_skip ?_
  refine p_then (wp_seq ?_)
  refine wp_block ?_
  refine wp_seq ?_
  obtain ⟨hg1, hF⟩ := chk_in hF
  refine f_region Z ?_; clear Z; intro Z
  refine s_runk tN Z 1 rfl rfl ?_; clear Z a; intro a Z
  refine s_ob Z (v := .pointer (some ⟨blkOf v1_l, oofOf v1_l + (x).toNat * 1, none⟩)) rfl rfl (by decide) rfl (Ob_sidx tN rfl rfl rfl rfl (slPl (H.sl 0 rfl) hg1) hg1) ?_; clear Z a; intro a Z
  refine s_ob Z (v := .int .i64 (l.getD (x).toNat default)) rfl rfl (by decide) rfl (Ob_load tN rfl rfl rfl ((slFl (H.sl 0 rfl) hg1) 0 _ rfl)) ?_; clear Z a; intro a Z
  refine s_runk tN Z 2 rfl rfl ?_; clear Z a; intro a Z
  refine s_end Z [1, 4, 8, 9, 10, 11, 12, 13, 14, 5, 6] rfl ?_; clear Z; intro Z
  refine p_then (wp_seq ?_)
  obtain ⟨x0, hx1, hF⟩ := bnd_in hF
  refine f_region Z ?_; clear Z; intro Z
  refine s_runk tN Z 3 rfl rfl ?_; clear Z a; intro a Z
  refine h_call Z H (js := []) rfl (caps := #[]) fn_82_YNote rfl rfl rfl rfl rfl (by decide) rfl rfl (fun D1 hS => have hq := c_note_range0_1 hx1 hS; hq) ?_; clear Z a; intro vv a w2 D2 hr hF2 Z
  obtain ⟨rfl, I2, K⟩ := hr
  have H : Hf I D w I2 w2 [SlC Ni64 v1_l l] := hF2 K
  clear hF2 K
  refine s_runk tN Z 1 rfl rfl ?_; clear Z a; intro a Z
  refine s_end Z [1, 4, 8, 9, 10, 11, 12, 13, 14, 5, 6, 15, 16, 17, 18, 7] rfl ?_; clear Z; intro Z
  refine p_then (wp_seq (f_region Z ?_)); clear Z; intro Z
  refine s_runk tN Z 2 rfl rfl ?_; clear Z a; intro a Z
  refine s_end Z [1, 4, 8, 9, 10, 11, 12, 13, 14, 5, 6, 15, 16, 17, 18, 7, 19, 20] rfl ?_; clear Z; intro Z
  refine p_then ?_
  refine f_cond Z rfl (fun hc2 => ?_) (fun hc2 => ?_)
  ·replace hF := ite_t hc2 hF
   refine wp_seq (f_region Z ?_); clear Z; intro Z
   refine s_runk tN Z 2 rfl rfl ?_; clear Z a; intro a Z
   refine s_end Z [1, 4, 8, 9, 10, 11, 12, 13, 14, 5, 6, 15, 16, 17, 18, 7, 19, 20, 21] rfl ?_; clear Z; intro Z
   refine p_then (wp_ret ?_)
   refine p_blk_r ?_
   refine p_then_r ?_
   refine p_then_r ?_
   refine p_blk_r ?_
   refine p_then_r ?_
   obtain rfl := some_in hF
   exact f_ret Z (run_results1 rfl Z rfl) ⟨rfl, I2, (H.sub [] rfl).eq rfl⟩
  ·replace hF := ite_f hc2 hF
   refine wp_skip ?_
   refine p_blk ?_
   refine p_then ?_
   obtain ⟨hg2, hF⟩ := chk_in hF
   refine f_region Z ?_; clear Z; intro Z
   refine s_ob Z (v := .int .i64 (x + 1)) rfl rfl (by decide) rfl (Ob_add rfl rfl rfl (wrI hg2)) ?_; clear Z a; intro a Z
   refine s_runk tN Z 1 rfl rfl ?_; clear Z a; intro a Z
   refine s_end Z [1, 4, 8, 9, 10, 11, 12, 13, 14, 5, 6, 15, 16, 17, 18, 7, 19, 20, 22] rfl ?_; clear Z; intro Z
   refine p_then ?_
   exact ⟨(x + 1), ⟨Z.sub (ts := [1, 4, 8, 9, 10]) rfl, ⟨I2, (H.sub [(0, true)] rfl).eq rfl⟩⟩, hF⟩
 ·replace hF := ite_f hc1 hF
  refine wp_exit ?_
  refine p_then_x ?_
  refine p_then_x ?_
  refine f_exit_here ?_
  refine p_then (wp_seq (f_region Z ?_)); clear Z; intro Z
  refine s_runk tN Z 1 rfl rfl ?_; clear Z a; intro a Z
  refine s_end Z [4] rfl ?_; clear Z; intro Z
  refine p_then (wp_ret ?_)
  obtain rfl := some_in hF
  exact f_ret Z (run_results1 rfl Z rfl) ⟨rfl, I1, (H.sub [] rfl).eq rfl⟩

def F_note_range0 (l : List Int) : Option Int := (F_note_each_int__note_range0_1 l).bind fun x0 => (some x0)

set_option maxHeartbeats 1000000 in
theorem c_note_range0 {I D : Dm} {l : List Int} {v1_l : Value} {w : World} {rr : Int} (hF : F_note_range0 l = some rr) (H : St I D w [SlC Ni64 v1_l l]) :
  Calls Try.prog 45 #[v1_l] w (Ret fun vv w' => vv = .int .i64 rr ∧ ∃ I', Hf I D w I' w' []) := by
 replace H := H.hf
 unfold F_note_range0 at hF
 refine f_enter 5 Try.func45 rfl rfl (Nat.le_of_ble_eq_true rfl) fun a Z => ?_
 replace Z := Z.sub (ts := [0]) rfl
 refine wp_seq (f_region Z ?_); clear Z; intro Z
 refine s_runk tN Z 1 rfl rfl ?_; clear Z a; intro a Z
 refine s_end Z [0, 2] rfl ?_; clear Z; intro Z
 refine p_then (wp_seq ?_)
 obtain ⟨x0, hx1, hF⟩ := bnd_in hF
 refine f_region Z ?_; clear Z; intro Z
 refine s_runk tN Z 1 rfl rfl ?_; clear Z a; intro a Z
 refine h_call Z H (js := [(0, true)]) rfl (caps := #[]) fn_80_YNote rfl rfl rfl rfl rfl (by decide) rfl rfl (fun D1 hS => have hq := c_note_each_int__note_range0_1 hx1 hS; hq) ?_; clear Z a; intro vv a w1 D2 hr hF2 Z
 obtain ⟨rfl, I1, K⟩ := hr
 have H : Hf I D w I1 w1 [SlC Ni64 v1_l l] := hF2 K
 clear hF2 K
 refine s_runk tN Z 1 rfl rfl ?_; clear Z a; intro a Z
 refine s_end Z [2] rfl ?_; clear Z; intro Z
 refine p_then (wp_ret ?_)
 obtain rfl := some_in hF
 exact f_ret Z (run_results1 rfl Z rfl) ⟨rfl, I1, (H.sub [] rfl).eq rfl⟩

def F_ref10_may (n0 : Int) : Option Bool := some ((decide (n0 ≥ 0)) && (decide (n0 ≤ 1073741824)))

def F_ref10_said (a0 : EAnswer) : Option Int := if ((decide (a0.client < 0)) || (decide (a0.client ≥ 3))) = true then (some 1) else ((F_ref10_may a0.req).bind fun m => ((gif (!!m) (F_ref10_may a0.pin) default).bind fun m_2 => (if (!m || !m_2) = true then (some 5) else (if ((decide (a0.e < 0)) || (decide (a0.e > 21))) = true then (some 1) else (some 0)))))

def F_note_said (a0 : EAnswer) : Option Int := if ((decide (a0.client < 0)) || (decide (a0.client ≥ 3))) = true then (some 1) else ((F_note_range0 [a0.req, a0.pin]).bind fun r0 => (if (r0 != 0) = true then (some r0) else (if ((decide (a0.e < 0)) || (decide (a0.e > 21))) = true then (some 1) else (some 0))))

set_option maxHeartbeats 1000000 in
theorem c_note_said {I D : Dm} {a0 : EAnswer} {w : World} {rr : Int} (hF : F_note_said a0 = some rr) (H : St I D w []) :
  Calls Try.prog 47 #[.agg #[.int .i64 a0.client, .int .i64 a0.req, .int .i64 a0.e, .int .i64 a0.pin]] w (Ret fun vv w' => vv = .int .i64 rr ∧ ∃ I', Hf I D w I' w' []) := by
 replace H := H.hf
 unfold F_note_said at hF
 refine f_enter 29 Try.func47 rfl rfl (Nat.le_of_ble_eq_true rfl) fun a Z => ?_
 replace Z := Z.sub (ts := [0]) rfl
 refine wp_seq (f_region Z ?_); clear Z; intro Z
 refine h_boxv Z H (cl := [.int .i64 a0.client, .int .i64 a0.req, .int .i64 a0.e, .int .i64 a0.pin]) rfl rfl rfl (by decide) rfl rfl rfl ?_; clear Z a H; intro a w1 b1 H Z
 refine s_runk tN Z 1 rfl rfl ?_; clear Z a; intro a Z
 refine s_end Z [1, 2] rfl ?_; clear Z; intro Z
 refine p_then (wp_seq ?_)
 refine wp_seq (f_region Z ?_); clear Z; intro Z
 refine s_runk tN Z 1 rfl rfl ?_; clear Z a; intro a Z
 refine s_ob Z (v := .int .i64 a0.client) rfl rfl (by decide) rfl (Ob_load tN rfl rfl rfl ((H.bx 0 rfl).cell 0 rfl)) ?_; clear Z a; intro a Z
 refine s_runk tN Z 2 rfl rfl ?_; clear Z a; intro a Z
 refine g_ob Z (p := (!(decide (a0.client < 0)))) (v := .pointer (some ⟨b1, 0, none⟩)) (S' := [(1, .pointer (some ⟨b1, 0, none⟩))]) rfl rfl rfl (wantB_f _) rfl (by decide) (fun hp hS => hS.sub (ts := [1]) rfl) (fun hp => Ob_c tN rfl) ?_; clear Z a; intro a Z
 refine g_ob Z (p := (!(decide (a0.client < 0)))) (v := .int .i64 a0.client) (S' := [(8, .pointer (some ⟨b1, 0, none⟩))]) rfl rfl rfl (wantB_f _) rfl (by decide) (fun hp hS => (hS.conv (t := 8) rfl (cond_t hp)).sub (ts := [8]) rfl) (fun hp => Ob_load tN rfl rfl rfl ((H.bx 0 rfl).cell 0 rfl)) ?_; clear Z a; intro a Z
 refine g_ob Z (p := (!(decide (a0.client < 0)))) (v := .bool (decide (a0.client ≥ 3))) (S' := [(9, .int .i64 a0.client)]) rfl rfl rfl (wantB_f _) rfl (by decide) (fun hp hS => (hS.conv (t := 9) rfl (cond_t hp)).sub (ts := [9]) rfl) (fun hp => Ob_c tN rfl) ?_; clear Z a; intro a Z
 refine s_ob Z (v := .bool ((decide (a0.client < 0)) || (decide (a0.client ≥ 3)))) rfl rfl (by decide) rfl (Ob_pick rfl rfl rfl rfl (pick_or _ _)) ?_; clear Z a; intro a Z
 refine s_end Z [1, 2, 11] rfl ?_; clear Z; intro Z
 refine p_then ?_
 refine f_cond Z rfl (fun hc1 => ?_) (fun hc1 => ?_)
 ·replace hF := ite_t hc1 hF
  refine wp_seq (f_region Z ?_); clear Z; intro Z
  refine s_runk tN Z 1 rfl rfl ?_; clear Z a; intro a Z
  refine s_end Z [1, 2] rfl ?_; clear Z; intro Z
  refine p_then (wp_ret ?_)
  refine p_then_r ?_
  obtain rfl := some_in hF
  exact f_ret Z (run_results1 rfl Z rfl) ⟨rfl, I, (H.sub [] rfl).eq rfl⟩
 ·replace hF := ite_f hc1 hF
  refine wp_skip ?_
  refine p_then (wp_seq ?_)
  refine wp_seq ?_
  obtain ⟨r0, hx1, hF⟩ := bnd_in hF
  refine f_region Z ?_; clear Z; intro Z
  refine s_runk tN Z 1 rfl rfl ?_; clear Z a; intro a Z
  refine s_ob Z (v := .int .i64 a0.req) rfl rfl (by decide) rfl (Ob_load tN rfl rfl rfl ((H.bx 0 rfl).cell 1 rfl)) ?_; clear Z a; intro a Z
  refine s_runk tN Z 1 rfl rfl ?_; clear Z a; intro a Z
  refine s_ob Z (v := .int .i64 a0.pin) rfl rfl (by decide) rfl (Ob_load tN rfl rfl rfl ((H.bx 0 rfl).cell 3 rfl)) ?_; clear Z a; intro a Z
  refine h_bslice Z H (vs := [(0, .int .i64 a0.req), (1, .int .i64 a0.pin)]) (cl := [.int .i64 a0.req, .int .i64 a0.pin]) (e := 3) rfl rfl rfl (by decide) rfl rfl (fun w => run_bslice (z := .int .i64 0) (m := 1) Try.underlying27 (by kernel_rfl) rfl rfl (by decide) (by simp [Instr.fill, Value.cells]) w) ?_; clear Z a H; intro a w2 b2 H Z
  obtain ⟨I1, _, H⟩ := H.frzlit 0 rfl (R := Ni64) [[.int .i64 a0.req], [.int .i64 a0.pin]] [a0.req, a0.pin] rfl rfl (fun i h1 h2 => by match i, h1, h2 with | 0, _, _ => exact ⟨rfl, trivial⟩ | 1, _, _ => exact ⟨rfl, trivial⟩) (show 2 ≤ maxLen from by decide) (n := 2) rfl
  replace H : Hf I D w I1 w2 [SlC Ni64 (.slice (some ⟨b2, 0, none⟩) 2 2) [a0.req, a0.pin], BxC b1 37 (cEAnswer a0)] := H
  refine h_call Z H (js := [(0, true)]) rfl (caps := #[]) fn_45_YNote rfl rfl rfl rfl rfl (by decide) rfl rfl (fun D1 hS => have hq := c_note_range0 hx1 hS; hq) ?_; clear Z a; intro vv a w3 D2 hr hF2 Z
  obtain ⟨rfl, I2, K⟩ := hr
  have H : Hf I D w I2 w3 [SlC Ni64 (.slice (some ⟨b2, 0, none⟩) 2 2) [a0.req, a0.pin], BxC b1 37 (cEAnswer a0)] := hF2 K
  clear hF2 K
  refine s_runk tN Z 1 rfl rfl ?_; clear Z a; intro a Z
  refine s_end Z [1, 2, 3] rfl ?_; clear Z; intro Z
  refine p_then (wp_seq (f_region Z ?_)); clear Z; intro Z
  refine s_runk tN Z 2 rfl rfl ?_; clear Z a; intro a Z
  refine s_end Z [1, 2, 3, 19] rfl ?_; clear Z; intro Z
  refine p_then ?_
  refine f_cond Z rfl (fun hc2 => ?_) (fun hc2 => ?_)
  ·replace hF := ite_t hc2 hF
   refine wp_seq (f_region Z ?_); clear Z; intro Z
   refine s_runk tN Z 2 rfl rfl ?_; clear Z a; intro a Z
   refine s_end Z [1, 2] rfl ?_; clear Z; intro Z
   refine p_then (wp_ret ?_)
   refine p_then_r ?_
   obtain rfl := some_in hF
   exact f_ret Z (run_results1 rfl Z rfl) ⟨rfl, I2, (H.sub [] rfl).eq rfl⟩
  ·replace hF := ite_f hc2 hF
   refine wp_skip ?_
   refine p_then (wp_seq ?_)
   refine wp_seq (f_region Z ?_); clear Z; intro Z
   refine s_runk tN Z 1 rfl rfl ?_; clear Z a; intro a Z
   refine s_ob Z (v := .int .i64 a0.e) rfl rfl (by decide) rfl (Ob_load tN rfl rfl rfl ((H.bx 1 rfl).cell 2 rfl)) ?_; clear Z a; intro a Z
   refine s_runk tN Z 2 rfl rfl ?_; clear Z a; intro a Z
   refine g_ob Z (p := (!(decide (a0.e < 0)))) (v := .pointer (some ⟨b1, 2, none⟩)) (S' := [(1, .pointer (some ⟨b1, 0, none⟩))]) rfl rfl rfl (wantB_f _) rfl (by decide) (fun hp hS => hS.sub (ts := [1]) rfl) (fun hp => Ob_c tN rfl) ?_; clear Z a; intro a Z
   refine g_ob Z (p := (!(decide (a0.e < 0)))) (v := .int .i64 a0.e) (S' := [(25, .pointer (some ⟨b1, 2, none⟩))]) rfl rfl rfl (wantB_f _) rfl (by decide) (fun hp hS => (hS.conv (t := 25) rfl (cond_t hp)).sub (ts := [25]) rfl) (fun hp => Ob_load tN rfl rfl rfl ((H.bx 1 rfl).cell 2 rfl)) ?_; clear Z a; intro a Z
   refine g_ob Z (p := (!(decide (a0.e < 0)))) (v := .bool (decide (a0.e > 21))) (S' := [(26, .int .i64 a0.e)]) rfl rfl rfl (wantB_f _) rfl (by decide) (fun hp hS => (hS.conv (t := 26) rfl (cond_t hp)).sub (ts := [26]) rfl) (fun hp => Ob_c tN rfl) ?_; clear Z a; intro a Z
   refine s_ob Z (v := .bool ((decide (a0.e < 0)) || (decide (a0.e > 21)))) rfl rfl (by decide) rfl (Ob_pick rfl rfl rfl rfl (pick_or _ _)) ?_; clear Z a; intro a Z
   refine s_end Z [2, 28] rfl ?_; clear Z; intro Z
   refine p_then ?_
   refine f_cond Z rfl (fun hc3 => ?_) (fun hc3 => ?_)
   ·replace hF := ite_t hc3 hF
    refine wp_seq (f_region Z ?_); clear Z; intro Z
    refine s_runk tN Z 1 rfl rfl ?_; clear Z a; intro a Z
    refine s_end Z [2] rfl ?_; clear Z; intro Z
    refine p_then (wp_ret ?_)
    refine p_then_r ?_
    obtain rfl := some_in hF
    exact f_ret Z (run_results1 rfl Z rfl) ⟨rfl, I2, (H.sub [] rfl).eq rfl⟩
   ·replace hF := ite_f hc3 hF
    refine wp_skip ?_
    refine p_then (wp_seq (f_region Z ?_)); clear Z; intro Z
    refine s_runk tN Z 1 rfl rfl ?_; clear Z a; intro a Z
    refine s_end Z [2] rfl ?_; clear Z; intro Z
    refine p_then (wp_ret ?_)
    obtain rfl := some_in hF
    exact f_ret Z (run_results1 rfl Z rfl) ⟨rfl, I2, (H.sub [] rfl).eq rfl⟩

def F_ref10_Check_k1 (n0 : ENote) (x : Bool) : Option Int := if (x) = true then ((F_ref10_may n0.n).bind fun m_2 => (if (!m_2) = true then (some 5) else (some 0))) else (if (n0.k == 6) = true then ((F_ref10_may n0.pin.id).bind fun m_3 => ((gif (!!m_3) (F_ref10_may n0.pin.left) default).bind fun m_4 => (if (!m_3 || !m_4) = true then (some 5) else (some 0)))) else (if (n0.k == 8) = true then ((F_ref10_said n0.said).bind fun s0 => (some s0)) else (some 11)))

def F_ref10_Check (n0 : ENote) : Option Int := if (n0.k == 1) = true then ((F_ref07_Check n0.conf).bind fun c => (if (c != 0) = true then (some c) else ((F_ref10_legit n0.legit).bind fun l => (some l)))) else (if (n0.k == 2) = true then ((F_ref10_may n0.n).bind fun m => (if (!m) = true then (some 5) else ((F_ref08_Check n0.entry).bind fun c_2 => (some c_2)))) else (if (n0.k == 3) = true then (F_ref10_Check_k1 n0 (n0.k == 3)) else (if (n0.k == 4) = true then (F_ref10_Check_k1 n0 (n0.k == 4)) else (if (n0.k == 5) = true then (F_ref10_Check_k1 n0 (n0.k == 5)) else (F_ref10_Check_k1 n0 (n0.k == 7))))))

def F_note_Check_k1 (n0 : ENote) (x : Bool) : Option Int := if (x) = true then ((F_note_range0 [n0.n]).bind fun r0_2 => (some r0_2)) else (if (n0.k == 6) = true then ((F_note_range0 [n0.pin.id, n0.pin.left]).bind fun r0_3 => (some r0_3)) else (if (n0.k == 8) = true then ((F_note_said n0.said).bind fun s0 => (some s0)) else (some 11)))

def F_note_Check (n0 : ENote) : Option Int := if (n0.k == 1) = true then ((F_conf_Check n0.conf).bind fun c => (if (c != 0) = true then (some c) else ((F_note_legit n0.legit).bind fun l => (some l)))) else (if (n0.k == 2) = true then ((F_note_range0 [n0.n]).bind fun r0 => (if (r0 != 0) = true then (some r0) else ((F_item_Check n0.entry).bind fun c_2 => (some c_2)))) else (if (n0.k == 3) = true then (F_note_Check_k1 n0 (n0.k == 3)) else (if (n0.k == 4) = true then (F_note_Check_k1 n0 (n0.k == 4)) else (if (n0.k == 5) = true then (F_note_Check_k1 n0 (n0.k == 5)) else (F_note_Check_k1 n0 (n0.k == 7))))))

set_option maxHeartbeats 1000000 in
theorem c_note_Check {I D : Dm} {n0 : ENote} {v1_n0 : Value} {v2_n0 : Value} {v3_n0 : Value} {w : World} {rr : Int} (hF : F_note_Check n0 = some rr) (H : St I D w [SlC NEMember v1_n0 n0.conf.members, SlC Ni64 v2_n0 n0.legit, SlC NEOp v3_n0 n0.entry.batch.ops]) :
  Calls Try.prog 14 #[.agg #[.int .i64 n0.k, .int .i64 n0.n, .int .u64 n0.at_, .int .i64 n0.conf.epoch, v1_n0, .int .u64 n0.conf.floor, v2_n0, .int .i64 n0.entry.batch.client, .int .i64 n0.entry.batch.req, v3_n0, .int .u64 n0.entry.ts, .int .i64 n0.pin.id, .int .u64 n0.pin.at_, .int .i64 n0.pin.left, .int .i64 n0.said.client, .int .i64 n0.said.req, .int .i64 n0.said.e, .int .i64 n0.said.pin]] w (Ret fun vv w' => vv = .int .i64 rr ∧ ∃ I', Hf I D w I' w' []) := by
 replace H := H.hf
 unfold F_note_Check at hF
 refine f_enter 54 Try.func14 rfl rfl (Nat.le_of_ble_eq_true rfl) fun a Z => ?_
 replace Z := Z.sub (ts := [0]) rfl
 refine wp_seq (f_region Z ?_); clear Z; intro Z
 refine h_boxv Z H (cl := [.int .i64 n0.k, .int .i64 n0.n, .int .u64 n0.at_, .int .i64 n0.conf.epoch, v1_n0, .int .u64 n0.conf.floor, v2_n0, .int .i64 n0.entry.batch.client, .int .i64 n0.entry.batch.req, v3_n0, .int .u64 n0.entry.ts, .int .i64 n0.pin.id, .int .u64 n0.pin.at_, .int .i64 n0.pin.left, .int .i64 n0.said.client, .int .i64 n0.said.req, .int .i64 n0.said.e, .int .i64 n0.said.pin]) rfl rfl rfl (by decide) rfl rfl rfl ?_; clear Z a H; intro a w1 b1 H Z
 refine s_runk tN Z 1 rfl rfl ?_; clear Z a; intro a Z
 refine s_end Z [1, 2] rfl ?_; clear Z; intro Z
 refine p_then (wp_seq ?_)
 refine wp_seq (f_region Z ?_); clear Z; intro Z
 refine s_runk tN Z 1 rfl rfl ?_; clear Z a; intro a Z
 refine s_ob Z (v := .int .i64 n0.k) rfl rfl (by decide) rfl (Ob_load tN rfl rfl rfl ((H.bx 0 rfl).cell 0 rfl)) ?_; clear Z a; intro a Z
 refine s_end Z [1, 2, 6] rfl ?_; clear Z; intro Z
 refine p_then (wp_block ?_)
 refine wp_seq (f_region Z ?_); clear Z; intro Z
 refine s_runk tN Z 2 rfl rfl ?_; clear Z a; intro a Z
 refine s_end Z [1, 2, 6, 7] rfl ?_; clear Z; intro Z
 refine p_then ?_
 refine f_cond Z rfl (fun hc1 => ?_) (fun hc1 => ?_)
 ·replace hF := ite_t hc1 hF
  refine wp_seq ?_
  refine wp_seq ?_
  obtain ⟨c, hx1, hF⟩ := bnd_in hF
  refine f_region Z ?_; clear Z; intro Z
  refine s_runk tN Z 1 rfl rfl ?_; clear Z a; intro a Z
  refine s_ob Z (v := .agg #[.int .i64 n0.conf.epoch, v1_n0, .int .u64 n0.conf.floor]) rfl rfl (by decide) rfl (Ob_loads tN rfl rfl rfl ((H.bx 0 rfl).part 3 rfl)) ?_; clear Z a; intro a Z
  refine h_call Z H (js := [(1, true)]) rfl (caps := #[]) fn_43_YNote rfl rfl rfl rfl rfl (by decide) rfl rfl (fun D1 hS => have hq := c_conf_Check hx1 hS; hq) ?_; clear Z a; intro vv a w2 D2 hr hF2 Z
  obtain ⟨rfl, I1, K⟩ := hr
  have H : Hf I D w I1 w2 [BxC b1 39 (cENote n0 v1_n0 v2_n0 v3_n0), SlC NEMember v1_n0 n0.conf.members, SlC Ni64 v2_n0 n0.legit, SlC NEOp v3_n0 n0.entry.batch.ops] := hF2 K
  clear hF2 K
  refine s_runk tN Z 1 rfl rfl ?_; clear Z a; intro a Z
  refine s_end Z [1, 2, 3] rfl ?_; clear Z; intro Z
  refine p_then (wp_seq (f_region Z ?_)); clear Z; intro Z
  refine s_runk tN Z 2 rfl rfl ?_; clear Z a; intro a Z
  refine s_end Z [1, 2, 3, 13] rfl ?_; clear Z; intro Z
  refine p_then ?_
  refine f_cond Z rfl (fun hc2 => ?_) (fun hc2 => ?_)
  ·replace hF := ite_t hc2 hF
   refine wp_seq (f_region Z ?_); clear Z; intro Z
   refine s_runk tN Z 2 rfl rfl ?_; clear Z a; intro a Z
   refine s_end Z [1, 2] rfl ?_; clear Z; intro Z
   refine p_then (wp_ret ?_)
   refine p_then_r ?_
   refine p_blk_r ?_
   refine p_then_r ?_
   obtain rfl := some_in hF
   exact f_ret Z (run_results1 rfl Z rfl) ⟨rfl, I1, (H.sub [] rfl).eq rfl⟩
  ·replace hF := ite_f hc2 hF
   refine wp_skip ?_
   refine p_then (wp_seq ?_)
   obtain ⟨l, hx2, hF⟩ := bnd_in hF
   refine f_region Z ?_; clear Z; intro Z
   refine s_runk tN Z 1 rfl rfl ?_; clear Z a; intro a Z
   refine s_ob Z (v := v2_n0) rfl rfl (by decide) rfl (Ob_load tN rfl rfl rfl ((H.bx 0 rfl).cell 6 rfl)) ?_; clear Z a; intro a Z
   refine h_call Z H (js := [(2, true)]) rfl (caps := #[]) fn_44_YNote rfl rfl rfl rfl rfl (by decide) rfl rfl (fun D1 hS => have hq := c_note_legit hx2 hS; hq) ?_; clear Z a; intro vv a w3 D2 hr hF2 Z
   obtain ⟨rfl, I2, K⟩ := hr
   have H : Hf I D w I2 w3 [BxC b1 39 (cENote n0 v1_n0 v2_n0 v3_n0), SlC NEMember v1_n0 n0.conf.members, SlC Ni64 v2_n0 n0.legit, SlC NEOp v3_n0 n0.entry.batch.ops] := hF2 K
   clear hF2 K
   refine s_runk tN Z 1 rfl rfl ?_; clear Z a; intro a Z
   refine s_end Z [2] rfl ?_; clear Z; intro Z
   refine p_then (wp_ret ?_)
   refine p_blk_r ?_
   refine p_then_r ?_
   obtain rfl := some_in hF
   exact f_ret Z (run_results1 rfl Z rfl) ⟨rfl, I2, (H.sub [] rfl).eq rfl⟩
 ·replace hF := ite_f hc1 hF
  refine wp_seq (f_region Z ?_); clear Z; intro Z
  refine s_runk tN Z 2 rfl rfl ?_; clear Z a; intro a Z
  refine s_end Z [1, 2, 6, 18] rfl ?_; clear Z; intro Z
  refine p_then ?_
  refine f_cond Z rfl (fun hc3 => ?_) (fun hc3 => ?_)
  ·replace hF := ite_t hc3 hF
   refine wp_seq ?_
   refine wp_seq ?_
   obtain ⟨r0, hx3, hF⟩ := bnd_in hF
   refine f_region Z ?_; clear Z; intro Z
   refine s_runk tN Z 1 rfl rfl ?_; clear Z a; intro a Z
   refine s_ob Z (v := .int .i64 n0.n) rfl rfl (by decide) rfl (Ob_load tN rfl rfl rfl ((H.bx 0 rfl).cell 1 rfl)) ?_; clear Z a; intro a Z
   refine h_bslice Z H (vs := [(0, .int .i64 n0.n)]) (cl := [.int .i64 n0.n]) (e := 3) rfl rfl rfl (by decide) rfl rfl (fun w => run_bslice (z := .int .i64 0) (m := 1) Try.underlying27 (by kernel_rfl) rfl rfl (by decide) (by simp [Instr.fill, Value.cells]) w) ?_; clear Z a H; intro a w4 b2 H Z
   obtain ⟨I3, _, H⟩ := H.frzlit 0 rfl (R := Ni64) [[.int .i64 n0.n]] [n0.n] rfl rfl (fun i h1 h2 => by match i, h1, h2 with | 0, _, _ => exact ⟨rfl, trivial⟩) (show 1 ≤ maxLen from by decide) (n := 1) rfl
   replace H : Hf I D w I3 w4 [SlC Ni64 (.slice (some ⟨b2, 0, none⟩) 1 1) [n0.n], BxC b1 39 (cENote n0 v1_n0 v2_n0 v3_n0), SlC NEMember v1_n0 n0.conf.members, SlC Ni64 v2_n0 n0.legit, SlC NEOp v3_n0 n0.entry.batch.ops] := H
   refine h_call Z H (js := [(0, true)]) rfl (caps := #[]) fn_45_YNote rfl rfl rfl rfl rfl (by decide) rfl rfl (fun D1 hS => have hq := c_note_range0 hx3 hS; hq) ?_; clear Z a; intro vv a w5 D2 hr hF2 Z
   obtain ⟨rfl, I4, K⟩ := hr
   have H : Hf I D w I4 w5 [SlC Ni64 (.slice (some ⟨b2, 0, none⟩) 1 1) [n0.n], BxC b1 39 (cENote n0 v1_n0 v2_n0 v3_n0), SlC NEMember v1_n0 n0.conf.members, SlC Ni64 v2_n0 n0.legit, SlC NEOp v3_n0 n0.entry.batch.ops] := hF2 K
   clear hF2 K
   refine s_runk tN Z 1 rfl rfl ?_; clear Z a; intro a Z
   refine s_end Z [1, 2, 4] rfl ?_; clear Z; intro Z
   refine p_then (wp_seq (f_region Z ?_)); clear Z; intro Z
   refine s_runk tN Z 2 rfl rfl ?_; clear Z a; intro a Z
   refine s_end Z [1, 2, 4, 25] rfl ?_; clear Z; intro Z
   refine p_then ?_
   refine f_cond Z rfl (fun hc4 => ?_) (fun hc4 => ?_)
   ·replace hF := ite_t hc4 hF
    refine wp_seq (f_region Z ?_); clear Z; intro Z
    refine s_runk tN Z 2 rfl rfl ?_; clear Z a; intro a Z
    refine s_end Z [1, 2] rfl ?_; clear Z; intro Z
    refine p_then (wp_ret ?_)
    refine p_then_r ?_
    refine p_blk_r ?_
    refine p_then_r ?_
    obtain rfl := some_in hF
    exact f_ret Z (run_results1 rfl Z rfl) ⟨rfl, I4, (H.sub [] rfl).eq rfl⟩
   ·replace hF := ite_f hc4 hF
    refine wp_skip ?_
    refine p_then (wp_seq ?_)
    obtain ⟨c_2, hx4, hF⟩ := bnd_in hF
    refine f_region Z ?_; clear Z; intro Z
    refine s_runk tN Z 1 rfl rfl ?_; clear Z a; intro a Z
    refine s_ob Z (v := .agg #[.int .i64 n0.entry.batch.client, .int .i64 n0.entry.batch.req, v3_n0, .int .u64 n0.entry.ts]) rfl rfl (by decide) rfl (Ob_loads tN rfl rfl rfl ((H.bx 1 rfl).part 7 rfl)) ?_; clear Z a; intro a Z
    refine h_call Z H (js := [(4, true)]) rfl (caps := #[]) fn_46_YNote rfl rfl rfl rfl rfl (by decide) rfl rfl (fun D1 hS => have hq := c_item_Check hx4 hS; hq) ?_; clear Z a; intro vv a w6 D2 hr hF2 Z
    obtain ⟨rfl, I5, K⟩ := hr
    have H : Hf I D w I5 w6 [SlC Ni64 (.slice (some ⟨b2, 0, none⟩) 1 1) [n0.n], BxC b1 39 (cENote n0 v1_n0 v2_n0 v3_n0), SlC NEMember v1_n0 n0.conf.members, SlC Ni64 v2_n0 n0.legit, SlC NEOp v3_n0 n0.entry.batch.ops] := hF2 K
    clear hF2 K
    refine s_runk tN Z 1 rfl rfl ?_; clear Z a; intro a Z
    refine s_end Z [2] rfl ?_; clear Z; intro Z
    refine p_then (wp_ret ?_)
    refine p_blk_r ?_
    refine p_then_r ?_
    obtain rfl := some_in hF
    exact f_ret Z (run_results1 rfl Z rfl) ⟨rfl, I5, (H.sub [] rfl).eq rfl⟩
  ·replace hF := ite_f hc3 hF
   refine f_cut (fun a' w' => ∃ (x : Bool), Sl 54 [(1, .pointer (some ⟨b1, 0, none⟩)), (2, .int .i64 0), (6, .int .i64 n0.k), (30, .bool x)] a' ∧ (∃ I2, Hf I D w I2 w' [BxC b1 39 (cENote n0 v1_n0 v2_n0 v3_n0), SlC NEMember v1_n0 n0.conf.members, SlC Ni64 v2_n0 n0.legit, SlC NEOp v3_n0 n0.entry.batch.ops]) ∧ F_note_Check_k1 n0 x = some rr) ?_ ?_
   ·rintro a w7 ⟨x, Z, ⟨I6, H⟩, hF⟩
    unfold F_note_Check_k1 at hF
    try dsimp only at hF
    refine f_cond Z rfl (fun hc5 => ?_) (fun hc5 => ?_)
    ·replace hF := ite_t hc5 hF
     refine wp_seq ?_
     obtain ⟨r0_2, hx5, hF⟩ := bnd_in hF
     refine f_region Z ?_; clear Z; intro Z
     refine s_runk tN Z 1 rfl rfl ?_; clear Z a; intro a Z
     refine s_ob Z (v := .int .i64 n0.n) rfl rfl (by decide) rfl (Ob_load tN rfl rfl rfl ((H.bx 0 rfl).cell 1 rfl)) ?_; clear Z a; intro a Z
     refine h_bslice Z H (vs := [(0, .int .i64 n0.n)]) (cl := [.int .i64 n0.n]) (e := 3) rfl rfl rfl (by decide) rfl rfl (fun w => run_bslice (z := .int .i64 0) (m := 1) Try.underlying27 (by kernel_rfl) rfl rfl (by decide) (by simp [Instr.fill, Value.cells]) w) ?_; clear Z a H; intro a w8 b3 H Z
     obtain ⟨I7, _, H⟩ := H.frzlit 0 rfl (R := Ni64) [[.int .i64 n0.n]] [n0.n] rfl rfl (fun i h1 h2 => by match i, h1, h2 with | 0, _, _ => exact ⟨rfl, trivial⟩) (show 1 ≤ maxLen from by decide) (n := 1) rfl
     replace H : Hf I D w I7 w8 [SlC Ni64 (.slice (some ⟨b3, 0, none⟩) 1 1) [n0.n], BxC b1 39 (cENote n0 v1_n0 v2_n0 v3_n0), SlC NEMember v1_n0 n0.conf.members, SlC Ni64 v2_n0 n0.legit, SlC NEOp v3_n0 n0.entry.batch.ops] := H
     refine h_call Z H (js := [(0, true)]) rfl (caps := #[]) fn_45_YNote rfl rfl rfl rfl rfl (by decide) rfl rfl (fun D1 hS => have hq := c_note_range0 hx5 hS; hq) ?_; clear Z a; intro vv a w9 D2 hr hF2 Z
     obtain ⟨rfl, I8, K⟩ := hr
     have H : Hf I D w I8 w9 [SlC Ni64 (.slice (some ⟨b3, 0, none⟩) 1 1) [n0.n], BxC b1 39 (cENote n0 v1_n0 v2_n0 v3_n0), SlC NEMember v1_n0 n0.conf.members, SlC Ni64 v2_n0 n0.legit, SlC NEOp v3_n0 n0.entry.batch.ops] := hF2 K
     clear hF2 K
     refine s_runk tN Z 1 rfl rfl ?_; clear Z a; intro a Z
     refine s_end Z [2] rfl ?_; clear Z; intro Z
     refine p_then (wp_ret ?_)
     refine p_blk_r ?_
     refine p_then_r ?_
     obtain rfl := some_in hF
     exact f_ret Z (run_results1 rfl Z rfl) ⟨rfl, I8, (H.sub [] rfl).eq rfl⟩
    ·replace hF := ite_f hc5 hF
     refine wp_seq (f_region Z ?_); clear Z; intro Z
     refine s_runk tN Z 2 rfl rfl ?_; clear Z a; intro a Z
     refine s_end Z [1, 2, 6, 39] rfl ?_; clear Z; intro Z
     refine p_then ?_
     refine f_cond Z rfl (fun hc6 => ?_) (fun hc6 => ?_)
     ·replace hF := ite_t hc6 hF
      refine wp_seq ?_
      obtain ⟨r0_3, hx6, hF⟩ := bnd_in hF
      refine f_region Z ?_; clear Z; intro Z
      refine s_runk tN Z 2 rfl rfl ?_; clear Z a; intro a Z
      refine s_ob Z (v := .int .i64 n0.pin.id) rfl rfl (by decide) rfl (Ob_load tN rfl rfl rfl ((H.bx 0 rfl).cell 11 rfl)) ?_; clear Z a; intro a Z
      refine s_runk tN Z 2 rfl rfl ?_; clear Z a; intro a Z
      refine s_ob Z (v := .int .i64 n0.pin.left) rfl rfl (by decide) rfl (Ob_load tN rfl rfl rfl ((H.bx 0 rfl).cell 13 rfl)) ?_; clear Z a; intro a Z
      refine h_bslice Z H (vs := [(0, .int .i64 n0.pin.id), (1, .int .i64 n0.pin.left)]) (cl := [.int .i64 n0.pin.id, .int .i64 n0.pin.left]) (e := 3) rfl rfl rfl (by decide) rfl rfl (fun w => run_bslice (z := .int .i64 0) (m := 1) Try.underlying27 (by kernel_rfl) rfl rfl (by decide) (by simp [Instr.fill, Value.cells]) w) ?_; clear Z a H; intro a w10 b4 H Z
      obtain ⟨I9, _, H⟩ := H.frzlit 0 rfl (R := Ni64) [[.int .i64 n0.pin.id], [.int .i64 n0.pin.left]] [n0.pin.id, n0.pin.left] rfl rfl (fun i h1 h2 => by match i, h1, h2 with | 0, _, _ => exact ⟨rfl, trivial⟩ | 1, _, _ => exact ⟨rfl, trivial⟩) (show 2 ≤ maxLen from by decide) (n := 2) rfl
      replace H : Hf I D w I9 w10 [SlC Ni64 (.slice (some ⟨b4, 0, none⟩) 2 2) [n0.pin.id, n0.pin.left], BxC b1 39 (cENote n0 v1_n0 v2_n0 v3_n0), SlC NEMember v1_n0 n0.conf.members, SlC Ni64 v2_n0 n0.legit, SlC NEOp v3_n0 n0.entry.batch.ops] := H
      refine h_call Z H (js := [(0, true)]) rfl (caps := #[]) fn_45_YNote rfl rfl rfl rfl rfl (by decide) rfl rfl (fun D1 hS => have hq := c_note_range0 hx6 hS; hq) ?_; clear Z a; intro vv a w11 D2 hr hF2 Z
      obtain ⟨rfl, I10, K⟩ := hr
      have H : Hf I D w I10 w11 [SlC Ni64 (.slice (some ⟨b4, 0, none⟩) 2 2) [n0.pin.id, n0.pin.left], BxC b1 39 (cENote n0 v1_n0 v2_n0 v3_n0), SlC NEMember v1_n0 n0.conf.members, SlC Ni64 v2_n0 n0.legit, SlC NEOp v3_n0 n0.entry.batch.ops] := hF2 K
      clear hF2 K
      refine s_runk tN Z 1 rfl rfl ?_; clear Z a; intro a Z
      refine s_end Z [2] rfl ?_; clear Z; intro Z
      refine p_then (wp_ret ?_)
      refine p_blk_r ?_
      refine p_then_r ?_
      obtain rfl := some_in hF
      exact f_ret Z (run_results1 rfl Z rfl) ⟨rfl, I10, (H.sub [] rfl).eq rfl⟩
     ·replace hF := ite_f hc6 hF
      refine wp_seq (f_region Z ?_); clear Z; intro Z
      refine s_runk tN Z 2 rfl rfl ?_; clear Z a; intro a Z
      refine s_end Z [1, 2, 49] rfl ?_; clear Z; intro Z
      refine p_then ?_
      refine f_cond Z rfl (fun hc7 => ?_) (fun hc7 => ?_)
      ·replace hF := ite_t hc7 hF
       refine wp_seq ?_
       obtain ⟨s0, hx7, hF⟩ := bnd_in hF
       refine f_region Z ?_; clear Z; intro Z
       refine s_runk tN Z 1 rfl rfl ?_; clear Z a; intro a Z
       refine s_ob Z (v := .agg #[.int .i64 n0.said.client, .int .i64 n0.said.req, .int .i64 n0.said.e, .int .i64 n0.said.pin]) rfl rfl (by decide) rfl (Ob_loads tN rfl rfl rfl ((H.bx 0 rfl).part 14 rfl)) ?_; clear Z a; intro a Z
       refine h_call Z H (js := []) rfl (caps := #[]) fn_47_YNote rfl rfl rfl rfl rfl (by decide) rfl rfl (fun D1 hS => have hq := c_note_said hx7 hS; hq) ?_; clear Z a; intro vv a w12 D2 hr hF2 Z
       obtain ⟨rfl, I11, K⟩ := hr
       have H : Hf I D w I11 w12 [BxC b1 39 (cENote n0 v1_n0 v2_n0 v3_n0), SlC NEMember v1_n0 n0.conf.members, SlC Ni64 v2_n0 n0.legit, SlC NEOp v3_n0 n0.entry.batch.ops] := hF2 K
       clear hF2 K
       refine s_runk tN Z 1 rfl rfl ?_; clear Z a; intro a Z
       refine s_end Z [2] rfl ?_; clear Z; intro Z
       refine p_then (wp_ret ?_)
       refine p_blk_r ?_
       refine p_then_r ?_
       obtain rfl := some_in hF
       exact f_ret Z (run_results1 rfl Z rfl) ⟨rfl, I11, (H.sub [] rfl).eq rfl⟩
      ·replace hF := ite_f hc7 hF
       refine wp_skip ?_
       refine p_blk ?_
       refine p_then (wp_seq (f_region Z ?_)); clear Z; intro Z
       refine s_runk tN Z 1 rfl rfl ?_; clear Z a; intro a Z
       refine s_end Z [2] rfl ?_; clear Z; intro Z
       refine p_then (wp_ret ?_)
       obtain rfl := some_in hF
       exact f_ret Z (run_results1 rfl Z rfl) ⟨rfl, I6, (H.sub [] rfl).eq rfl⟩
   ·skip
    refine wp_seq (f_region Z ?_); clear Z; intro Z
    refine s_runk tN Z 2 rfl rfl ?_; clear Z a; intro a Z
    refine s_end Z [1, 2, 6, 30] rfl ?_; clear Z; intro Z
    refine p_then ?_
    refine f_cond Z rfl (fun hc8 => ?_) (fun hc8 => ?_)
    ·replace hF := ite_t hc8 hF
     refine wp_skip ?_
     refine p_then ?_
     exact ⟨n0.k == 3, Z.sub (ts := [1, 2, 6, 30]) rfl, ⟨I, (H.sub [(0, false), (0, true), (1, true), (2, true)] rfl).eq rfl⟩, hF⟩
    ·replace hF := ite_f hc8 hF
     refine wp_seq (f_region Z ?_); clear Z; intro Z
     refine s_runk tN Z 2 rfl rfl ?_; clear Z a; intro a Z
     refine s_end Z [1, 2, 6, 30] rfl ?_; clear Z; intro Z
     refine p_then ?_
     refine f_cond Z rfl (fun hc9 => ?_) (fun hc9 => ?_)
     ·replace hF := ite_t hc9 hF
      refine wp_skip ?_
      refine p_then ?_
      exact ⟨n0.k == 4, Z.sub (ts := [1, 2, 6, 30]) rfl, ⟨I, (H.sub [(0, false), (0, true), (1, true), (2, true)] rfl).eq rfl⟩, hF⟩
     ·replace hF := ite_f hc9 hF
      refine wp_seq (f_region Z ?_); clear Z; intro Z
      refine s_runk tN Z 2 rfl rfl ?_; clear Z a; intro a Z
      refine s_end Z [1, 2, 6, 30] rfl ?_; clear Z; intro Z
      refine p_then ?_
      refine f_cond Z rfl (fun hc10 => ?_) (fun hc10 => ?_)
      ·replace hF := ite_t hc10 hF
       refine wp_skip ?_
       refine p_then ?_
       exact ⟨n0.k == 5, Z.sub (ts := [1, 2, 6, 30]) rfl, ⟨I, (H.sub [(0, false), (0, true), (1, true), (2, true)] rfl).eq rfl⟩, hF⟩
      ·replace hF := ite_f hc10 hF
       refine f_region Z ?_; clear Z; intro Z
       refine s_runk tN Z 2 rfl rfl ?_; clear Z a; intro a Z
       refine s_end Z [1, 2, 6, 30] rfl ?_; clear Z; intro Z
       refine p_then ?_
       exact ⟨n0.k == 7, Z.sub (ts := [1, 2, 6, 30]) rfl, ⟨I, (H.sub [(0, false), (0, true), (1, true), (2, true)] rfl).eq rfl⟩, hF⟩

def F_ref10_Put_k1 (w_s : ByteArray) (w_e : Int) : Option (ByteArray × Int) := (F_ref02_Writer_Done ({ s := w_s, e := w_e } : Eref02_Writer)).bind fun d => (some (d.1, d.2))

def F_ref10_Put_l2 (n0 : ENote) (rc : (Int × ByteArray × Int) → Option (ByteArray × Int)) (sg : Int × ByteArray × Int) : Option (ByteArray × Int) := match sg with | (i, w_s_2, w_e_2) => if (decide (i < (n0.legit.length : Int))) = true then (chk ((0 : Int) ≤ i ∧ i < (n0.legit.length : Int)) ((F_ref02_Writer_Num ({ s := w_s_2, e := w_e_2 } : Eref02_Writer) (n0.legit.getD (i).toNat default)).bind fun n0_4 => (chk (inI (i + 1)) (rc (i + 1, n0_4.s, n0_4.e))))) else (F_ref10_Put_k1 w_s_2 w_e_2)

def F_ref10_Put_k3 (n0 : ENote) (n0_2 : Eref02_Writer) (x : Bool) : Option (ByteArray × Int) := if (x) = true then ((F_ref02_Writer_Num n0_2 n0.n).bind fun n0_8 => (F_ref10_Put_k1 n0_8.s n0_8.e)) else (if (n0.k == 6) = true then ((F_ref02_Writer_Num n0_2 n0.pin.id).bind fun n0_9 => ((F_ref02_Writer_Big n0_9 n0.pin.at_).bind fun b_3 => ((F_ref02_Writer_Num b_3 n0.pin.left).bind fun n0_10 => (F_ref10_Put_k1 n0_10.s n0_10.e)))) else ((F_ref02_Writer_Num n0_2 n0.said.client).bind fun n0_11 => ((F_ref02_Writer_Num n0_11 n0.said.req).bind fun n0_12 => ((F_ref02_Writer_Num n0_12 n0.said.e).bind fun n0_13 => ((F_ref02_Writer_Num n0_13 n0.said.pin).bind fun n0_14 => (F_ref10_Put_k1 n0_14.s n0_14.e))))))

def F_ref10_Put (n0 : ENote) : Option (ByteArray × Int) := (F_ref10_Check n0).bind fun c => (if (c != 0) = true then (some (⟨#[]⟩, c)) else ((F_ref02_Writer_Num (default : Eref02_Writer) n0.k).bind fun n0_2 => (if (n0.k == 1) = true then ((F_ref07_Put n0.conf).bind fun p => ((F_ref02_Writer_Text n0_2 p.1).bind fun t => ((F_ref02_Writer_Num t (n0.legit.length : Int)).bind fun n0_3 => (iter (F_ref10_Put_l2 n0) FU (0, n0_3.s, n0_3.e))))) else (if (n0.k == 2) = true then ((F_ref02_Writer_Num n0_2 n0.n).bind fun n0_5 => ((F_ref08_Put n0.entry).bind fun p_2 => ((F_ref02_Writer_Text n0_5 p_2.1).bind fun t_2 => (F_ref10_Put_k1 t_2.s t_2.e)))) else (if (n0.k == 3) = true then ((F_ref02_Writer_Num n0_2 n0.n).bind fun n0_6 => ((F_ref02_Writer_Big n0_6 n0.at_).bind fun b => (F_ref10_Put_k1 b.s b.e))) else (if (n0.k == 4) = true then ((F_ref02_Writer_Big n0_2 n0.at_).bind fun b_2 => ((F_ref02_Writer_Num b_2 n0.n).bind fun n0_7 => (F_ref10_Put_k1 n0_7.s n0_7.e))) else (if (n0.k == 5) = true then (F_ref10_Put_k3 n0 n0_2 (n0.k == 5)) else (F_ref10_Put_k3 n0 n0_2 (n0.k == 7)))))))))

def F_note_Put_k1 (w0 : Ewire_Writer) : Option (ByteArray × Int) := (F_wire_Writer_Done w0).bind fun d => (some (d.1, d.2))

def F_note_Put_k2 (n0 : ENote) (w0_2 : Ewire_Writer) : Option (ByteArray × Int) := (F_wire_Writer_Num w0_2 n0.n).bind fun n0_4 => (F_note_Put_k1 n0_4)

def F_note_Put_l3 (n0 : ENote) (rc : (Int × Ewire_Writer) → Option (ByteArray × Int)) (sg : Int × Ewire_Writer) : Option (ByteArray × Int) := match sg with | (x, w0_3) => if (decide (x < (n0.legit.length : Int))) = true then (chk ((0 : Int) ≤ x ∧ x < (n0.legit.length : Int)) ((F_wire_Writer_Num w0_3 (n0.legit.getD (x).toNat default)).bind fun n0_6 => (chk (inI (x + 1)) (rc (x + 1, n0_6))))) else (F_note_Put_k1 w0_3)

def F_note_Put_k4 (n0 : ENote) (n0_3 : Ewire_Writer) (x_2 : Bool) : Option (ByteArray × Int) := if (x_2) = true then (F_note_Put_k2 n0 n0_3) else (if (n0.k == 6) = true then ((F_wire_Writer_Num n0_3 n0.pin.id).bind fun n0_9 => ((F_wire_Writer_Big n0_9 n0.pin.at_).bind fun b_3 => ((F_wire_Writer_Num b_3 n0.pin.left).bind fun n0_10 => (F_note_Put_k1 n0_10)))) else (if (n0.k == 8) = true then ((F_wire_Writer_Num n0_3 n0.said.client).bind fun n0_11 => ((F_wire_Writer_Num n0_11 n0.said.req).bind fun n0_12 => ((F_wire_Writer_Num n0_12 n0.said.e).bind fun n0_13 => ((F_wire_Writer_Num n0_13 n0.said.pin).bind fun n0_14 => (F_note_Put_k1 n0_14))))) else (F_note_Put_k1 n0_3)))

def F_note_Put (n0 : ENote) : Option (ByteArray × Int) := (F_note_Check n0).bind fun c => (if (c != 0) = true then (some (⟨#[]⟩, c)) else ((F_wire_New).bind fun n0_2 => ((F_wire_Writer_Num n0_2 n0.k).bind fun n0_3 => (if (n0.k == 1) = true then ((F_conf_Put n0.conf).bind fun p => ((F_wire_Writer_Text n0_3 p.1).bind fun t => ((F_wire_Writer_Num t (n0.legit.length : Int)).bind fun n0_5 => (iter (F_note_Put_l3 n0) FU (0, n0_5))))) else (if (n0.k == 2) = true then ((F_item_Put n0.entry).bind fun p_2 => ((F_wire_Writer_Num n0_3 n0.n).bind fun n0_7 => ((F_wire_Writer_Text n0_7 p_2.1).bind fun t_2 => (F_note_Put_k1 t_2)))) else (if (n0.k == 3) = true then ((F_wire_Writer_Num n0_3 n0.n).bind fun n0_8 => ((F_wire_Writer_Big n0_8 n0.at_).bind fun b => (F_note_Put_k1 b))) else (if (n0.k == 4) = true then ((F_wire_Writer_Big n0_3 n0.at_).bind fun b_2 => (F_note_Put_k2 n0 b_2)) else (if (n0.k == 5) = true then (F_note_Put_k4 n0 n0_3 (n0.k == 5)) else (F_note_Put_k4 n0 n0_3 (n0.k == 7))))))))))

set_option maxHeartbeats 1000000 in
theorem c_note_Put {I D : Dm} {n0 : ENote} {v1_n0 : Value} {v2_n0 : Value} {v3_n0 : Value} {w : World} {rr : ByteArray × Int} (hF : F_note_Put n0 = some rr) (H : St I D w [SlC NEMember v1_n0 n0.conf.members, SlC Ni64 v2_n0 n0.legit, SlC NEOp v3_n0 n0.entry.batch.ops]) :
  Calls Try.prog 11 #[.agg #[.int .i64 n0.k, .int .i64 n0.n, .int .u64 n0.at_, .int .i64 n0.conf.epoch, v1_n0, .int .u64 n0.conf.floor, v2_n0, .int .i64 n0.entry.batch.client, .int .i64 n0.entry.batch.req, v3_n0, .int .u64 n0.entry.ts, .int .i64 n0.pin.id, .int .u64 n0.pin.at_, .int .i64 n0.pin.left, .int .i64 n0.said.client, .int .i64 n0.said.req, .int .i64 n0.said.e, .int .i64 n0.said.pin]] w (Ret fun vv w' => vv = .tuple #[.string rr.1, .int .i64 rr.2] ∧ ∃ I', Hf I D w I' w' []) := by
 replace H := H.hf
 unfold F_note_Put at hF
 refine f_enter 123 Try.func11 rfl rfl (Nat.le_of_ble_eq_true rfl) fun a Z => ?_
 replace Z := Z.sub (ts := [0]) rfl
 refine wp_seq (f_region Z ?_); clear Z; intro Z
 refine h_boxv Z H (cl := [.int .i64 n0.k, .int .i64 n0.n, .int .u64 n0.at_, .int .i64 n0.conf.epoch, v1_n0, .int .u64 n0.conf.floor, v2_n0, .int .i64 n0.entry.batch.client, .int .i64 n0.entry.batch.req, v3_n0, .int .u64 n0.entry.ts, .int .i64 n0.pin.id, .int .u64 n0.pin.at_, .int .i64 n0.pin.left, .int .i64 n0.said.client, .int .i64 n0.said.req, .int .i64 n0.said.e, .int .i64 n0.said.pin]) rfl rfl rfl (by decide) rfl rfl rfl ?_; clear Z a H; intro a w1 b1 H Z
 refine s_runk tN Z 2 rfl rfl ?_; clear Z a; intro a Z
 refine s_end Z [1, 2, 3] rfl ?_; clear Z; intro Z
 refine p_then (wp_seq ?_)
 refine wp_seq ?_
 obtain ⟨c, hx1, hF⟩ := bnd_in hF
 refine f_region Z ?_; clear Z; intro Z
 refine s_ob Z (v := .agg #[.int .i64 n0.k, .int .i64 n0.n, .int .u64 n0.at_, .int .i64 n0.conf.epoch, v1_n0, .int .u64 n0.conf.floor, v2_n0, .int .i64 n0.entry.batch.client, .int .i64 n0.entry.batch.req, v3_n0, .int .u64 n0.entry.ts, .int .i64 n0.pin.id, .int .u64 n0.pin.at_, .int .i64 n0.pin.left, .int .i64 n0.said.client, .int .i64 n0.said.req, .int .i64 n0.said.e, .int .i64 n0.said.pin]) rfl rfl (by decide) rfl (Ob_loads tN rfl rfl rfl ((H.bx 0 rfl).part 0 rfl)) ?_; clear Z a; intro a Z
 refine h_call Z H (js := [(1, true), (2, true), (3, true)]) rfl (caps := #[]) fn_14_YNote rfl rfl rfl rfl rfl (by decide) rfl rfl (fun D1 hS => have hq := c_note_Check hx1 hS; hq) ?_; clear Z a; intro vv a w2 D2 hr hF2 Z
 obtain ⟨rfl, I1, K⟩ := hr
 have H : Hf I D w I1 w2 [BxC b1 39 (cENote n0 v1_n0 v2_n0 v3_n0), SlC NEMember v1_n0 n0.conf.members, SlC Ni64 v2_n0 n0.legit, SlC NEOp v3_n0 n0.entry.batch.ops] := hF2 K
 clear hF2 K
 refine s_runk tN Z 1 rfl rfl ?_; clear Z a; intro a Z
 refine s_end Z [1, 2, 3, 4] rfl ?_; clear Z; intro Z
 refine p_then (wp_seq (f_region Z ?_)); clear Z; intro Z
 refine s_runk tN Z 2 rfl rfl ?_; clear Z a; intro a Z
 refine s_end Z [1, 2, 3, 4, 15] rfl ?_; clear Z; intro Z
 refine p_then ?_
 refine f_cond Z rfl (fun hc1 => ?_) (fun hc1 => ?_)
 ·replace hF := ite_t hc1 hF
  refine wp_seq (f_region Z ?_); clear Z; intro Z
  refine s_runk tN Z 3 rfl rfl ?_; clear Z a; intro a Z
  refine s_end Z [1, 2, 3] rfl ?_; clear Z; intro Z
  refine p_then (wp_ret ?_)
  refine p_then_r ?_
  obtain rfl := some_in hF
  exact f_ret Z (run_results2 rfl Z rfl rfl) ⟨rfl, I1, (H.sub [] rfl).eq rfl⟩
 ·replace hF := ite_f hc1 hF
  refine wp_skip ?_
  refine p_then (wp_seq ?_)
  obtain ⟨n0_2, hx2, hF⟩ := bnd_in hF
  obtain ⟨n0_3, hx3, hF⟩ := bnd_in hF
  refine f_regionM Z (by kernel_rfl) (by kernel_rfl) (by decide) (by decide) [0, 3] [(0, 0, 0), (0, 0, 1), (2, 0, 1), (7, 1, 1), (15, 2, 2)] (by kernel_rfl) (fun jj => match jj with | 3 => 0 | 4 => 0 | _ => jj) (by kernel_rfl) (fun jj rv vv => match jj with | 0 => vv = .pointer (some ⟨(blkOf vv), 0, none⟩) | 1 => vv = .pointer (some ⟨b1, 0, none⟩) | 2 => vv = .int .i64 n0.k | 3 => vv = .pointer (some ⟨(blkOf rv), 0, none⟩) | 4 => vv = .pointer (some ⟨(blkOf rv), 0, none⟩) | _ => True) (fun ss vals1 xw => match ss with | 0 => Gx I D w I1 w2 xw [BxC b1 39 (cENote n0 v1_n0 v2_n0 v3_n0), SlC NEMember v1_n0 n0.conf.members, SlC Ni64 v2_n0 n0.legit, SlC NEOp v3_n0 n0.entry.batch.ops] | 1 => Gx I D w I1 w2 xw [OEwire_Writer (blkOf (vals1 0)) n0_2, BxC b1 39 (cENote n0 v1_n0 v2_n0 v3_n0), SlC NEMember v1_n0 n0.conf.members, SlC Ni64 v2_n0 n0.legit, SlC NEOp v3_n0 n0.entry.batch.ops] | _ => Gx I D w I1 w2 xw [OEwire_Writer (blkOf (vals1 0)) n0_3, BxC b1 39 (cENote n0 v1_n0 v2_n0 v3_n0), SlC NEMember v1_n0 n0.conf.members, SlC Ni64 v2_n0 n0.legit, SlC NEOp v3_n0 n0.entry.batch.ops]) (fun _ => Gx.start H) ?_ ?_
  ·intro fr hfr hfe
   refine .cons (fun ss hlo hhi vals1 xw hG hV => ?_) ?_
   ·obtain rfl : ss = 0 := Nat.le_antisymm hhi hlo
    rw [← hfe]
    have hS := (hfr vals1).sub (ts := []) (S' := []) rfl
    obtain ⟨I2, hI2, H⟩ := Gx.ex hG
    refine L_hcall H (js := []) rfl (caps := #[]) hS fn_30_YNote rfl rfl rfl rfl rfl (fun D1 hS => have hq := c_wire_New hx2 hS; hq) fun _ yw D1 hr hF2 => ?_
    obtain ⟨g0_, rfl, I3, K⟩ := hr
    obtain ⟨hK, H2⟩ := hF2 K
    exact ⟨rfl, Gx.go hG hI2 hK K.imm H2⟩
   refine .cons (fun ss hlo hhi vals1 xw hG hV => ?_) ?_
   ·obtain rfl | rfl : ss = 0 ∨ ss = 1 := st1 hlo hhi
    all_goals
    ·rw [← hfe]
     have hS := (hfr vals1).sub (ts := [1]) (S' := [(1, .pointer (some ⟨b1, 0, none⟩))]) rfl
     exact L_val hS rfl (Ob_c tN rfl) ⟨rfl, hG⟩
   refine .cons (fun ss hlo hhi vals1 xw hG hV => ?_) ?_
   ·obtain rfl | rfl : ss = 0 ∨ ss = 1 := st1 hlo hhi
    ·rw [← hfe]
     have hS := (hfr vals1).sub (ts := [18]) (S' := [(18, vals1 1)]) rfl
     replace hS := hS.conv (t := 18) rfl (show (vals1 1) = .pointer (some ⟨b1, 0, none⟩) from hV 1 (by decide))
     obtain ⟨I2, hI2, H⟩ := Gx.ex hG
     exact L_val hS rfl (Ob_load tN rfl rfl rfl ((H.bx 0 rfl).cell 0 rfl)) ⟨rfl, hG⟩
    ·rw [← hfe]
     have hS := (hfr vals1).sub (ts := [18]) (S' := [(18, vals1 1)]) rfl
     replace hS := hS.conv (t := 18) rfl (show (vals1 1) = .pointer (some ⟨b1, 0, none⟩) from hV 1 (by decide))
     obtain ⟨I2, hI2, H⟩ := Gx.ex hG
     exact L_val hS rfl (Ob_load tN rfl rfl rfl ((H.bx 1 rfl).cell 0 rfl)) ⟨rfl, hG⟩
   refine .cons (fun ss hlo hhi vals1 xw hG hV => ?_) ?_
   ·obtain rfl : ss = 1 := Nat.le_antisymm hhi hlo
    rw [← hfe]
    have hS := (hfr vals1).sub (ts := [17, 19]) (S' := [(17, vals1 0), (19, vals1 2)]) rfl
    replace hS := hS.conv (t := 17) rfl (show (vals1 0) = .pointer (some ⟨(blkOf (vals1 0)), 0, none⟩) from hV 0 (by decide))
    replace hS := hS.conv (t := 19) rfl (show (vals1 2) = .int .i64 n0.k from hV 2 (by decide))
    obtain ⟨I2, hI2, H⟩ := Gx.ex hG
    refine L_hcall H (js := [(0, false)]) rfl (caps := #[]) hS fn_31_YNote rfl rfl rfl rfl rfl (fun D1 hS => have hq := c_wire_Writer_Num hx3 hS; hq) fun _ yw D1 hr hF2 => ?_
    obtain ⟨rfl, I3, K⟩ := hr
    obtain ⟨hK, H2⟩ := hF2 K
    exact ⟨rfl, Gx.go hG hI2 hK K.imm H2⟩
   refine .cons (fun ss hlo hhi vals1 xw hG hV => ?_) ?_
   ·obtain rfl : ss = 2 := Nat.le_antisymm hhi hlo
    rw [← hfe]
    have hS := (hfr vals1).sub (ts := [20]) (S' := [(20, vals1 3)]) rfl
    replace hS := hS.conv (t := 20) rfl (show (vals1 3) = .pointer (some ⟨(blkOf (vals1 0)), 0, none⟩) from hV 3 (by decide))
    exact L_val hS rfl (Ob_c tN rfl) ⟨rfl, hG⟩
   exact .nil
  ·intro vals1 a w3 Z hG hV
   replace Z := Z.sub (ts := [1, 2, 3, 5]) (S' := [(1, .pointer (some ⟨b1, 0, none⟩)), (2, .string ⟨#[]⟩), (3, .int .i64 0), (5, vals1 4)]) rfl
   replace Z := Z.conv (t := 5) rfl (show (vals1 4) = .pointer (some ⟨(blkOf (vals1 0)), 0, none⟩) from hV 4 (by decide))
   obtain ⟨I2, _, H⟩ := Gx.ex hG
   clear hG hV
   replace Z := Z.sub (ts := [1, 2, 3, 5]) rfl
   replace H : Hf I D w I2 w3 [OEwire_Writer (blkOf (vals1 0)) n0_3, BxC b1 39 (cENote n0 v1_n0 v2_n0 v3_n0), SlC NEMember v1_n0 n0.conf.members, SlC Ni64 v2_n0 n0.legit, SlC NEOp v3_n0 n0.entry.batch.ops] := H
   refine p_then ?_
   refine f_cut (fun a' w' => ∃ (w0 : Ewire_Writer), Sl 123 [(2, .string ⟨#[]⟩), (3, .int .i64 0), (5, .pointer (some ⟨(blkOf (vals1 0)), 0, none⟩))] a' ∧ (∃ I2, Hf I D w I2 w' [OEwire_Writer (blkOf (vals1 0)) w0]) ∧ F_note_Put_k1 w0 = some rr) ?_ ?_
   ·rintro a w4 ⟨w0, Z, ⟨I3, H⟩, hF⟩
    unfold F_note_Put_k1 at hF
    try dsimp only at hF
    refine wp_seq ?_
    obtain ⟨d, hx4, hF⟩ := bnd_in hF
    refine f_region Z ?_; clear Z; intro Z
    refine s_runk tN Z 1 rfl rfl ?_; clear Z a; intro a Z
    refine h_call Z H (js := [(0, false)]) rfl (caps := #[]) fn_36_YNote rfl rfl rfl rfl rfl (by decide) rfl rfl (fun D1 hS => have hq := c_wire_Writer_Done hx4 hS; hq) ?_; clear Z a; intro vv a w5 D2 hr hF2 Z
    obtain ⟨rfl, I4, K⟩ := hr
    have H : Hf I D w I4 w5 [] := hF2 K
    clear hF2 K
    refine s_runk tN Z 4 rfl rfl ?_; clear Z a; intro a Z
    refine s_end Z [2, 3] rfl ?_; clear Z; intro Z
    refine p_then (wp_ret ?_)
    obtain rfl := some_in hF
    exact f_ret Z (run_results2 rfl Z rfl rfl) ⟨rfl, I4, (H.sub [] rfl).eq rfl⟩
   ·skip
    refine wp_seq (f_region Z ?_); clear Z; intro Z
    refine s_runk tN Z 1 rfl rfl ?_; clear Z a; intro a Z
    refine s_ob Z (v := .int .i64 n0.k) rfl rfl (by decide) rfl (Ob_load tN rfl rfl rfl ((H.bx 1 rfl).cell 0 rfl)) ?_; clear Z a; intro a Z
    refine s_end Z [1, 2, 3, 5, 22] rfl ?_; clear Z; intro Z
    refine p_then (wp_block ?_)
    refine wp_seq ?_
    refine wp_block ?_
    refine wp_seq ?_
    refine wp_block ?_
    refine f_cut (fun a' w' => ∃ (w0_2 : Ewire_Writer), Sl 123 [(1, .pointer (some ⟨b1, 0, none⟩)), (2, .string ⟨#[]⟩), (3, .int .i64 0), (5, .pointer (some ⟨(blkOf (vals1 0)), 0, none⟩))] a' ∧ (∃ I2, Hf I D w I2 w' [BxC b1 39 (cENote n0 v1_n0 v2_n0 v3_n0), OEwire_Writer (blkOf (vals1 0)) w0_2, SlC NEMember v1_n0 n0.conf.members, SlC Ni64 v2_n0 n0.legit, SlC NEOp v3_n0 n0.entry.batch.ops]) ∧ F_note_Put_k2 n0 w0_2 = some rr) ?_ ?_
    ·rintro a w6 ⟨w0_2, Z, ⟨I5, H⟩, hF⟩
     unfold F_note_Put_k2 at hF
     try dsimp only at hF
     refine wp_seq ?_
     obtain ⟨n0_4, hx5, hF⟩ := bnd_in hF
     refine f_region Z ?_; clear Z; intro Z
     refine s_runk tN Z 2 rfl rfl ?_; clear Z a; intro a Z
     refine s_ob Z (v := .int .i64 n0.n) rfl rfl (by decide) rfl (Ob_load tN rfl rfl rfl ((H.bx 0 rfl).cell 1 rfl)) ?_; clear Z a; intro a Z
     refine h_call Z H (js := [(1, false)]) rfl (caps := #[]) fn_31_YNote rfl rfl rfl rfl rfl (by decide) rfl rfl (fun D1 hS => have hq := c_wire_Writer_Num hx5 hS; hq) ?_; clear Z a; intro vv a w7 D2 hr hF2 Z
     obtain ⟨rfl, I6, K⟩ := hr
     have H : Hf I D w I6 w7 [OEwire_Writer (blkOf (vals1 0)) n0_4, BxC b1 39 (cENote n0 v1_n0 v2_n0 v3_n0), SlC NEMember v1_n0 n0.conf.members, SlC Ni64 v2_n0 n0.legit, SlC NEOp v3_n0 n0.entry.batch.ops] := hF2 K
     clear hF2 K
     refine s_end Z [1, 2, 3, 5] rfl ?_; clear Z; intro Z
     refine p_then ?_
     refine wp_exit ?_
     refine f_exit_out (by decide) ?_
     refine p_then_x ?_
     refine f_exit_out (by decide) ?_
     refine p_then_x ?_
     refine f_exit_here ?_
     refine p_then ?_
     exact ⟨n0_4, Z.sub (ts := [2, 3, 5]) rfl, ⟨I6, (H.sub [(0, false)] rfl).eq rfl⟩, hF⟩
    ·skip
     refine wp_block ?_
     refine wp_seq ?_
     refine wp_block ?_
     refine wp_seq ?_
     refine wp_block ?_
     refine wp_seq ?_
     refine wp_block ?_
     refine wp_seq ?_
     refine wp_block ?_
     refine wp_seq ?_
     refine wp_seq ?_
     refine wp_seq (f_region Z ?_); clear Z; intro Z
     refine s_runk tN Z 2 rfl rfl ?_; clear Z a; intro a Z
     refine s_end Z [1, 2, 3, 5, 22, 23] rfl ?_; clear Z; intro Z
     refine p_then ?_
     refine f_cond Z rfl (fun hc2 => ?_) (fun hc2 => ?_)
     ·replace hF := ite_t hc2 hF
      refine wp_exit ?_
      refine p_then_x ?_
      refine p_then_x ?_
      refine f_exit_here ?_
      refine p_then (wp_seq ?_)
      refine wp_seq ?_
      obtain ⟨p, hx6, hF⟩ := bnd_in hF
      refine f_region Z ?_; clear Z; intro Z
      refine s_runk tN Z 1 rfl rfl ?_; clear Z a; intro a Z
      refine s_ob Z (v := .agg #[.int .i64 n0.conf.epoch, v1_n0, .int .u64 n0.conf.floor]) rfl rfl (by decide) rfl (Ob_loads tN rfl rfl rfl ((H.bx 1 rfl).part 3 rfl)) ?_; clear Z a; intro a Z
      refine h_call Z H (js := [(2, true)]) rfl (caps := #[]) fn_32_YNote rfl rfl rfl rfl rfl (by decide) rfl rfl (fun D1 hS => have hq := c_conf_Put hx6 hS; hq) ?_; clear Z a; intro vv a w8 D2 hr hF2 Z
      obtain ⟨rfl, I7, K⟩ := hr
      have H : Hf I D w I7 w8 [OEwire_Writer (blkOf (vals1 0)) n0_3, BxC b1 39 (cENote n0 v1_n0 v2_n0 v3_n0), SlC NEMember v1_n0 n0.conf.members, SlC Ni64 v2_n0 n0.legit, SlC NEOp v3_n0 n0.entry.batch.ops] := hF2 K
      clear hF2 K
      refine s_runk tN Z 5 rfl rfl ?_; clear Z a; intro a Z
      refine s_end Z [1, 2, 3, 5, 6] rfl ?_; clear Z; intro Z
      refine p_then (wp_seq ?_)
      obtain ⟨t, hx7, hF⟩ := bnd_in hF
      obtain ⟨n0_5, hx8, hF⟩ := bnd_in hF
      refine f_regionL Z (by kernel_rfl) (by kernel_rfl) (by decide) (by decide) [2, 6] [(0, 0, 0), (0, 0, 0), (3, 0, 0), (0, 0, 1), (8, 0, 1), (24, 0, 1), (63, 1, 1)] (by kernel_rfl) (fun jj vv => match jj with | 0 => vv = .pointer (some ⟨(blkOf (vals1 0)), 0, none⟩) | 1 => vv = .string p.1 | 2 => vv = .pointer (some ⟨(blkOf (vals1 0)), 0, none⟩) | 3 => vv = .pointer (some ⟨b1, 6, none⟩) | 4 => vv = v2_n0 | 5 => vv = .int .i64 (n0.legit.length : Int) | 6 => vv = .pointer (some ⟨(blkOf (vals1 0)), 0, none⟩) | _ => True) (fun ss vals2 xw => match ss with | 0 => Gx I D w I7 w8 xw [OEwire_Writer (blkOf (vals1 0)) n0_3, BxC b1 39 (cENote n0 v1_n0 v2_n0 v3_n0), SlC NEMember v1_n0 n0.conf.members, SlC Ni64 v2_n0 n0.legit, SlC NEOp v3_n0 n0.entry.batch.ops] | 1 => Gx I D w I7 w8 xw [OEwire_Writer (blkOf (vals1 0)) t, BxC b1 39 (cENote n0 v1_n0 v2_n0 v3_n0), SlC NEMember v1_n0 n0.conf.members, SlC Ni64 v2_n0 n0.legit, SlC NEOp v3_n0 n0.entry.batch.ops] | _ => Gx I D w I7 w8 xw [OEwire_Writer (blkOf (vals1 0)) n0_5, BxC b1 39 (cENote n0 v1_n0 v2_n0 v3_n0), SlC NEMember v1_n0 n0.conf.members, SlC Ni64 v2_n0 n0.legit, SlC NEOp v3_n0 n0.entry.batch.ops]) (fun _ => Gx.start H) ?_ ?_
      ·intro fr hfr hfe
       refine .cons (fun ss hlo hhi vals2 xw hG hV => ?_) ?_
       ·obtain rfl : ss = 0 := Nat.le_antisymm hhi hlo
        rw [← hfe]
        have hS := (hfr vals2).sub (ts := [5]) (S' := [(5, .pointer (some ⟨(blkOf (vals1 0)), 0, none⟩))]) rfl
        exact L_val hS rfl (Ob_c tN rfl) ⟨rfl, hG⟩
       refine .cons (fun ss hlo hhi vals2 xw hG hV => ?_) ?_
       ·obtain rfl : ss = 0 := Nat.le_antisymm hhi hlo
        rw [← hfe]
        have hS := (hfr vals2).sub (ts := [6]) (S' := [(6, .string p.1)]) rfl
        exact L_val hS rfl (Ob_c tN rfl) ⟨rfl, hG⟩
       refine .cons (fun ss hlo hhi vals2 xw hG hV => ?_) ?_
       ·obtain rfl : ss = 0 := Nat.le_antisymm hhi hlo
        rw [← hfe]
        have hS := (hfr vals2).sub (ts := [44, 45]) (S' := [(44, vals2 0), (45, vals2 1)]) rfl
        replace hS := hS.conv (t := 44) rfl (show (vals2 0) = .pointer (some ⟨(blkOf (vals1 0)), 0, none⟩) from hV 0 (by decide))
        replace hS := hS.conv (t := 45) rfl (show (vals2 1) = .string p.1 from hV 1 (by decide))
        obtain ⟨I2, hI2, H⟩ := Gx.ex hG
        refine L_hcall H (js := [(0, false)]) rfl (caps := #[]) hS fn_33_YNote rfl rfl rfl rfl rfl (fun D1 hS => have hq := c_wire_Writer_Text hx7 hS; hq) fun _ yw D1 hr hF2 => ?_
        obtain ⟨rfl, I3, K⟩ := hr
        obtain ⟨hK, H2⟩ := hF2 K
        exact ⟨rfl, Gx.go hG hI2 hK K.imm H2⟩
       refine .cons (fun ss hlo hhi vals2 xw hG hV => ?_) ?_
       ·obtain rfl | rfl : ss = 0 ∨ ss = 1 := st1 hlo hhi
        all_goals
        ·rw [← hfe]
         have hS := (hfr vals2).sub (ts := [1]) (S' := [(1, .pointer (some ⟨b1, 0, none⟩))]) rfl
         exact L_val hS rfl (Ob_c tN rfl) ⟨rfl, hG⟩
       refine .cons (fun ss hlo hhi vals2 xw hG hV => ?_) ?_
       ·obtain rfl | rfl : ss = 0 ∨ ss = 1 := st1 hlo hhi
        all_goals
        ·rw [← hfe]
         have hS := (hfr vals2).sub (ts := [47]) (S' := [(47, vals2 3)]) rfl
         replace hS := hS.conv (t := 47) rfl (show (vals2 3) = .pointer (some ⟨b1, 6, none⟩) from hV 3 (by decide))
         obtain ⟨I2, hI2, H⟩ := Gx.ex hG
         exact L_val hS rfl (Ob_load tN rfl rfl rfl ((H.bx 1 rfl).cell 6 rfl)) ⟨rfl, hG⟩
       refine .cons (fun ss hlo hhi vals2 xw hG hV => ?_) ?_
       ·obtain rfl | rfl : ss = 0 ∨ ss = 1 := st1 hlo hhi
        all_goals
        ·rw [← hfe]
         have hS := (hfr vals2).sub (ts := [48]) (S' := [(48, vals2 4)]) rfl
         replace hS := hS.conv (t := 48) rfl (show (vals2 4) = v2_n0 from hV 4 (by decide))
         obtain ⟨I2, hI2, H⟩ := Gx.ex hG
         exact L_val hS rfl (Ob_slen tN rfl rfl rfl (H.slshape 3 rfl)) ⟨rfl, hG⟩
       refine .cons (fun ss hlo hhi vals2 xw hG hV => ?_) ?_
       ·obtain rfl : ss = 1 := Nat.le_antisymm hhi hlo
        rw [← hfe]
        have hS := (hfr vals2).sub (ts := [46, 49]) (S' := [(46, vals2 2), (49, vals2 5)]) rfl
        replace hS := hS.conv (t := 46) rfl (show (vals2 2) = .pointer (some ⟨(blkOf (vals1 0)), 0, none⟩) from hV 2 (by decide))
        replace hS := hS.conv (t := 49) rfl (show (vals2 5) = .int .i64 (n0.legit.length : Int) from hV 5 (by decide))
        obtain ⟨I2, hI2, H⟩ := Gx.ex hG
        refine L_hcall H (js := [(0, false)]) rfl (caps := #[]) hS fn_31_YNote rfl rfl rfl rfl rfl (fun D1 hS => have hq := c_wire_Writer_Num hx8 hS; hq) fun _ yw D1 hr hF2 => ?_
        obtain ⟨rfl, I3, K⟩ := hr
        obtain ⟨hK, H2⟩ := hF2 K
        exact ⟨rfl, Gx.go hG hI2 hK K.imm H2⟩
       exact .nil
      ·intro vals2 a w9 Z hG hV
       replace Z := Z.sub (ts := [1, 2, 3, 5]) (S' := [(1, .pointer (some ⟨b1, 0, none⟩)), (2, .string ⟨#[]⟩), (3, .int .i64 0), (5, .pointer (some ⟨(blkOf (vals1 0)), 0, none⟩))]) rfl
       obtain ⟨I8, _, H⟩ := Gx.ex hG
       clear hG hV
       replace Z := Z.sub (ts := [1, 2, 3, 5]) rfl
       replace H : Hf I D w I8 w9 [OEwire_Writer (blkOf (vals1 0)) n0_5, BxC b1 39 (cENote n0 v1_n0 v2_n0 v3_n0), SlC NEMember v1_n0 n0.conf.members, SlC Ni64 v2_n0 n0.legit, SlC NEOp v3_n0 n0.entry.batch.ops] := H
       refine p_then (wp_seq (f_region Z ?_)); clear Z; intro Z
       refine s_runk tN Z 1 rfl rfl ?_; clear Z a; intro a Z
       refine s_ob Z (v := v2_n0) rfl rfl (by decide) rfl (Ob_load tN rfl rfl rfl ((H.bx 1 rfl).cell 6 rfl)) ?_; clear Z a; intro a Z
       refine s_ob Z (v := .int .i64 (n0.legit.length : Int)) rfl rfl (by decide) rfl (Ob_slen tN rfl rfl rfl (H.slshape 3 rfl)) ?_; clear Z a; intro a Z
       refine s_runk tN Z 1 rfl rfl ?_; clear Z a; intro a Z
       refine s_end Z [1, 2, 3, 5, 52, 53, 54] rfl ?_; clear Z; intro Z
       refine p_then (wp_block ?_)
       refine f_iter hF (fun sg a' w' => match sg with | (x, w0_3) => Sl 123 [(1, .pointer (some ⟨b1, 0, none⟩)), (2, .string ⟨#[]⟩), (3, .int .i64 0), (5, .pointer (some ⟨(blkOf (vals1 0)), 0, none⟩)), (52, v2_n0), (53, .int .i64 (n0.legit.length : Int)), (54, .int .i64 x)] a' ∧ ∃ I2, Hf I D w I2 w' [BxC b1 39 (cENote n0 v1_n0 v2_n0 v3_n0), OEwire_Writer (blkOf (vals1 0)) w0_3, SlC NEMember v1_n0 n0.conf.members, SlC Ni64 v2_n0 n0.legit, SlC NEOp v3_n0 n0.entry.batch.ops]) ⟨Z.sub (ts := [1, 2, 3, 5, 52, 53, 54]) rfl, ⟨I8, (H.sub [(1, false), (0, false), (0, true), (1, true), (2, true)] rfl).eq rfl⟩⟩ ?_
       clear Z H hF a
       rintro rc ⟨x, w0_3⟩ a w10 ⟨Z, I9, H⟩ hF
       unfold F_note_Put_l3 at hF
       try dsimp only at hF
       refine wp_seq (f_region Z ?_); clear Z; intro Z
       refine s_runk tN Z 1 rfl rfl ?_; clear Z a; intro a Z
       refine s_end Z [1, 2, 3, 5, 52, 53, 54, 55] rfl ?_; clear Z; intro Z
       refine p_then (wp_seq ?_)
       refine f_cond Z rfl (fun hc3 => ?_) (fun hc3 => ?_)
       ·replace hF := ite_t hc3 hF
        refine wp_skip ?_
        refine p_then (wp_seq ?_)
        refine wp_block ?_
        refine wp_seq ?_
        obtain ⟨hg1, hF⟩ := chk_in hF
        refine f_region Z ?_; clear Z; intro Z
        refine s_ob Z (v := .pointer (some ⟨blkOf v2_n0, oofOf v2_n0 + (x).toNat * 1, none⟩)) rfl rfl (by decide) rfl (Ob_sidx tN rfl rfl rfl rfl (slPl (H.sl 3 rfl) hg1) hg1) ?_; clear Z a; intro a Z
        refine s_ob Z (v := .int .i64 (n0.legit.getD (x).toNat default)) rfl rfl (by decide) rfl (Ob_load tN rfl rfl rfl ((slFl (H.sl 3 rfl) hg1) 0 _ rfl)) ?_; clear Z a; intro a Z
        refine s_runk tN Z 1 rfl rfl ?_; clear Z a; intro a Z
        refine s_end Z [1, 2, 3, 5, 52, 53, 54, 55, 56, 57, 9] rfl ?_; clear Z; intro Z
        refine p_then ?_
        obtain ⟨n0_6, hx9, hF⟩ := bnd_in hF
        refine f_region Z ?_; clear Z; intro Z
        refine s_runk tN Z 2 rfl rfl ?_; clear Z a; intro a Z
        refine h_call Z H (js := [(1, false)]) rfl (caps := #[]) fn_31_YNote rfl rfl rfl rfl rfl (by decide) rfl rfl (fun D1 hS => have hq := c_wire_Writer_Num hx9 hS; hq) ?_; clear Z a; intro vv a w11 D2 hr hF2 Z
        obtain ⟨rfl, I10, K⟩ := hr
        have H : Hf I D w I10 w11 [OEwire_Writer (blkOf (vals1 0)) n0_6, BxC b1 39 (cENote n0 v1_n0 v2_n0 v3_n0), SlC NEMember v1_n0 n0.conf.members, SlC Ni64 v2_n0 n0.legit, SlC NEOp v3_n0 n0.entry.batch.ops] := hF2 K
        clear hF2 K
        refine s_end Z [1, 2, 3, 5, 52, 53, 54, 55, 56, 57, 9, 58, 59] rfl ?_; clear Z; intro Z
        refine p_blk ?_
        refine p_then ?_
        obtain ⟨hg2, hF⟩ := chk_in hF
        refine f_region Z ?_; clear Z; intro Z
        refine s_ob Z (v := .int .i64 (x + 1)) rfl rfl (by decide) rfl (Ob_add rfl rfl rfl (wrI hg2)) ?_; clear Z a; intro a Z
        refine s_runk tN Z 1 rfl rfl ?_; clear Z a; intro a Z
        refine s_end Z [1, 2, 3, 5, 52, 53, 54, 55, 56, 57, 9, 58, 59, 61] rfl ?_; clear Z; intro Z
        refine p_then ?_
        exact ⟨(x + 1, n0_6), ⟨Z.sub (ts := [1, 2, 3, 5, 52, 53, 54]) rfl, ⟨I10, (H.sub [(1, false), (0, false), (0, true), (1, true), (2, true)] rfl).eq rfl⟩⟩, hF⟩
       ·replace hF := ite_f hc3 hF
        refine wp_exit ?_
        refine p_then_x ?_
        refine p_then_x ?_
        refine f_exit_here ?_
        refine p_then ?_
        refine wp_exit ?_
        refine f_exit_out (by decide) ?_
        refine p_then_x ?_
        refine f_exit_out (by decide) ?_
        refine p_then_x ?_
        refine f_exit_out (by decide) ?_
        refine p_then_x ?_
        refine f_exit_out (by decide) ?_
        refine p_then_x ?_
        refine f_exit_out (by decide) ?_
        refine p_then_x ?_
        refine f_exit_out (by decide) ?_
        refine p_then_x ?_
        refine f_exit_here ?_
        refine p_then ?_
        exact ⟨w0_3, Z.sub (ts := [2, 3, 5]) rfl, ⟨I9, (H.sub [(1, false)] rfl).eq rfl⟩, hF⟩
     ·replace hF := ite_f hc2 hF
      refine wp_skip ?_
      refine p_then (wp_seq ?_)
      refine wp_seq (f_region Z ?_); clear Z; intro Z
      refine s_runk tN Z 2 rfl rfl ?_; clear Z a; intro a Z
      refine s_end Z [1, 2, 3, 5, 22, 25] rfl ?_; clear Z; intro Z
      refine p_then ?_
      refine f_cond Z rfl (fun hc4 => ?_) (fun hc4 => ?_)
      ·replace hF := ite_t hc4 hF
       refine wp_exit ?_
       refine p_then_x ?_
       refine p_then_x ?_
       refine f_exit_out (by decide) ?_
       refine p_then_x ?_
       refine f_exit_here ?_
       refine p_then (wp_seq ?_)
       refine wp_seq ?_
       obtain ⟨p_2, hx10, hF⟩ := bnd_in hF
       refine f_region Z ?_; clear Z; intro Z
       refine s_runk tN Z 1 rfl rfl ?_; clear Z a; intro a Z
       refine s_ob Z (v := .agg #[.int .i64 n0.entry.batch.client, .int .i64 n0.entry.batch.req, v3_n0, .int .u64 n0.entry.ts]) rfl rfl (by decide) rfl (Ob_loads tN rfl rfl rfl ((H.bx 1 rfl).part 7 rfl)) ?_; clear Z a; intro a Z
       refine h_call Z H (js := [(4, true)]) rfl (caps := #[]) fn_34_YNote rfl rfl rfl rfl rfl (by decide) rfl rfl (fun D1 hS => have hq := c_item_Put hx10 hS; hq) ?_; clear Z a; intro vv a w12 D2 hr hF2 Z
       obtain ⟨rfl, I11, K⟩ := hr
       have H : Hf I D w I11 w12 [OEwire_Writer (blkOf (vals1 0)) n0_3, BxC b1 39 (cENote n0 v1_n0 v2_n0 v3_n0), SlC NEMember v1_n0 n0.conf.members, SlC Ni64 v2_n0 n0.legit, SlC NEOp v3_n0 n0.entry.batch.ops] := hF2 K
       clear hF2 K
       refine s_runk tN Z 5 rfl rfl ?_; clear Z a; intro a Z
       refine s_end Z [1, 2, 3, 5, 10] rfl ?_; clear Z; intro Z
       refine p_then ?_
       obtain ⟨n0_7, hx11, hF⟩ := bnd_in hF
       obtain ⟨t_2, hx12, hF⟩ := bnd_in hF
       refine f_region Z ?_; clear Z; intro Z
       refine s_runk tN Z 2 rfl rfl ?_; clear Z a; intro a Z
       refine s_ob Z (v := .int .i64 n0.n) rfl rfl (by decide) rfl (Ob_load tN rfl rfl rfl ((H.bx 1 rfl).cell 1 rfl)) ?_; clear Z a; intro a Z
       refine h_call Z H (js := [(0, false)]) rfl (caps := #[]) fn_31_YNote rfl rfl rfl rfl rfl (by decide) rfl rfl (fun D1 hS => have hq := c_wire_Writer_Num hx11 hS; hq) ?_; clear Z a; intro vv a w13 D2 hr hF2 Z
       obtain ⟨rfl, I12, K⟩ := hr
       have H : Hf I D w I12 w13 [OEwire_Writer (blkOf (vals1 0)) n0_7, BxC b1 39 (cENote n0 v1_n0 v2_n0 v3_n0), SlC NEMember v1_n0 n0.conf.members, SlC Ni64 v2_n0 n0.legit, SlC NEOp v3_n0 n0.entry.batch.ops] := hF2 K
       clear hF2 K
       refine s_runk tN Z 1 rfl rfl ?_; clear Z a; intro a Z
       refine h_call Z H (js := [(0, false)]) rfl (caps := #[]) fn_33_YNote rfl rfl rfl rfl rfl (by decide) rfl rfl (fun D1 hS => have hq := c_wire_Writer_Text hx12 hS; hq) ?_; clear Z a; intro vv a w14 D2 hr hF2 Z
       obtain ⟨rfl, I13, K⟩ := hr
       have H : Hf I D w I13 w14 [OEwire_Writer (blkOf (vals1 0)) t_2, BxC b1 39 (cENote n0 v1_n0 v2_n0 v3_n0), SlC NEMember v1_n0 n0.conf.members, SlC Ni64 v2_n0 n0.legit, SlC NEOp v3_n0 n0.entry.batch.ops] := hF2 K
       clear hF2 K
       refine s_end Z [1, 2, 3, 5] rfl ?_; clear Z; intro Z
       refine p_then ?_
       refine wp_exit ?_
       refine f_exit_out (by decide) ?_
       refine p_then_x ?_
       refine f_exit_out (by decide) ?_
       refine p_then_x ?_
       refine f_exit_out (by decide) ?_
       refine p_then_x ?_
       refine f_exit_out (by decide) ?_
       refine p_then_x ?_
       refine f_exit_out (by decide) ?_
       refine p_then_x ?_
       refine f_exit_here ?_
       refine p_then ?_
       exact ⟨t_2, Z.sub (ts := [2, 3, 5]) rfl, ⟨I13, (H.sub [(0, false)] rfl).eq rfl⟩, hF⟩
      ·replace hF := ite_f hc4 hF
       refine wp_skip ?_
       refine p_then (wp_seq ?_)
       refine wp_seq (f_region Z ?_); clear Z; intro Z
       refine s_runk tN Z 2 rfl rfl ?_; clear Z a; intro a Z
       refine s_end Z [1, 2, 3, 5, 22, 27] rfl ?_; clear Z; intro Z
       refine p_then ?_
       refine f_cond Z rfl (fun hc5 => ?_) (fun hc5 => ?_)
       ·replace hF := ite_t hc5 hF
        refine wp_exit ?_
        refine p_then_x ?_
        refine p_then_x ?_
        refine f_exit_out (by decide) ?_
        refine p_then_x ?_
        refine f_exit_out (by decide) ?_
        refine p_then_x ?_
        refine f_exit_here ?_
        refine p_then (wp_seq ?_)
        obtain ⟨n0_8, hx13, hF⟩ := bnd_in hF
        obtain ⟨b, hx14, hF⟩ := bnd_in hF
        refine f_regionL Z (by kernel_rfl) (by kernel_rfl) (by decide) (by decide) [3, 6] [(0, 0, 0), (0, 0, 0), (2, 0, 0), (7, 0, 0), (0, 0, 1), (16, 0, 1), (63, 1, 1)] (by kernel_rfl) (fun jj vv => match jj with | 0 => vv = .pointer (some ⟨(blkOf (vals1 0)), 0, none⟩) | 1 => vv = .pointer (some ⟨b1, 1, none⟩) | 2 => vv = .int .i64 n0.n | 3 => vv = .pointer (some ⟨(blkOf (vals1 0)), 0, none⟩) | 4 => vv = .pointer (some ⟨b1, 2, none⟩) | 5 => vv = .int .u64 n0.at_ | 6 => vv = .pointer (some ⟨(blkOf (vals1 0)), 0, none⟩) | _ => True) (fun ss vals3 xw => match ss with | 0 => Gx I D w I2 w3 xw [OEwire_Writer (blkOf (vals1 0)) n0_3, BxC b1 39 (cENote n0 v1_n0 v2_n0 v3_n0), SlC NEMember v1_n0 n0.conf.members, SlC Ni64 v2_n0 n0.legit, SlC NEOp v3_n0 n0.entry.batch.ops] | 1 => Gx I D w I2 w3 xw [OEwire_Writer (blkOf (vals1 0)) n0_8, BxC b1 39 (cENote n0 v1_n0 v2_n0 v3_n0), SlC NEMember v1_n0 n0.conf.members, SlC Ni64 v2_n0 n0.legit, SlC NEOp v3_n0 n0.entry.batch.ops] | _ => Gx I D w I2 w3 xw [OEwire_Writer (blkOf (vals1 0)) b, BxC b1 39 (cENote n0 v1_n0 v2_n0 v3_n0), SlC NEMember v1_n0 n0.conf.members, SlC Ni64 v2_n0 n0.legit, SlC NEOp v3_n0 n0.entry.batch.ops]) (fun _ => Gx.start H) ?_ ?_
        ·intro fr hfr hfe
         refine .cons (fun ss hlo hhi vals3 xw hG hV => ?_) ?_
         ·obtain rfl : ss = 0 := Nat.le_antisymm hhi hlo
          rw [← hfe]
          have hS := (hfr vals3).sub (ts := [5]) (S' := [(5, .pointer (some ⟨(blkOf (vals1 0)), 0, none⟩))]) rfl
          exact L_val hS rfl (Ob_c tN rfl) ⟨rfl, hG⟩
         refine .cons (fun ss hlo hhi vals3 xw hG hV => ?_) ?_
         ·obtain rfl : ss = 0 := Nat.le_antisymm hhi hlo
          rw [← hfe]
          have hS := (hfr vals3).sub (ts := [1]) (S' := [(1, .pointer (some ⟨b1, 0, none⟩))]) rfl
          exact L_val hS rfl (Ob_c tN rfl) ⟨rfl, hG⟩
         refine .cons (fun ss hlo hhi vals3 xw hG hV => ?_) ?_
         ·obtain rfl : ss = 0 := Nat.le_antisymm hhi hlo
          rw [← hfe]
          have hS := (hfr vals3).sub (ts := [75]) (S' := [(75, vals3 1)]) rfl
          replace hS := hS.conv (t := 75) rfl (show (vals3 1) = .pointer (some ⟨b1, 1, none⟩) from hV 1 (by decide))
          obtain ⟨I2, hI2, H⟩ := Gx.ex hG
          exact L_val hS rfl (Ob_load tN rfl rfl rfl ((H.bx 1 rfl).cell 1 rfl)) ⟨rfl, hG⟩
         refine .cons (fun ss hlo hhi vals3 xw hG hV => ?_) ?_
         ·obtain rfl : ss = 0 := Nat.le_antisymm hhi hlo
          rw [← hfe]
          have hS := (hfr vals3).sub (ts := [74, 76]) (S' := [(74, vals3 0), (76, vals3 2)]) rfl
          replace hS := hS.conv (t := 74) rfl (show (vals3 0) = .pointer (some ⟨(blkOf (vals1 0)), 0, none⟩) from hV 0 (by decide))
          replace hS := hS.conv (t := 76) rfl (show (vals3 2) = .int .i64 n0.n from hV 2 (by decide))
          obtain ⟨I2, hI2, H⟩ := Gx.ex hG
          refine L_hcall H (js := [(0, false)]) rfl (caps := #[]) hS fn_31_YNote rfl rfl rfl rfl rfl (fun D1 hS => have hq := c_wire_Writer_Num hx13 hS; hq) fun _ yw D1 hr hF2 => ?_
          obtain ⟨rfl, I3, K⟩ := hr
          obtain ⟨hK, H2⟩ := hF2 K
          exact ⟨rfl, Gx.go hG hI2 hK K.imm H2⟩
         refine .cons (fun ss hlo hhi vals3 xw hG hV => ?_) ?_
         ·obtain rfl | rfl : ss = 0 ∨ ss = 1 := st1 hlo hhi
          all_goals
          ·rw [← hfe]
           have hS := (hfr vals3).sub (ts := [1]) (S' := [(1, .pointer (some ⟨b1, 0, none⟩))]) rfl
           exact L_val hS rfl (Ob_c tN rfl) ⟨rfl, hG⟩
         refine .cons (fun ss hlo hhi vals3 xw hG hV => ?_) ?_
         ·obtain rfl | rfl : ss = 0 ∨ ss = 1 := st1 hlo hhi
          all_goals
          ·rw [← hfe]
           have hS := (hfr vals3).sub (ts := [78]) (S' := [(78, vals3 4)]) rfl
           replace hS := hS.conv (t := 78) rfl (show (vals3 4) = .pointer (some ⟨b1, 2, none⟩) from hV 4 (by decide))
           obtain ⟨I2, hI2, H⟩ := Gx.ex hG
           exact L_val hS rfl (Ob_load tN rfl rfl rfl ((H.bx 1 rfl).cell 2 rfl)) ⟨rfl, hG⟩
         refine .cons (fun ss hlo hhi vals3 xw hG hV => ?_) ?_
         ·obtain rfl : ss = 1 := Nat.le_antisymm hhi hlo
          rw [← hfe]
          have hS := (hfr vals3).sub (ts := [77, 79]) (S' := [(77, vals3 3), (79, vals3 5)]) rfl
          replace hS := hS.conv (t := 77) rfl (show (vals3 3) = .pointer (some ⟨(blkOf (vals1 0)), 0, none⟩) from hV 3 (by decide))
          replace hS := hS.conv (t := 79) rfl (show (vals3 5) = .int .u64 n0.at_ from hV 5 (by decide))
          obtain ⟨I2, hI2, H⟩ := Gx.ex hG
          refine L_hcall H (js := [(0, false)]) rfl (caps := #[]) hS fn_35_YNote rfl rfl rfl rfl rfl (fun D1 hS => have hq := c_wire_Writer_Big hx14 hS; hq) fun _ yw D1 hr hF2 => ?_
          obtain ⟨rfl, I3, K⟩ := hr
          obtain ⟨hK, H2⟩ := hF2 K
          exact ⟨rfl, Gx.go hG hI2 hK K.imm H2⟩
         exact .nil
        ·intro vals3 a w15 Z hG hV
         replace Z := Z.sub (ts := [1, 2, 3, 5]) (S' := [(1, .pointer (some ⟨b1, 0, none⟩)), (2, .string ⟨#[]⟩), (3, .int .i64 0), (5, .pointer (some ⟨(blkOf (vals1 0)), 0, none⟩))]) rfl
         obtain ⟨I14, _, H⟩ := Gx.ex hG
         clear hG hV
         replace Z := Z.sub (ts := [1, 2, 3, 5]) rfl
         replace H : Hf I D w I14 w15 [OEwire_Writer (blkOf (vals1 0)) b, BxC b1 39 (cENote n0 v1_n0 v2_n0 v3_n0), SlC NEMember v1_n0 n0.conf.members, SlC Ni64 v2_n0 n0.legit, SlC NEOp v3_n0 n0.entry.batch.ops] := H
         refine p_then ?_
         refine wp_exit ?_
         refine f_exit_out (by decide) ?_
         refine p_then_x ?_
         refine f_exit_out (by decide) ?_
         refine p_then_x ?_
         refine f_exit_out (by decide) ?_
         refine p_then_x ?_
         refine f_exit_out (by decide) ?_
         refine p_then_x ?_
         refine f_exit_here ?_
         refine p_then ?_
         exact ⟨b, Z.sub (ts := [2, 3, 5]) rfl, ⟨I14, (H.sub [(0, false)] rfl).eq rfl⟩, hF⟩
       ·replace hF := ite_f hc5 hF
        refine wp_skip ?_
        refine p_then (wp_seq ?_)
        refine wp_seq (f_region Z ?_); clear Z; intro Z
        refine s_runk tN Z 2 rfl rfl ?_; clear Z a; intro a Z
        refine s_end Z [1, 2, 3, 5, 22, 29] rfl ?_; clear Z; intro Z
        refine p_then ?_
        refine f_cond Z rfl (fun hc6 => ?_) (fun hc6 => ?_)
        ·replace hF := ite_t hc6 hF
         refine wp_exit ?_
         refine p_then_x ?_
         refine p_then_x ?_
         refine f_exit_out (by decide) ?_
         refine p_then_x ?_
         refine f_exit_out (by decide) ?_
         refine p_then_x ?_
         refine f_exit_out (by decide) ?_
         refine p_then_x ?_
         refine f_exit_here ?_
         refine p_then ?_
         obtain ⟨b_2, hx15, hF⟩ := bnd_in hF
         refine f_region Z ?_; clear Z; intro Z
         refine s_runk tN Z 2 rfl rfl ?_; clear Z a; intro a Z
         refine s_ob Z (v := .int .u64 n0.at_) rfl rfl (by decide) rfl (Ob_load tN rfl rfl rfl ((H.bx 1 rfl).cell 2 rfl)) ?_; clear Z a; intro a Z
         refine h_call Z H (js := [(0, false)]) rfl (caps := #[]) fn_35_YNote rfl rfl rfl rfl rfl (by decide) rfl rfl (fun D1 hS => have hq := c_wire_Writer_Big hx15 hS; hq) ?_; clear Z a; intro vv a w16 D2 hr hF2 Z
         obtain ⟨rfl, I15, K⟩ := hr
         have H : Hf I D w I15 w16 [OEwire_Writer (blkOf (vals1 0)) b_2, BxC b1 39 (cENote n0 v1_n0 v2_n0 v3_n0), SlC NEMember v1_n0 n0.conf.members, SlC Ni64 v2_n0 n0.legit, SlC NEOp v3_n0 n0.entry.batch.ops] := hF2 K
         clear hF2 K
         refine s_end Z [1, 2, 3, 5] rfl ?_; clear Z; intro Z
         refine p_blk ?_
         refine p_then ?_
         exact ⟨b_2, Z.sub (ts := [1, 2, 3, 5]) rfl, ⟨I15, (H.sub [(1, false), (0, false), (0, true), (1, true), (2, true)] rfl).eq rfl⟩, hF⟩
        ·replace hF := ite_f hc6 hF
         refine wp_skip ?_
         refine p_then (wp_seq ?_)
         refine f_cut (fun a' w' => ∃ (x_2 : Bool), Sl 123 [(1, .pointer (some ⟨b1, 0, none⟩)), (2, .string ⟨#[]⟩), (3, .int .i64 0), (5, .pointer (some ⟨(blkOf (vals1 0)), 0, none⟩)), (22, .int .i64 n0.k), (31, .bool x_2)] a' ∧ (∃ I2, Hf I D w I2 w' [BxC b1 39 (cENote n0 v1_n0 v2_n0 v3_n0), OEwire_Writer (blkOf (vals1 0)) n0_3, SlC NEMember v1_n0 n0.conf.members, SlC Ni64 v2_n0 n0.legit, SlC NEOp v3_n0 n0.entry.batch.ops]) ∧ F_note_Put_k4 n0 n0_3 x_2 = some rr) ?_ ?_
         ·rintro a w17 ⟨x_2, Z, ⟨I16, H⟩, hF⟩
          unfold F_note_Put_k4 at hF
          try dsimp only at hF
          refine f_cond Z rfl (fun hc7 => ?_) (fun hc7 => ?_)
          ·replace hF := ite_t hc7 hF
           refine wp_exit ?_
           refine p_then_x ?_
           refine p_then_x ?_
           refine f_exit_out (by decide) ?_
           refine p_then_x ?_
           refine f_exit_out (by decide) ?_
           refine p_then_x ?_
           refine f_exit_out (by decide) ?_
           refine p_then_x ?_
           refine f_exit_out (by decide) ?_
           refine p_then_x ?_
           refine f_exit_here ?_
           refine p_then ?_
           exact ⟨n0_3, Z.sub (ts := [1, 2, 3, 5]) rfl, ⟨I16, (H.sub [(0, false), (0, false), (0, true), (1, true), (2, true)] rfl).eq rfl⟩, hF⟩
          ·replace hF := ite_f hc7 hF
           refine wp_skip ?_
           refine p_then (wp_seq ?_)
           refine wp_seq (f_region Z ?_); clear Z; intro Z
           refine s_runk tN Z 2 rfl rfl ?_; clear Z a; intro a Z
           refine s_end Z [1, 2, 3, 5, 22, 34] rfl ?_; clear Z; intro Z
           refine p_then ?_
           refine f_cond Z rfl (fun hc8 => ?_) (fun hc8 => ?_)
           ·replace hF := ite_t hc8 hF
            refine wp_exit ?_
            refine p_then_x ?_
            refine p_then_x ?_
            refine f_exit_out (by decide) ?_
            refine p_then_x ?_
            refine f_exit_out (by decide) ?_
            refine p_then_x ?_
            refine f_exit_out (by decide) ?_
            refine p_then_x ?_
            refine f_exit_out (by decide) ?_
            refine p_then_x ?_
            refine f_exit_out (by decide) ?_
            refine p_then_x ?_
            refine f_exit_here ?_
            refine p_then (wp_seq ?_)
            obtain ⟨n0_9, hx16, hF⟩ := bnd_in hF
            obtain ⟨b_3, hx17, hF⟩ := bnd_in hF
            obtain ⟨n0_10, hx18, hF⟩ := bnd_in hF
            refine f_regionL Z (by kernel_rfl) (by kernel_rfl) (by decide) (by decide) [4, 8, 12] [(0, 0, 0), (0, 0, 0), (2, 0, 0), (6, 0, 0), (15, 0, 0), (0, 0, 1), (32, 0, 1), (96, 0, 1), (255, 1, 1), (0, 0, 2), (512, 0, 2), (1536, 0, 2), (4095, 2, 2)] (by kernel_rfl) (fun jj vv => cond (Nat.blt jj 6) (cond (Nat.blt jj 3) (cond (Nat.blt jj 1) (vv = .pointer (some ⟨(blkOf (vals1 0)), 0, none⟩)) (cond (Nat.blt jj 2) (vv = .pointer (some ⟨b1, 11, none⟩)) (vv = .pointer (some ⟨b1, 11, none⟩)))) (cond (Nat.blt jj 4) (vv = .int .i64 n0.pin.id) (cond (Nat.blt jj 5) (vv = .pointer (some ⟨(blkOf (vals1 0)), 0, none⟩)) (vv = .pointer (some ⟨b1, 11, none⟩))))) (cond (Nat.blt jj 9) (cond (Nat.blt jj 7) (vv = .pointer (some ⟨b1, 12, none⟩)) (cond (Nat.blt jj 8) (vv = .int .u64 n0.pin.at_) (vv = .pointer (some ⟨(blkOf (vals1 0)), 0, none⟩)))) (cond (Nat.blt jj 11) (cond (Nat.blt jj 10) (vv = .pointer (some ⟨b1, 11, none⟩)) (vv = .pointer (some ⟨b1, 13, none⟩))) (cond (Nat.blt jj 12) (vv = .int .i64 n0.pin.left) (vv = .pointer (some ⟨(blkOf (vals1 0)), 0, none⟩)))))) (fun ss vals4 xw => match ss with | 0 => Gx I D w I16 w17 xw [BxC b1 39 (cENote n0 v1_n0 v2_n0 v3_n0), OEwire_Writer (blkOf (vals1 0)) n0_3, SlC NEMember v1_n0 n0.conf.members, SlC Ni64 v2_n0 n0.legit, SlC NEOp v3_n0 n0.entry.batch.ops] | 1 => Gx I D w I16 w17 xw [OEwire_Writer (blkOf (vals1 0)) n0_9, BxC b1 39 (cENote n0 v1_n0 v2_n0 v3_n0), SlC NEMember v1_n0 n0.conf.members, SlC Ni64 v2_n0 n0.legit, SlC NEOp v3_n0 n0.entry.batch.ops] | 2 => Gx I D w I16 w17 xw [OEwire_Writer (blkOf (vals1 0)) b_3, BxC b1 39 (cENote n0 v1_n0 v2_n0 v3_n0), SlC NEMember v1_n0 n0.conf.members, SlC Ni64 v2_n0 n0.legit, SlC NEOp v3_n0 n0.entry.batch.ops] | _ => Gx I D w I16 w17 xw [OEwire_Writer (blkOf (vals1 0)) n0_10, BxC b1 39 (cENote n0 v1_n0 v2_n0 v3_n0), SlC NEMember v1_n0 n0.conf.members, SlC Ni64 v2_n0 n0.legit, SlC NEOp v3_n0 n0.entry.batch.ops]) (fun _ => Gx.start H) ?_ ?_
            ·intro fr hfr hfe
             refine .cons (fun ss hlo hhi vals4 xw hG hV => ?_) ?_
             ·obtain rfl : ss = 0 := Nat.le_antisymm hhi hlo
              rw [← hfe]
              have hS := (hfr vals4).sub (ts := [5]) (S' := [(5, .pointer (some ⟨(blkOf (vals1 0)), 0, none⟩))]) rfl
              exact L_val hS rfl (Ob_c tN rfl) ⟨rfl, hG⟩
             refine .cons (fun ss hlo hhi vals4 xw hG hV => ?_) ?_
             ·obtain rfl : ss = 0 := Nat.le_antisymm hhi hlo
              rw [← hfe]
              have hS := (hfr vals4).sub (ts := [1]) (S' := [(1, .pointer (some ⟨b1, 0, none⟩))]) rfl
              exact L_val hS rfl (Ob_c tN rfl) ⟨rfl, hG⟩
             refine .cons (fun ss hlo hhi vals4 xw hG hV => ?_) ?_
             ·obtain rfl : ss = 0 := Nat.le_antisymm hhi hlo
              rw [← hfe]
              have hS := (hfr vals4).sub (ts := [90]) (S' := [(90, vals4 1)]) rfl
              replace hS := hS.conv (t := 90) rfl (show (vals4 1) = .pointer (some ⟨b1, 11, none⟩) from hV 1 (by decide))
              exact L_val hS rfl (Ob_c tN rfl) ⟨rfl, hG⟩
             refine .cons (fun ss hlo hhi vals4 xw hG hV => ?_) ?_
             ·obtain rfl : ss = 0 := Nat.le_antisymm hhi hlo
              rw [← hfe]
              have hS := (hfr vals4).sub (ts := [91]) (S' := [(91, vals4 2)]) rfl
              replace hS := hS.conv (t := 91) rfl (show (vals4 2) = .pointer (some ⟨b1, 11, none⟩) from hV 2 (by decide))
              obtain ⟨I2, hI2, H⟩ := Gx.ex hG
              exact L_val hS rfl (Ob_load tN rfl rfl rfl ((H.bx 0 rfl).cell 11 rfl)) ⟨rfl, hG⟩
             refine .cons (fun ss hlo hhi vals4 xw hG hV => ?_) ?_
             ·obtain rfl : ss = 0 := Nat.le_antisymm hhi hlo
              rw [← hfe]
              have hS := (hfr vals4).sub (ts := [89, 92]) (S' := [(89, vals4 0), (92, vals4 3)]) rfl
              replace hS := hS.conv (t := 89) rfl (show (vals4 0) = .pointer (some ⟨(blkOf (vals1 0)), 0, none⟩) from hV 0 (by decide))
              replace hS := hS.conv (t := 92) rfl (show (vals4 3) = .int .i64 n0.pin.id from hV 3 (by decide))
              obtain ⟨I2, hI2, H⟩ := Gx.ex hG
              refine L_hcall H (js := [(1, false)]) rfl (caps := #[]) hS fn_31_YNote rfl rfl rfl rfl rfl (fun D1 hS => have hq := c_wire_Writer_Num hx16 hS; hq) fun _ yw D1 hr hF2 => ?_
              obtain ⟨rfl, I3, K⟩ := hr
              obtain ⟨hK, H2⟩ := hF2 K
              exact ⟨rfl, Gx.go hG hI2 hK K.imm H2⟩
             refine .cons (fun ss hlo hhi vals4 xw hG hV => ?_) ?_
             ·obtain rfl | rfl : ss = 0 ∨ ss = 1 := st1 hlo hhi
              all_goals
              ·rw [← hfe]
               have hS := (hfr vals4).sub (ts := [1]) (S' := [(1, .pointer (some ⟨b1, 0, none⟩))]) rfl
               exact L_val hS rfl (Ob_c tN rfl) ⟨rfl, hG⟩
             refine .cons (fun ss hlo hhi vals4 xw hG hV => ?_) ?_
             ·obtain rfl | rfl : ss = 0 ∨ ss = 1 := st1 hlo hhi
              all_goals
              ·rw [← hfe]
               have hS := (hfr vals4).sub (ts := [94]) (S' := [(94, vals4 5)]) rfl
               replace hS := hS.conv (t := 94) rfl (show (vals4 5) = .pointer (some ⟨b1, 11, none⟩) from hV 5 (by decide))
               exact L_val hS rfl (Ob_c tN rfl) ⟨rfl, hG⟩
             refine .cons (fun ss hlo hhi vals4 xw hG hV => ?_) ?_
             ·obtain rfl | rfl : ss = 0 ∨ ss = 1 := st1 hlo hhi
              ·rw [← hfe]
               have hS := (hfr vals4).sub (ts := [95]) (S' := [(95, vals4 6)]) rfl
               replace hS := hS.conv (t := 95) rfl (show (vals4 6) = .pointer (some ⟨b1, 12, none⟩) from hV 6 (by decide))
               obtain ⟨I2, hI2, H⟩ := Gx.ex hG
               exact L_val hS rfl (Ob_load tN rfl rfl rfl ((H.bx 0 rfl).cell 12 rfl)) ⟨rfl, hG⟩
              ·rw [← hfe]
               have hS := (hfr vals4).sub (ts := [95]) (S' := [(95, vals4 6)]) rfl
               replace hS := hS.conv (t := 95) rfl (show (vals4 6) = .pointer (some ⟨b1, 12, none⟩) from hV 6 (by decide))
               obtain ⟨I2, hI2, H⟩ := Gx.ex hG
               exact L_val hS rfl (Ob_load tN rfl rfl rfl ((H.bx 1 rfl).cell 12 rfl)) ⟨rfl, hG⟩
             refine .cons (fun ss hlo hhi vals4 xw hG hV => ?_) ?_
             ·obtain rfl : ss = 1 := Nat.le_antisymm hhi hlo
              rw [← hfe]
              have hS := (hfr vals4).sub (ts := [93, 96]) (S' := [(93, vals4 4), (96, vals4 7)]) rfl
              replace hS := hS.conv (t := 93) rfl (show (vals4 4) = .pointer (some ⟨(blkOf (vals1 0)), 0, none⟩) from hV 4 (by decide))
              replace hS := hS.conv (t := 96) rfl (show (vals4 7) = .int .u64 n0.pin.at_ from hV 7 (by decide))
              obtain ⟨I2, hI2, H⟩ := Gx.ex hG
              refine L_hcall H (js := [(0, false)]) rfl (caps := #[]) hS fn_35_YNote rfl rfl rfl rfl rfl (fun D1 hS => have hq := c_wire_Writer_Big hx17 hS; hq) fun _ yw D1 hr hF2 => ?_
              obtain ⟨rfl, I3, K⟩ := hr
              obtain ⟨hK, H2⟩ := hF2 K
              exact ⟨rfl, Gx.go hG hI2 hK K.imm H2⟩
             refine .cons (fun ss hlo hhi vals4 xw hG hV => ?_) ?_
             ·obtain rfl | rfl | rfl : ss = 0 ∨ ss = 1 ∨ ss = 2 := st2 hlo hhi
              all_goals
              ·rw [← hfe]
               have hS := (hfr vals4).sub (ts := [1]) (S' := [(1, .pointer (some ⟨b1, 0, none⟩))]) rfl
               exact L_val hS rfl (Ob_c tN rfl) ⟨rfl, hG⟩
             refine .cons (fun ss hlo hhi vals4 xw hG hV => ?_) ?_
             ·obtain rfl | rfl | rfl : ss = 0 ∨ ss = 1 ∨ ss = 2 := st2 hlo hhi
              all_goals
              ·rw [← hfe]
               have hS := (hfr vals4).sub (ts := [98]) (S' := [(98, vals4 9)]) rfl
               replace hS := hS.conv (t := 98) rfl (show (vals4 9) = .pointer (some ⟨b1, 11, none⟩) from hV 9 (by decide))
               exact L_val hS rfl (Ob_c tN rfl) ⟨rfl, hG⟩
             refine .cons (fun ss hlo hhi vals4 xw hG hV => ?_) ?_
             ·obtain rfl | rfl | rfl : ss = 0 ∨ ss = 1 ∨ ss = 2 := st2 hlo hhi
              ·rw [← hfe]
               have hS := (hfr vals4).sub (ts := [99]) (S' := [(99, vals4 10)]) rfl
               replace hS := hS.conv (t := 99) rfl (show (vals4 10) = .pointer (some ⟨b1, 13, none⟩) from hV 10 (by decide))
               obtain ⟨I2, hI2, H⟩ := Gx.ex hG
               exact L_val hS rfl (Ob_load tN rfl rfl rfl ((H.bx 0 rfl).cell 13 rfl)) ⟨rfl, hG⟩
              ·rw [← hfe]
               have hS := (hfr vals4).sub (ts := [99]) (S' := [(99, vals4 10)]) rfl
               replace hS := hS.conv (t := 99) rfl (show (vals4 10) = .pointer (some ⟨b1, 13, none⟩) from hV 10 (by decide))
               obtain ⟨I2, hI2, H⟩ := Gx.ex hG
               exact L_val hS rfl (Ob_load tN rfl rfl rfl ((H.bx 1 rfl).cell 13 rfl)) ⟨rfl, hG⟩
              ·rw [← hfe]
               have hS := (hfr vals4).sub (ts := [99]) (S' := [(99, vals4 10)]) rfl
               replace hS := hS.conv (t := 99) rfl (show (vals4 10) = .pointer (some ⟨b1, 13, none⟩) from hV 10 (by decide))
               obtain ⟨I2, hI2, H⟩ := Gx.ex hG
               exact L_val hS rfl (Ob_load tN rfl rfl rfl ((H.bx 1 rfl).cell 13 rfl)) ⟨rfl, hG⟩
             refine .cons (fun ss hlo hhi vals4 xw hG hV => ?_) ?_
             ·obtain rfl : ss = 2 := Nat.le_antisymm hhi hlo
              rw [← hfe]
              have hS := (hfr vals4).sub (ts := [97, 100]) (S' := [(97, vals4 8), (100, vals4 11)]) rfl
              replace hS := hS.conv (t := 97) rfl (show (vals4 8) = .pointer (some ⟨(blkOf (vals1 0)), 0, none⟩) from hV 8 (by decide))
              replace hS := hS.conv (t := 100) rfl (show (vals4 11) = .int .i64 n0.pin.left from hV 11 (by decide))
              obtain ⟨I2, hI2, H⟩ := Gx.ex hG
              refine L_hcall H (js := [(0, false)]) rfl (caps := #[]) hS fn_31_YNote rfl rfl rfl rfl rfl (fun D1 hS => have hq := c_wire_Writer_Num hx18 hS; hq) fun _ yw D1 hr hF2 => ?_
              obtain ⟨rfl, I3, K⟩ := hr
              obtain ⟨hK, H2⟩ := hF2 K
              exact ⟨rfl, Gx.go hG hI2 hK K.imm H2⟩
             exact .nil
            ·intro vals4 a w18 Z hG hV
             replace Z := Z.sub (ts := [1, 2, 3, 5]) (S' := [(1, .pointer (some ⟨b1, 0, none⟩)), (2, .string ⟨#[]⟩), (3, .int .i64 0), (5, .pointer (some ⟨(blkOf (vals1 0)), 0, none⟩))]) rfl
             obtain ⟨I17, _, H⟩ := Gx.ex hG
             clear hG hV
             replace Z := Z.sub (ts := [1, 2, 3, 5]) rfl
             replace H : Hf I D w I17 w18 [OEwire_Writer (blkOf (vals1 0)) n0_10, BxC b1 39 (cENote n0 v1_n0 v2_n0 v3_n0), SlC NEMember v1_n0 n0.conf.members, SlC Ni64 v2_n0 n0.legit, SlC NEOp v3_n0 n0.entry.batch.ops] := H
             refine p_then ?_
             refine wp_exit ?_
             refine f_exit_out (by decide) ?_
             refine p_then_x ?_
             refine f_exit_here ?_
             refine p_then ?_
             exact ⟨n0_10, Z.sub (ts := [2, 3, 5]) rfl, ⟨I17, (H.sub [(0, false)] rfl).eq rfl⟩, hF⟩
           ·replace hF := ite_f hc8 hF
            refine wp_skip ?_
            refine p_then (wp_seq (f_region Z ?_)); clear Z; intro Z
            refine s_runk tN Z 2 rfl rfl ?_; clear Z a; intro a Z
            refine s_end Z [1, 2, 3, 5, 36] rfl ?_; clear Z; intro Z
            refine p_then ?_
            refine f_cond Z rfl (fun hc9 => ?_) (fun hc9 => ?_)
            ·replace hF := ite_t hc9 hF
             refine wp_exit ?_
             refine p_then_x ?_
             refine f_exit_out (by decide) ?_
             refine p_then_x ?_
             refine f_exit_out (by decide) ?_
             refine p_then_x ?_
             refine f_exit_out (by decide) ?_
             refine p_then_x ?_
             refine f_exit_out (by decide) ?_
             refine p_then_x ?_
             refine f_exit_out (by decide) ?_
             refine p_then_x ?_
             refine f_exit_out (by decide) ?_
             refine p_then_x ?_
             refine f_exit_here ?_
             refine p_then (wp_seq ?_)
             obtain ⟨n0_11, hx19, hF⟩ := bnd_in hF
             obtain ⟨n0_12, hx20, hF⟩ := bnd_in hF
             obtain ⟨n0_13, hx21, hF⟩ := bnd_in hF
             obtain ⟨n0_14, hx22, hF⟩ := bnd_in hF
             refine f_regionL Z (by kernel_rfl) (by kernel_rfl) (by decide) (by decide) [4, 8, 12, 16] [(0, 0, 0), (0, 0, 0), (2, 0, 0), (6, 0, 0), (15, 0, 0), (0, 0, 1), (32, 0, 1), (96, 0, 1), (255, 1, 1), (0, 0, 2), (512, 0, 2), (1536, 0, 2), (4095, 2, 2), (0, 0, 3), (8192, 0, 3), (24576, 0, 3), (65535, 3, 3)] (by kernel_rfl) (fun jj vv => cond (Nat.blt jj 8) (cond (Nat.blt jj 4) (cond (Nat.blt jj 2) (cond (Nat.blt jj 1) (vv = .pointer (some ⟨(blkOf (vals1 0)), 0, none⟩)) (vv = .pointer (some ⟨b1, 14, none⟩))) (cond (Nat.blt jj 3) (vv = .pointer (some ⟨b1, 14, none⟩)) (vv = .int .i64 n0.said.client))) (cond (Nat.blt jj 6) (cond (Nat.blt jj 5) (vv = .pointer (some ⟨(blkOf (vals1 0)), 0, none⟩)) (vv = .pointer (some ⟨b1, 14, none⟩))) (cond (Nat.blt jj 7) (vv = .pointer (some ⟨b1, 15, none⟩)) (vv = .int .i64 n0.said.req)))) (cond (Nat.blt jj 12) (cond (Nat.blt jj 10) (cond (Nat.blt jj 9) (vv = .pointer (some ⟨(blkOf (vals1 0)), 0, none⟩)) (vv = .pointer (some ⟨b1, 14, none⟩))) (cond (Nat.blt jj 11) (vv = .pointer (some ⟨b1, 16, none⟩)) (vv = .int .i64 n0.said.e))) (cond (Nat.blt jj 14) (cond (Nat.blt jj 13) (vv = .pointer (some ⟨(blkOf (vals1 0)), 0, none⟩)) (vv = .pointer (some ⟨b1, 14, none⟩))) (cond (Nat.blt jj 15) (vv = .pointer (some ⟨b1, 17, none⟩)) (cond (Nat.blt jj 16) (vv = .int .i64 n0.said.pin) (vv = .pointer (some ⟨(blkOf (vals1 0)), 0, none⟩))))))) (fun ss vals5 xw => match ss with | 0 => Gx I D w I16 w17 xw [BxC b1 39 (cENote n0 v1_n0 v2_n0 v3_n0), OEwire_Writer (blkOf (vals1 0)) n0_3, SlC NEMember v1_n0 n0.conf.members, SlC Ni64 v2_n0 n0.legit, SlC NEOp v3_n0 n0.entry.batch.ops] | 1 => Gx I D w I16 w17 xw [OEwire_Writer (blkOf (vals1 0)) n0_11, BxC b1 39 (cENote n0 v1_n0 v2_n0 v3_n0), SlC NEMember v1_n0 n0.conf.members, SlC Ni64 v2_n0 n0.legit, SlC NEOp v3_n0 n0.entry.batch.ops] | 2 => Gx I D w I16 w17 xw [OEwire_Writer (blkOf (vals1 0)) n0_12, BxC b1 39 (cENote n0 v1_n0 v2_n0 v3_n0), SlC NEMember v1_n0 n0.conf.members, SlC Ni64 v2_n0 n0.legit, SlC NEOp v3_n0 n0.entry.batch.ops] | 3 => Gx I D w I16 w17 xw [OEwire_Writer (blkOf (vals1 0)) n0_13, BxC b1 39 (cENote n0 v1_n0 v2_n0 v3_n0), SlC NEMember v1_n0 n0.conf.members, SlC Ni64 v2_n0 n0.legit, SlC NEOp v3_n0 n0.entry.batch.ops] | _ => Gx I D w I16 w17 xw [OEwire_Writer (blkOf (vals1 0)) n0_14, BxC b1 39 (cENote n0 v1_n0 v2_n0 v3_n0), SlC NEMember v1_n0 n0.conf.members, SlC Ni64 v2_n0 n0.legit, SlC NEOp v3_n0 n0.entry.batch.ops]) (fun _ => Gx.start H) ?_ ?_
             ·intro fr hfr hfe
              refine .cons (fun ss hlo hhi vals5 xw hG hV => ?_) ?_
              ·obtain rfl : ss = 0 := Nat.le_antisymm hhi hlo
               rw [← hfe]
               have hS := (hfr vals5).sub (ts := [5]) (S' := [(5, .pointer (some ⟨(blkOf (vals1 0)), 0, none⟩))]) rfl
               exact L_val hS rfl (Ob_c tN rfl) ⟨rfl, hG⟩
              refine .cons (fun ss hlo hhi vals5 xw hG hV => ?_) ?_
              ·obtain rfl : ss = 0 := Nat.le_antisymm hhi hlo
               rw [← hfe]
               have hS := (hfr vals5).sub (ts := [1]) (S' := [(1, .pointer (some ⟨b1, 0, none⟩))]) rfl
               exact L_val hS rfl (Ob_c tN rfl) ⟨rfl, hG⟩
              refine .cons (fun ss hlo hhi vals5 xw hG hV => ?_) ?_
              ·obtain rfl : ss = 0 := Nat.le_antisymm hhi hlo
               rw [← hfe]
               have hS := (hfr vals5).sub (ts := [103]) (S' := [(103, vals5 1)]) rfl
               replace hS := hS.conv (t := 103) rfl (show (vals5 1) = .pointer (some ⟨b1, 14, none⟩) from hV 1 (by decide))
               exact L_val hS rfl (Ob_c tN rfl) ⟨rfl, hG⟩
              refine .cons (fun ss hlo hhi vals5 xw hG hV => ?_) ?_
              ·obtain rfl : ss = 0 := Nat.le_antisymm hhi hlo
               rw [← hfe]
               have hS := (hfr vals5).sub (ts := [104]) (S' := [(104, vals5 2)]) rfl
               replace hS := hS.conv (t := 104) rfl (show (vals5 2) = .pointer (some ⟨b1, 14, none⟩) from hV 2 (by decide))
               obtain ⟨I2, hI2, H⟩ := Gx.ex hG
               exact L_val hS rfl (Ob_load tN rfl rfl rfl ((H.bx 0 rfl).cell 14 rfl)) ⟨rfl, hG⟩
              refine .cons (fun ss hlo hhi vals5 xw hG hV => ?_) ?_
              ·obtain rfl : ss = 0 := Nat.le_antisymm hhi hlo
               rw [← hfe]
               have hS := (hfr vals5).sub (ts := [102, 105]) (S' := [(102, vals5 0), (105, vals5 3)]) rfl
               replace hS := hS.conv (t := 102) rfl (show (vals5 0) = .pointer (some ⟨(blkOf (vals1 0)), 0, none⟩) from hV 0 (by decide))
               replace hS := hS.conv (t := 105) rfl (show (vals5 3) = .int .i64 n0.said.client from hV 3 (by decide))
               obtain ⟨I2, hI2, H⟩ := Gx.ex hG
               refine L_hcall H (js := [(1, false)]) rfl (caps := #[]) hS fn_31_YNote rfl rfl rfl rfl rfl (fun D1 hS => have hq := c_wire_Writer_Num hx19 hS; hq) fun _ yw D1 hr hF2 => ?_
               obtain ⟨rfl, I3, K⟩ := hr
               obtain ⟨hK, H2⟩ := hF2 K
               exact ⟨rfl, Gx.go hG hI2 hK K.imm H2⟩
              refine .cons (fun ss hlo hhi vals5 xw hG hV => ?_) ?_
              ·obtain rfl | rfl : ss = 0 ∨ ss = 1 := st1 hlo hhi
               all_goals
               ·rw [← hfe]
                have hS := (hfr vals5).sub (ts := [1]) (S' := [(1, .pointer (some ⟨b1, 0, none⟩))]) rfl
                exact L_val hS rfl (Ob_c tN rfl) ⟨rfl, hG⟩
              refine .cons (fun ss hlo hhi vals5 xw hG hV => ?_) ?_
              ·obtain rfl | rfl : ss = 0 ∨ ss = 1 := st1 hlo hhi
               all_goals
               ·rw [← hfe]
                have hS := (hfr vals5).sub (ts := [107]) (S' := [(107, vals5 5)]) rfl
                replace hS := hS.conv (t := 107) rfl (show (vals5 5) = .pointer (some ⟨b1, 14, none⟩) from hV 5 (by decide))
                exact L_val hS rfl (Ob_c tN rfl) ⟨rfl, hG⟩
              refine .cons (fun ss hlo hhi vals5 xw hG hV => ?_) ?_
              ·obtain rfl | rfl : ss = 0 ∨ ss = 1 := st1 hlo hhi
               ·rw [← hfe]
                have hS := (hfr vals5).sub (ts := [108]) (S' := [(108, vals5 6)]) rfl
                replace hS := hS.conv (t := 108) rfl (show (vals5 6) = .pointer (some ⟨b1, 15, none⟩) from hV 6 (by decide))
                obtain ⟨I2, hI2, H⟩ := Gx.ex hG
                exact L_val hS rfl (Ob_load tN rfl rfl rfl ((H.bx 0 rfl).cell 15 rfl)) ⟨rfl, hG⟩
               ·rw [← hfe]
                have hS := (hfr vals5).sub (ts := [108]) (S' := [(108, vals5 6)]) rfl
                replace hS := hS.conv (t := 108) rfl (show (vals5 6) = .pointer (some ⟨b1, 15, none⟩) from hV 6 (by decide))
                obtain ⟨I2, hI2, H⟩ := Gx.ex hG
                exact L_val hS rfl (Ob_load tN rfl rfl rfl ((H.bx 1 rfl).cell 15 rfl)) ⟨rfl, hG⟩
              refine .cons (fun ss hlo hhi vals5 xw hG hV => ?_) ?_
              ·obtain rfl : ss = 1 := Nat.le_antisymm hhi hlo
               rw [← hfe]
               have hS := (hfr vals5).sub (ts := [106, 109]) (S' := [(106, vals5 4), (109, vals5 7)]) rfl
               replace hS := hS.conv (t := 106) rfl (show (vals5 4) = .pointer (some ⟨(blkOf (vals1 0)), 0, none⟩) from hV 4 (by decide))
               replace hS := hS.conv (t := 109) rfl (show (vals5 7) = .int .i64 n0.said.req from hV 7 (by decide))
               obtain ⟨I2, hI2, H⟩ := Gx.ex hG
               refine L_hcall H (js := [(0, false)]) rfl (caps := #[]) hS fn_31_YNote rfl rfl rfl rfl rfl (fun D1 hS => have hq := c_wire_Writer_Num hx20 hS; hq) fun _ yw D1 hr hF2 => ?_
               obtain ⟨rfl, I3, K⟩ := hr
               obtain ⟨hK, H2⟩ := hF2 K
               exact ⟨rfl, Gx.go hG hI2 hK K.imm H2⟩
              refine .cons (fun ss hlo hhi vals5 xw hG hV => ?_) ?_
              ·obtain rfl | rfl | rfl : ss = 0 ∨ ss = 1 ∨ ss = 2 := st2 hlo hhi
               all_goals
               ·rw [← hfe]
                have hS := (hfr vals5).sub (ts := [1]) (S' := [(1, .pointer (some ⟨b1, 0, none⟩))]) rfl
                exact L_val hS rfl (Ob_c tN rfl) ⟨rfl, hG⟩
              refine .cons (fun ss hlo hhi vals5 xw hG hV => ?_) ?_
              ·obtain rfl | rfl | rfl : ss = 0 ∨ ss = 1 ∨ ss = 2 := st2 hlo hhi
               all_goals
               ·rw [← hfe]
                have hS := (hfr vals5).sub (ts := [111]) (S' := [(111, vals5 9)]) rfl
                replace hS := hS.conv (t := 111) rfl (show (vals5 9) = .pointer (some ⟨b1, 14, none⟩) from hV 9 (by decide))
                exact L_val hS rfl (Ob_c tN rfl) ⟨rfl, hG⟩
              refine .cons (fun ss hlo hhi vals5 xw hG hV => ?_) ?_
              ·obtain rfl | rfl | rfl : ss = 0 ∨ ss = 1 ∨ ss = 2 := st2 hlo hhi
               ·rw [← hfe]
                have hS := (hfr vals5).sub (ts := [112]) (S' := [(112, vals5 10)]) rfl
                replace hS := hS.conv (t := 112) rfl (show (vals5 10) = .pointer (some ⟨b1, 16, none⟩) from hV 10 (by decide))
                obtain ⟨I2, hI2, H⟩ := Gx.ex hG
                exact L_val hS rfl (Ob_load tN rfl rfl rfl ((H.bx 0 rfl).cell 16 rfl)) ⟨rfl, hG⟩
               ·rw [← hfe]
                have hS := (hfr vals5).sub (ts := [112]) (S' := [(112, vals5 10)]) rfl
                replace hS := hS.conv (t := 112) rfl (show (vals5 10) = .pointer (some ⟨b1, 16, none⟩) from hV 10 (by decide))
                obtain ⟨I2, hI2, H⟩ := Gx.ex hG
                exact L_val hS rfl (Ob_load tN rfl rfl rfl ((H.bx 1 rfl).cell 16 rfl)) ⟨rfl, hG⟩
               ·rw [← hfe]
                have hS := (hfr vals5).sub (ts := [112]) (S' := [(112, vals5 10)]) rfl
                replace hS := hS.conv (t := 112) rfl (show (vals5 10) = .pointer (some ⟨b1, 16, none⟩) from hV 10 (by decide))
                obtain ⟨I2, hI2, H⟩ := Gx.ex hG
                exact L_val hS rfl (Ob_load tN rfl rfl rfl ((H.bx 1 rfl).cell 16 rfl)) ⟨rfl, hG⟩
              refine .cons (fun ss hlo hhi vals5 xw hG hV => ?_) ?_
              ·obtain rfl : ss = 2 := Nat.le_antisymm hhi hlo
               rw [← hfe]
               have hS := (hfr vals5).sub (ts := [110, 113]) (S' := [(110, vals5 8), (113, vals5 11)]) rfl
               replace hS := hS.conv (t := 110) rfl (show (vals5 8) = .pointer (some ⟨(blkOf (vals1 0)), 0, none⟩) from hV 8 (by decide))
               replace hS := hS.conv (t := 113) rfl (show (vals5 11) = .int .i64 n0.said.e from hV 11 (by decide))
               obtain ⟨I2, hI2, H⟩ := Gx.ex hG
               refine L_hcall H (js := [(0, false)]) rfl (caps := #[]) hS fn_31_YNote rfl rfl rfl rfl rfl (fun D1 hS => have hq := c_wire_Writer_Num hx21 hS; hq) fun _ yw D1 hr hF2 => ?_
               obtain ⟨rfl, I3, K⟩ := hr
               obtain ⟨hK, H2⟩ := hF2 K
               exact ⟨rfl, Gx.go hG hI2 hK K.imm H2⟩
              refine .cons (fun ss hlo hhi vals5 xw hG hV => ?_) ?_
              ·obtain rfl | rfl | rfl | rfl : ss = 0 ∨ ss = 1 ∨ ss = 2 ∨ ss = 3 := st3 hlo hhi
               all_goals
               ·rw [← hfe]
                have hS := (hfr vals5).sub (ts := [1]) (S' := [(1, .pointer (some ⟨b1, 0, none⟩))]) rfl
                exact L_val hS rfl (Ob_c tN rfl) ⟨rfl, hG⟩
              refine .cons (fun ss hlo hhi vals5 xw hG hV => ?_) ?_
              ·obtain rfl | rfl | rfl | rfl : ss = 0 ∨ ss = 1 ∨ ss = 2 ∨ ss = 3 := st3 hlo hhi
               all_goals
               ·rw [← hfe]
                have hS := (hfr vals5).sub (ts := [115]) (S' := [(115, vals5 13)]) rfl
                replace hS := hS.conv (t := 115) rfl (show (vals5 13) = .pointer (some ⟨b1, 14, none⟩) from hV 13 (by decide))
                exact L_val hS rfl (Ob_c tN rfl) ⟨rfl, hG⟩
              refine .cons (fun ss hlo hhi vals5 xw hG hV => ?_) ?_
              ·obtain rfl | rfl | rfl | rfl : ss = 0 ∨ ss = 1 ∨ ss = 2 ∨ ss = 3 := st3 hlo hhi
               ·rw [← hfe]
                have hS := (hfr vals5).sub (ts := [116]) (S' := [(116, vals5 14)]) rfl
                replace hS := hS.conv (t := 116) rfl (show (vals5 14) = .pointer (some ⟨b1, 17, none⟩) from hV 14 (by decide))
                obtain ⟨I2, hI2, H⟩ := Gx.ex hG
                exact L_val hS rfl (Ob_load tN rfl rfl rfl ((H.bx 0 rfl).cell 17 rfl)) ⟨rfl, hG⟩
               ·rw [← hfe]
                have hS := (hfr vals5).sub (ts := [116]) (S' := [(116, vals5 14)]) rfl
                replace hS := hS.conv (t := 116) rfl (show (vals5 14) = .pointer (some ⟨b1, 17, none⟩) from hV 14 (by decide))
                obtain ⟨I2, hI2, H⟩ := Gx.ex hG
                exact L_val hS rfl (Ob_load tN rfl rfl rfl ((H.bx 1 rfl).cell 17 rfl)) ⟨rfl, hG⟩
               ·rw [← hfe]
                have hS := (hfr vals5).sub (ts := [116]) (S' := [(116, vals5 14)]) rfl
                replace hS := hS.conv (t := 116) rfl (show (vals5 14) = .pointer (some ⟨b1, 17, none⟩) from hV 14 (by decide))
                obtain ⟨I2, hI2, H⟩ := Gx.ex hG
                exact L_val hS rfl (Ob_load tN rfl rfl rfl ((H.bx 1 rfl).cell 17 rfl)) ⟨rfl, hG⟩
               ·rw [← hfe]
                have hS := (hfr vals5).sub (ts := [116]) (S' := [(116, vals5 14)]) rfl
                replace hS := hS.conv (t := 116) rfl (show (vals5 14) = .pointer (some ⟨b1, 17, none⟩) from hV 14 (by decide))
                obtain ⟨I2, hI2, H⟩ := Gx.ex hG
                exact L_val hS rfl (Ob_load tN rfl rfl rfl ((H.bx 1 rfl).cell 17 rfl)) ⟨rfl, hG⟩
              refine .cons (fun ss hlo hhi vals5 xw hG hV => ?_) ?_
              ·obtain rfl : ss = 3 := Nat.le_antisymm hhi hlo
               rw [← hfe]
               have hS := (hfr vals5).sub (ts := [114, 117]) (S' := [(114, vals5 12), (117, vals5 15)]) rfl
               replace hS := hS.conv (t := 114) rfl (show (vals5 12) = .pointer (some ⟨(blkOf (vals1 0)), 0, none⟩) from hV 12 (by decide))
               replace hS := hS.conv (t := 117) rfl (show (vals5 15) = .int .i64 n0.said.pin from hV 15 (by decide))
               obtain ⟨I2, hI2, H⟩ := Gx.ex hG
               refine L_hcall H (js := [(0, false)]) rfl (caps := #[]) hS fn_31_YNote rfl rfl rfl rfl rfl (fun D1 hS => have hq := c_wire_Writer_Num hx22 hS; hq) fun _ yw D1 hr hF2 => ?_
               obtain ⟨rfl, I3, K⟩ := hr
               obtain ⟨hK, H2⟩ := hF2 K
               exact ⟨rfl, Gx.go hG hI2 hK K.imm H2⟩
              exact .nil
             ·intro vals5 a w19 Z hG hV
              replace Z := Z.sub (ts := [2, 3, 5]) (S' := [(2, .string ⟨#[]⟩), (3, .int .i64 0), (5, .pointer (some ⟨(blkOf (vals1 0)), 0, none⟩))]) rfl
              obtain ⟨I18, _, H⟩ := Gx.ex hG
              clear hG hV
              replace Z := Z.sub (ts := [2, 3, 5]) rfl
              replace H : Hf I D w I18 w19 [OEwire_Writer (blkOf (vals1 0)) n0_14, BxC b1 39 (cENote n0 v1_n0 v2_n0 v3_n0), SlC NEMember v1_n0 n0.conf.members, SlC Ni64 v2_n0 n0.legit, SlC NEOp v3_n0 n0.entry.batch.ops] := H
              refine p_then ?_
              refine wp_exit ?_
              refine f_exit_here ?_
              refine p_then ?_
              exact ⟨n0_14, Z.sub (ts := [2, 3, 5]) rfl, ⟨I18, (H.sub [(0, false)] rfl).eq rfl⟩, hF⟩
            ·replace hF := ite_f hc9 hF
             refine wp_skip ?_
             refine p_then ?_
             refine wp_exit ?_
             refine f_exit_out (by decide) ?_
             refine p_then_x ?_
             refine f_exit_out (by decide) ?_
             refine p_then_x ?_
             refine f_exit_out (by decide) ?_
             refine p_then_x ?_
             refine f_exit_out (by decide) ?_
             refine p_then_x ?_
             refine f_exit_out (by decide) ?_
             refine p_then_x ?_
             refine f_exit_out (by decide) ?_
             refine p_then_x ?_
             refine f_exit_out (by decide) ?_
             refine p_then_x ?_
             refine f_exit_here ?_
             refine p_then ?_
             exact ⟨n0_3, Z.sub (ts := [2, 3, 5]) rfl, ⟨I16, (H.sub [(1, false)] rfl).eq rfl⟩, hF⟩
         ·skip
          refine wp_seq (f_region Z ?_); clear Z; intro Z
          refine s_runk tN Z 2 rfl rfl ?_; clear Z a; intro a Z
          refine s_end Z [1, 2, 3, 5, 22, 31] rfl ?_; clear Z; intro Z
          refine p_then ?_
          refine f_cond Z rfl (fun hc10 => ?_) (fun hc10 => ?_)
          ·replace hF := ite_t hc10 hF
           refine wp_skip ?_
           refine p_then ?_
           exact ⟨n0.k == 5, Z.sub (ts := [1, 2, 3, 5, 22, 31]) rfl, ⟨I2, (H.sub [(1, false), (0, false), (0, true), (1, true), (2, true)] rfl).eq rfl⟩, hF⟩
          ·replace hF := ite_f hc10 hF
           refine f_region Z ?_; clear Z; intro Z
           refine s_runk tN Z 2 rfl rfl ?_; clear Z a; intro a Z
           refine s_end Z [1, 2, 3, 5, 22, 31] rfl ?_; clear Z; intro Z
           refine p_then ?_
           exact ⟨n0.k == 7, Z.sub (ts := [1, 2, 3, 5, 22, 31]) rfl, ⟨I2, (H.sub [(1, false), (0, false), (0, true), (1, true), (2, true)] rfl).eq rfl⟩, hF⟩

end Go.Proofs.Ytbfglbbbkcpgeaa
