/- Trees that nobody made. -/
import Derived.Test.YtfcdghlgcnjkoaaYTreeW
namespace Go.Proofs.Ytfcdghlgcnjkoaa
open Go.RowKit
def tTreeZL : TabL := ⟨[], [], [], [(22, (9, 1))], [(4, (1, false)), (9, (1, false)), (22, (1, false)), (23, (1, false)), (51, (3, true))]⟩

def tTreeZ : Tab Try.prog := ⟨tTreeZL, by kernel_rfl⟩

theorem fn_8_YTreeZ : IsFn Try.prog 8 := ⟨_, Try.func8, by kernel_rfl, by kernel_rfl⟩

theorem fn_9_YTreeZ : IsFn Try.prog 9 := ⟨_, Try.func9, by kernel_rfl, by kernel_rfl⟩

theorem fn_10_YTreeZ : IsFn Try.prog 10 := ⟨_, Try.func10, by kernel_rfl, by kernel_rfl⟩

theorem fn_12_YTreeZ : IsFn Try.prog 12 := ⟨_, Try.func12, by kernel_rfl, by kernel_rfl⟩

theorem fn_14_YTreeZ : IsFn Try.prog 14 := ⟨_, Try.func14, by kernel_rfl, by kernel_rfl⟩

theorem fn_16_YTreeZ : IsFn Try.prog 16 := ⟨_, Try.func16, by kernel_rfl, by kernel_rfl⟩

theorem fn_19_YTreeZ : IsFn Try.prog 19 := ⟨_, Try.func19, by kernel_rfl, by kernel_rfl⟩

theorem fn_22_YTreeZ : IsFn Try.prog 22 := ⟨_, Try.func22, by kernel_rfl, by kernel_rfl⟩

theorem fn_24_YTreeZ : IsFn Try.prog 24 := ⟨_, Try.func24, by kernel_rfl, by kernel_rfl⟩

theorem fn_26_YTreeZ : IsFn Try.prog 26 := ⟨_, Try.func26, by kernel_rfl, by kernel_rfl⟩

theorem fn_32_YTreeZ : IsFn Try.prog 32 := ⟨_, Try.func32, by kernel_rfl, by kernel_rfl⟩

theorem E_22_YTreeZ : Elem Try.prog 22 9 1 16 := ⟨Try.underlying22, by
 have h : (Try.prog.info? 9).map (fun i => (i.zero, i.size, i.bytes)) = some (some (.string ByteArray.empty), 1, 16) := by kernel_rfl
 obtain ⟨i, hi, h1⟩ := Option.map_eq_some_iff.1 h
 simp only [Prod.mk.injEq] at h1
 exact ⟨i, _, hi, h1.1, h1.2.1, h1.2.2, by rfl⟩, by decide⟩

def F_tree_Tree_int_none_nil : Option Bool := some true

set_option maxHeartbeats 1000000 in
theorem c_tree_Tree_int_none_nil {I D : Dm} {w : World} {rr : Bool} (hF : F_tree_Tree_int_none_nil = some rr) (H : St I D w []) :
  Calls Try.prog 24 #[.pointer none] w (Ret fun vv w' => vv = .bool rr ∧ ∃ I', Hf I D w I' w' []) := by
 replace H := H.hf
 unfold F_tree_Tree_int_none_nil at hF
 refine f_enter 12 Try.func24 rfl rfl (Nat.le_of_ble_eq_true rfl) fun a Z => ?_
 replace Z := Z.sub (ts := [0]) rfl
 refine wp_seq (f_region Z ?_); clear Z; intro Z
 refine s_runk tTreeZ Z 1 rfl rfl ?_; clear Z a; intro a Z
 refine s_end Z [0, 2] rfl ?_; clear Z; intro Z
 refine p_then (wp_seq (f_region Z ?_)); clear Z; intro Z
 refine s_runk tTreeZ Z 1 rfl rfl ?_; clear Z a; intro a Z
 refine s_ob Z (v := .bool true) rfl rfl (by decide) rfl (Ob_pnil rfl rfl rfl Try.underlying23 (.inl ⟨rfl, rfl⟩)) ?_; clear Z a; intro a Z
 refine s_runk tTreeZ Z 1 rfl rfl ?_; clear Z a; intro a Z
 refine g_if Z rfl rfl rfl (p := false) rfl rfl (by decide) (fun h => by cases h) ?_; clear Z; intro _ a Z
 refine g_if Z rfl rfl rfl (p := false) rfl rfl (by decide) (fun h => by cases h) ?_; clear Z; intro _ a Z
 refine g_if Z rfl rfl rfl (p := false) rfl rfl (by decide) (fun h => by cases h) ?_; clear Z; intro _ a Z
 refine g_if Z rfl rfl rfl (p := false) rfl rfl (by decide) (fun h => by cases h) ?_; clear Z; intro _ a Z
 refine g_if Z rfl rfl rfl (p := false) rfl rfl (by decide) (fun h => by cases h) ?_; clear Z; intro _ a Z
 refine s_ob Z (v := .bool true) rfl rfl (by decide) rfl (Ob_pick rfl rfl rfl rfl rfl) ?_; clear Z a; intro a Z
 refine s_runk tTreeZ Z 1 rfl rfl ?_; clear Z a; intro a Z
 refine s_end Z [2] rfl ?_; clear Z; intro Z
 refine p_then (wp_ret ?_)
 obtain rfl := some_in hF
 exact f_ret Z (run_results1 rfl Z rfl) ⟨rfl, I, (H.sub [] rfl).eq rfl⟩

def F_tree_Tree_int_Get_nil (k : ByteArray) : Option (Int × Bool) := (F_tree_Tree_int_none_nil).bind fun n0 => (if (n0) = true then (some (0, false)) else (none))

set_option maxHeartbeats 1000000 in
theorem c_tree_Tree_int_Get_nil {I D : Dm} {k : ByteArray} {w : World} {rr : Int × Bool} (hF : F_tree_Tree_int_Get_nil k = some rr) (H : St I D w []) :
  Calls Try.prog 9 #[.pointer none, .string k] w (Ret fun vv w' => vv = .tuple #[.int .i64 rr.1, .bool rr.2] ∧ ∃ I', Hf I D w I' w' []) := by
 replace H := H.hf
 unfold F_tree_Tree_int_Get_nil at hF
 refine f_enter 46 Try.func9 rfl rfl (Nat.le_of_ble_eq_true rfl) fun a Z => ?_
 replace Z := Z.sub (ts := [0, 1]) rfl
 refine wp_seq (f_region Z ?_); clear Z; intro Z
 refine s_runk tTreeZ Z 2 rfl rfl ?_; clear Z a; intro a Z
 refine s_end Z [0, 1, 4, 5] rfl ?_; clear Z; intro Z
 refine p_then (wp_seq (f_region Z ?_)); clear Z; intro Z
 refine s_runk tTreeZ Z 1 rfl rfl ?_; clear Z a; intro a Z
 refine s_end Z [0, 1, 4, 5, 6] rfl ?_; clear Z; intro Z
 refine p_then (wp_seq ?_)
 refine wp_seq ?_
 obtain ⟨n0, hx1, hF⟩ := bnd_in hF
 refine f_region Z ?_; clear Z; intro Z
 refine s_runk tTreeZ Z 1 rfl rfl ?_; clear Z a; intro a Z
 refine h_call Z H (js := []) rfl (caps := #[]) fn_24_YTreeZ rfl rfl rfl rfl rfl (by decide) rfl rfl (fun D1 hS => have hq := c_tree_Tree_int_none_nil hx1 hS; hq) ?_; clear Z a; intro vv a w1 D2 hr hF2 Z
 obtain ⟨rfl, I1, K⟩ := hr
 have H : Hf I D w I1 w1 [] := hF2 K
 clear hF2 K
 refine s_end Z [0, 1, 4, 5, 6, 9] rfl ?_; clear Z; intro Z
 refine p_then ?_
 refine f_cond Z rfl (fun hc1 => ?_) (fun hc1 => ?_)
 ·replace hF := ite_t hc1 hF
  refine wp_seq (f_region Z ?_); clear Z; intro Z
  refine s_runk tTreeZ Z 3 rfl rfl ?_; clear Z a; intro a Z
  refine s_end Z [0, 1, 4, 5, 6] rfl ?_; clear Z; intro Z
  refine p_then (wp_ret ?_)
  refine p_then_r ?_
  obtain rfl := some_in hF
  exact f_ret Z (run_results2 rfl Z rfl rfl) ⟨rfl, I1, (H.sub [] rfl).eq rfl⟩
 ·replace hF := ite_f hc1 hF
  refine wp_skip ?_
  refine p_then (wp_seq ?_)
  cases hF

def F_tree_Tree_int_from_nil (k : ByteArray) : Option ByteArray := some k

set_option maxHeartbeats 1000000 in
theorem c_tree_Tree_int_from_nil {I D : Dm} {k : ByteArray} {w : World} {rr : ByteArray} (hF : F_tree_Tree_int_from_nil k = some rr) (H : St I D w []) :
  Calls Try.prog 26 #[.pointer none, .string k] w (Ret fun vv w' => ∃ g1 g2 : Nat, vv = .func (.func 32) #[] #[.pointer (some ⟨g1, 0, none⟩), .pointer (some ⟨g2, 0, none⟩)] ∧ ∃ I', Hf I D w I' w' [BxC g1 23 [.pointer none], BxC g2 9 [.string rr]]) := by
 replace H := H.hf
 unfold F_tree_Tree_int_from_nil at hF
 refine f_enter 6 Try.func26 rfl rfl (Nat.le_of_ble_eq_true rfl) fun a Z => ?_
 replace Z := Z.sub (ts := [0, 1]) rfl
 refine wp_seq (f_region Z ?_); clear Z; intro Z
 refine h_boxv Z H (cl := [.pointer none]) rfl rfl rfl (by decide) rfl rfl rfl ?_; clear Z a H; intro a w1 b1 H Z
 refine h_boxv Z H (cl := [.string k]) rfl rfl rfl (by decide) rfl rfl rfl ?_; clear Z a H; intro a w2 b2 H Z
 refine s_runk tTreeZ Z 1 rfl rfl ?_; clear Z a; intro a Z
 refine s_end Z [2, 3, 4] rfl ?_; clear Z; intro Z
 refine p_then (wp_seq (f_region Z ?_)); clear Z; intro Z
 refine s_runk tTreeZ Z 2 rfl rfl ?_; clear Z a; intro a Z
 refine s_end Z [4] rfl ?_; clear Z; intro Z
 refine p_then (wp_ret ?_)
 obtain rfl := some_in hF
 exact f_ret Z (run_results1 rfl Z rfl) ⟨b1, b2, rfl, I, (H.sub [(1, false), (0, false)] rfl).eq rfl⟩

def F_tree_Tree_int_from_1_nil {σ : Type} (y : ByteArray → σ → Option (Bool × σ)) (x0 : Bool × σ) (p2 : ByteArray) : Option (Bool × σ) := (F_tree_Tree_int_none_nil).bind fun n0 => (if (!n0) = true then (none) else (some x0))

set_option maxHeartbeats 1000000 in
theorem c_tree_Tree_int_from_1_nil {σ : Type} {I D : Dm} {Y : Bool × σ → Ch} {y : ByteArray → σ → Option (Bool × σ)} {x0 : Bool × σ} {ly : Nat} {b_p1 : Nat} {b_p2 : Nat} {p2 : ByteArray} {w : World} {rr : Bool × σ} (hy : YieldOk Try.prog ly Y (fun (e_ : ByteArray) (v_ : Unit) => .string e_) (fun (e_ : ByteArray) (v_ : Unit) => []) y) (hF : F_tree_Tree_int_from_1_nil y x0 p2 = some rr) (H : St I D w [BxC b_p1 23 [.pointer none], BxC b_p2 9 [.string p2], Y x0]) :
  Calls Try.prog 32 #[.func (.yield ly) #[] #[], .pointer (some ⟨b_p1, 0, none⟩), .pointer (some ⟨b_p2, 0, none⟩)] w (Ret fun vv w' => vv = .tuple #[] ∧ ∃ I', Hf I D w I' w' [BxC b_p1 23 [.pointer none], BxC b_p2 9 [.string p2], Y rr]) := by
 replace H := H.hf
 unfold F_tree_Tree_int_from_1_nil at hF
 refine f_enter 14 Try.func32 rfl rfl (Nat.le_of_ble_eq_true rfl) fun a Z => ?_
 replace Z := Z.sub (ts := [0, 1, 2]) rfl
 refine wp_seq ?_
 obtain ⟨n0, hx1, hF⟩ := bnd_in hF
 refine f_region Z ?_; clear Z; intro Z
 refine s_ob Z (v := .pointer none) rfl rfl (by decide) rfl (Ob_load tTreeZ rfl rfl rfl ((H.bx 0 rfl).cell 0 rfl)) ?_; clear Z a; intro a Z
 refine h_call Z H (js := []) rfl (caps := #[]) fn_24_YTreeZ rfl rfl rfl rfl rfl (by decide) rfl rfl (fun D1 hS => have hq := c_tree_Tree_int_none_nil hx1 hS; hq) ?_; clear Z a; intro vv a w1 D2 hr hF2 Z
 obtain ⟨rfl, I1, K⟩ := hr
 have H : Hf I D w I1 w1 [BxC b_p1 23 [.pointer none], BxC b_p2 9 [.string p2], Y x0] := hF2 K
 clear hF2 K
 refine s_runk tTreeZ Z 1 rfl rfl ?_; clear Z a; intro a Z
 refine s_end Z [0, 1, 2, 6] rfl ?_; clear Z; intro Z
 refine p_then ?_
 refine f_cond Z rfl (fun hc1 => ?_) (fun hc1 => ?_)
 ·replace hF := ite_t hc1 hF
  cases hF
 ·replace hF := ite_f hc1 hF
  refine wp_skip ?_
  obtain rfl := some_in hF
  exact f_fall Z (run_results0 rfl) ⟨rfl, I1, (H.sub [(0, false), (0, false), (0, false)] rfl).eq rfl⟩

def F_tree_Tree_int_Seek_nil_y1 (e_ : ByteArray) (sg : ByteArray × Bool) : Option (Bool × (ByteArray × Bool)) := match sg with | (yb1, yb2) => some (false, (e_, true))

def F_tree_Tree_int_Seek_nil (k : ByteArray) : Option (ByteArray × Bool) := (F_tree_Tree_int_from_nil k).bind fun n0 => ((F_tree_Tree_int_from_1_nil F_tree_Tree_int_Seek_nil_y1 (true, (ByteArray.empty, false)) n0).bind fun r0 => (if (r0.1) = true then (some (⟨#[]⟩, false)) else (some (r0.2.1, r0.2.2))))

set_option maxHeartbeats 1000000 in
theorem c_tree_Tree_int_Seek_nil {I D : Dm} {k : ByteArray} {w : World} {rr : ByteArray × Bool} (hF : F_tree_Tree_int_Seek_nil k = some rr) (H : St I D w []) :
  Calls Try.prog 19 #[.pointer none, .string k] w (Ret fun vv w' => vv = .tuple #[.string rr.1, .bool rr.2] ∧ ∃ I', Hf I D w I' w' []) := by
 replace H := H.hf
 unfold F_tree_Tree_int_Seek_nil at hF
 refine f_enterM 12 Try.func19 rfl rfl (Nat.le_of_ble_eq_true rfl) fun a Z => ?_
 replace Z := Z.sub (ts := [0, 1]) rfl
 refine wp_seq (f_region Z ?_); clear Z; intro Z
 refine h_alloc Z H (cl := [.string ByteArray.empty]) (z := .string ByteArray.empty) rfl rfl rfl (by decide) rfl (by kernel_rfl) rfl ?_; clear Z a H; intro a w1 b1 H Z
 refine h_alloc Z H (cl := [.bool false]) (z := .bool false) rfl rfl rfl (by decide) rfl (by kernel_rfl) rfl ?_; clear Z a H; intro a w2 b2 H Z
 refine s_end Z [0, 1, 4, 5] rfl ?_; clear Z; intro Z
 refine p_then (wp_seq ?_)
 refine wp_seq ?_
 obtain ⟨n0, hx1, hF⟩ := bnd_in hF
 refine f_region Z ?_; clear Z; intro Z
 refine s_runk tTreeZ Z 2 rfl rfl ?_; clear Z a; intro a Z
 refine h_call Z H (js := []) rfl (caps := #[]) fn_26_YTreeZ rfl rfl rfl rfl rfl (by decide) rfl rfl (fun D1 hS => have hq := c_tree_Tree_int_from_nil hx1 hS; hq) ?_; clear Z a; intro vv a w3 D2 hr hF2 Z
 obtain ⟨g1, g2, rfl, I1, K⟩ := hr
 have H : Hf I D w I1 w3 [BxC g1 23 [.pointer none], BxC g2 9 [.string n0], BxC b2 4 [.bool false], BxC b1 9 [.string ByteArray.empty]] := hF2 K
 clear hF2 K
 refine s_end Z [4, 5, 9] rfl ?_; clear Z; intro Z
 refine p_then (wp_block ?_)
 replace H := Hf.shutX (f := fun (xv_ : Unit) => [BxC b1 9 [.string ByteArray.empty], BxC b2 4 [.bool false]]) () H [(3, false), (2, false)] rfl
 obtain ⟨r0, hx2, hF⟩ := bnd_in hF
 refine f_rangeFunc (KC := (fun (sg_ : ByteArray × Bool) => ExC fun (xv_ : Unit) => [BxC b1 9 [.string sg_.1], BxC b2 4 [.bool sg_.2]])) (s0 := (ByteArray.empty, false)) (enc := (fun (e_ : ByteArray) (v_ : Unit) => .string e_)) (ech := (fun (e_ : ByteArray) (v_ : Unit) => [])) (c0 := .ret) (rr := r0) Z H (js := [(0, false), (0, false), (0, false)]) rfl [BxC g1 23 [.pointer none], BxC g2 9 [.string n0]] fn_32_YTreeZ rfl (by decide) ?_ (fun L Y hyk hS => have hq := c_tree_Tree_int_from_1_nil hyk hx2 hS; Ret.mono hq fun _ _ h => h.2) ?_
 ·clear hF H Z
  intro m I D w L D0 fn tm e_ v_ sg_ rr a hF Z H
  obtain ⟨yb1, yb2⟩ := sg_
  obtain ⟨_, H⟩ := H.openX 1 rfl
  replace H : Hf I D w I w [BxC b1 9 [.string yb1], BxC b2 4 [.bool yb2], LpC L (lrec fn tm #[10] _ _ D0 .ready none)] := H
  unfold F_tree_Tree_int_Seek_nil_y1 at hF; try dsimp only at hF
  refine f_regionI (by kernel_rfl) (by rintro ⟨_, _, h⟩; exact h) Z ?_; clear Z; intro Z
  refine s_runk tTreeZ Z 1 rfl rfl ?_; clear Z a; intro a Z
  refine s_end Z [4, 5, 9, 10, 6] rfl ?_; clear Z; intro Z
  refine p_begin H 2 rfl fun w5 H => ?_
  replace H : Hf I D w I w5 [LpC L (lrec fn tm #[10] _ _ D0 .busy none), BxC b1 9 [.string yb1], BxC b2 4 [.bool yb2]] := H
  refine wpIn_block ?_
  refine wpIn_seq ?_
  refine f_regionI (by kernel_rfl) (by rintro ⟨_, _, h⟩; exact h) Z ?_; clear Z; intro Z
  refine s_runk tTreeZ Z 1 rfl rfl ?_; clear Z a; intro a Z
  refine h_store tTreeZ Z H 1 rfl rfl rfl rfl rfl rfl rfl rfl rfl (one_cons rfl one_nil) (Nat.le_of_ble_eq_true rfl) rfl ?_; clear H; intro w6 H
  dsimp only [List.eraseIdx] at H
  refine h_store tTreeZ Z H 2 rfl rfl rfl rfl rfl rfl rfl rfl rfl (one_cons rfl one_nil) (Nat.le_of_ble_eq_true rfl) rfl ?_; clear H; intro w7 H
  dsimp only [List.eraseIdx] at H
  refine s_end Z [4, 5, 9, 10, 6, 11] rfl ?_; clear Z; intro Z
  refine p_then ?_
  refine wpIn_ret ?_
  refine p_blk_r ?_
  refine y_ret H 2 rfl fun w8 H => ?_
  obtain rfl := some_in hF
  exact ⟨rfl, I, ((Hf.shutX (f := fun (xv_ : Unit) => [BxC b1 9 [.string e_], BxC b2 4 [.bool true]]) () H [(2, false), (1, false)] rfl).sub [(1, false), (0, false)] rfl).eq rfl⟩
 ·intro D0_1 a w9 I3 Z H
  obtain ⟨_, H⟩ := H.openX 1 rfl
  replace H : Hf I D w I3 w9 [BxC b1 9 [.string r0.2.1], BxC b2 4 [.bool r0.2.2], DfC D0_1, BxC g1 23 [.pointer none], BxC g2 9 [.string n0]] := H
  refine ⟨fun hc1 => ?_, fun hc1 => ?_⟩
  ·replace hF := ite_t hc1 hF
   refine p_blk ?_
   refine p_then (wp_seq (f_region Z ?_)); clear Z; intro Z
   refine h_store tTreeZ Z H 0 rfl rfl rfl rfl rfl rfl rfl rfl rfl (one_cons rfl one_nil) (Nat.le_of_ble_eq_true rfl) rfl ?_; clear H; intro w10 H
   dsimp only [List.eraseIdx] at H
   refine h_store tTreeZ Z H 1 rfl rfl rfl rfl rfl rfl rfl rfl rfl (one_cons rfl one_nil) (Nat.le_of_ble_eq_true rfl) rfl ?_; clear H; intro w11 H
   dsimp only [List.eraseIdx] at H
   refine s_end Z [4, 5] rfl ?_; clear Z; intro Z
   refine p_then (wp_ret ?_)
   refine f_retM Z H 2 rfl fun w12 H => ?_
   replace H : Hf I D w I3 w12 [ObC D0_1 (.deferred none), BxC b2 4 [.bool false], BxC b1 9 [.string ⟨#[]⟩], BxC g1 23 [.pointer none], BxC g2 9 [.string n0]] := H
   obtain rfl := some_in hF
   exact ⟨_, (run_resultsCC rfl Z rfl (run_loadVar_one tTreeZ rfl ((H.bx 2 rfl).cell 0 rfl)) rfl (run_loadVar_one tTreeZ rfl ((H.bx 1 rfl).cell 0 rfl))), rfl, I3, (H.sub [] rfl).eq rfl⟩
  ·replace hF := ite_f hc1 hF
   refine wp_ret ?_
   refine p_blk_r ?_
   refine p_then_r ?_
   refine f_retM Z H 2 rfl fun w13 H => ?_
   replace H : Hf I D w I3 w13 [ObC D0_1 (.deferred none), BxC b1 9 [.string r0.2.1], BxC b2 4 [.bool r0.2.2], BxC g1 23 [.pointer none], BxC g2 9 [.string n0]] := H
   obtain rfl := some_in hF
   exact ⟨_, (run_resultsCC rfl Z rfl (run_loadVar_one tTreeZ rfl ((H.bx 1 rfl).cell 0 rfl)) rfl (run_loadVar_one tTreeZ rfl ((H.bx 2 rfl).cell 0 rfl))), rfl, I3, (H.sub [] rfl).eq rfl⟩

def F_tree_Tree_int_Put_nil (k : ByteArray) (v : Int) : Option Bool := (F_tree_Tree_int_none_nil).bind fun n0 => (if (n0) = true then (some false) else (none))

set_option maxHeartbeats 1000000 in
theorem c_tree_Tree_int_Put_nil {I D : Dm} {k : ByteArray} {v : Int} {w : World} {rr : Bool} (hF : F_tree_Tree_int_Put_nil k v = some rr) (H : St I D w []) :
  Calls Try.prog 8 #[.pointer none, .string k, .int .i64 v] w (Ret fun vv w' => vv = .bool rr ∧ ∃ I', Hf I D w I' w' []) := by
 replace H := H.hf
 unfold F_tree_Tree_int_Put_nil at hF
 refine f_enter 33 Try.func8 rfl rfl (Nat.le_of_ble_eq_true rfl) fun a Z => ?_
 replace Z := Z.sub (ts := [0, 1, 2]) rfl
 refine wp_seq (f_region Z ?_); clear Z; intro Z
 refine s_runk tTreeZ Z 1 rfl rfl ?_; clear Z a; intro a Z
 refine s_end Z [0, 1, 2, 6] rfl ?_; clear Z; intro Z
 refine p_then (wp_seq ?_)
 refine wp_seq ?_
 obtain ⟨n0, hx1, hF⟩ := bnd_in hF
 refine f_region Z ?_; clear Z; intro Z
 refine s_runk tTreeZ Z 1 rfl rfl ?_; clear Z a; intro a Z
 refine h_call Z H (js := []) rfl (caps := #[]) fn_24_YTreeZ rfl rfl rfl rfl rfl (by decide) rfl rfl (fun D1 hS => have hq := c_tree_Tree_int_none_nil hx1 hS; hq) ?_; clear Z a; intro vv a w1 D2 hr hF2 Z
 obtain ⟨rfl, I1, K⟩ := hr
 have H : Hf I D w I1 w1 [] := hF2 K
 clear hF2 K
 refine s_end Z [0, 1, 2, 6, 9] rfl ?_; clear Z; intro Z
 refine p_then ?_
 refine f_cond Z rfl (fun hc1 => ?_) (fun hc1 => ?_)
 ·replace hF := ite_t hc1 hF
  refine wp_seq (f_region Z ?_); clear Z; intro Z
  refine s_runk tTreeZ Z 1 rfl rfl ?_; clear Z a; intro a Z
  refine s_end Z [0, 1, 2, 6] rfl ?_; clear Z; intro Z
  refine p_then (wp_ret ?_)
  refine p_then_r ?_
  obtain rfl := some_in hF
  exact f_ret Z (run_results1 rfl Z rfl) ⟨rfl, I1, (H.sub [] rfl).eq rfl⟩
 ·replace hF := ite_f hc1 hF
  refine wp_skip ?_
  refine p_then (wp_seq (f_region Z ?_)); clear Z; intro Z
  refine s_runk tTreeZ Z 1 rfl rfl ?_; clear Z a; intro a Z
  refine s_end Z [0, 1, 2, 6, 7] rfl ?_; clear Z; intro Z
  refine p_then (wp_seq ?_)
  refine wp_seq ?_
  cases hF

def F_tree_Tree_int_Del_nil (k : ByteArray) : Option Bool := (F_tree_Tree_int_none_nil).bind fun n0 => (if (n0) = true then (some false) else (none))

set_option maxHeartbeats 1000000 in
theorem c_tree_Tree_int_Del_nil {I D : Dm} {k : ByteArray} {w : World} {rr : Bool} (hF : F_tree_Tree_int_Del_nil k = some rr) (H : St I D w []) :
  Calls Try.prog 16 #[.pointer none, .string k] w (Ret fun vv w' => vv = .bool rr ∧ ∃ I', Hf I D w I' w' []) := by
 replace H := H.hf
 unfold F_tree_Tree_int_Del_nil at hF
 refine f_enter 29 Try.func16 rfl rfl (Nat.le_of_ble_eq_true rfl) fun a Z => ?_
 replace Z := Z.sub (ts := [0, 1]) rfl
 refine wp_seq (f_region Z ?_); clear Z; intro Z
 refine s_runk tTreeZ Z 1 rfl rfl ?_; clear Z a; intro a Z
 refine s_end Z [0, 1, 4] rfl ?_; clear Z; intro Z
 refine p_then (wp_seq ?_)
 refine wp_seq ?_
 obtain ⟨n0, hx1, hF⟩ := bnd_in hF
 refine f_region Z ?_; clear Z; intro Z
 refine s_runk tTreeZ Z 1 rfl rfl ?_; clear Z a; intro a Z
 refine h_call Z H (js := []) rfl (caps := #[]) fn_24_YTreeZ rfl rfl rfl rfl rfl (by decide) rfl rfl (fun D1 hS => have hq := c_tree_Tree_int_none_nil hx1 hS; hq) ?_; clear Z a; intro vv a w1 D2 hr hF2 Z
 obtain ⟨rfl, I1, K⟩ := hr
 have H : Hf I D w I1 w1 [] := hF2 K
 clear hF2 K
 refine s_end Z [0, 1, 4, 7] rfl ?_; clear Z; intro Z
 refine p_then ?_
 refine f_cond Z rfl (fun hc1 => ?_) (fun hc1 => ?_)
 ·replace hF := ite_t hc1 hF
  refine wp_seq (f_region Z ?_); clear Z; intro Z
  refine s_runk tTreeZ Z 1 rfl rfl ?_; clear Z a; intro a Z
  refine s_end Z [0, 1, 4] rfl ?_; clear Z; intro Z
  refine p_then (wp_ret ?_)
  refine p_then_r ?_
  obtain rfl := some_in hF
  exact f_ret Z (run_results1 rfl Z rfl) ⟨rfl, I1, (H.sub [] rfl).eq rfl⟩
 ·replace hF := ite_f hc1 hF
  refine wp_skip ?_
  refine p_then (wp_seq (f_region Z ?_)); clear Z; intro Z
  refine s_runk tTreeZ Z 1 rfl rfl ?_; clear Z a; intro a Z
  refine s_end Z [0, 1, 4, 5] rfl ?_; clear Z; intro Z
  refine p_then (wp_seq ?_)
  refine wp_seq ?_
  cases hF

def F_tree_Tree_int_Len_nil : Option Int := (F_tree_Tree_int_none_nil).bind fun n0 => (if (n0) = true then (some 0) else (none))

set_option maxHeartbeats 1000000 in
theorem c_tree_Tree_int_Len_nil {I D : Dm} {w : World} {rr : Int} (hF : F_tree_Tree_int_Len_nil = some rr) (H : St I D w []) :
  Calls Try.prog 10 #[.pointer none] w (Ret fun vv w' => vv = .int .i64 rr ∧ ∃ I', Hf I D w I' w' []) := by
 replace H := H.hf
 unfold F_tree_Tree_int_Len_nil at hF
 refine f_enter 9 Try.func10 rfl rfl (Nat.le_of_ble_eq_true rfl) fun a Z => ?_
 replace Z := Z.sub (ts := [0]) rfl
 refine wp_seq (f_region Z ?_); clear Z; intro Z
 refine s_runk tTreeZ Z 1 rfl rfl ?_; clear Z a; intro a Z
 refine s_end Z [0, 2] rfl ?_; clear Z; intro Z
 refine p_then (wp_seq ?_)
 refine wp_seq ?_
 obtain ⟨n0, hx1, hF⟩ := bnd_in hF
 refine f_region Z ?_; clear Z; intro Z
 refine s_runk tTreeZ Z 1 rfl rfl ?_; clear Z a; intro a Z
 refine h_call Z H (js := []) rfl (caps := #[]) fn_24_YTreeZ rfl rfl rfl rfl rfl (by decide) rfl rfl (fun D1 hS => have hq := c_tree_Tree_int_none_nil hx1 hS; hq) ?_; clear Z a; intro vv a w1 D2 hr hF2 Z
 obtain ⟨rfl, I1, K⟩ := hr
 have H : Hf I D w I1 w1 [] := hF2 K
 clear hF2 K
 refine s_end Z [0, 2, 4] rfl ?_; clear Z; intro Z
 refine p_then ?_
 refine f_cond Z rfl (fun hc1 => ?_) (fun hc1 => ?_)
 ·replace hF := ite_t hc1 hF
  refine wp_seq (f_region Z ?_); clear Z; intro Z
  refine s_runk tTreeZ Z 1 rfl rfl ?_; clear Z a; intro a Z
  refine s_end Z [0, 2] rfl ?_; clear Z; intro Z
  refine p_then (wp_ret ?_)
  refine p_then_r ?_
  obtain rfl := some_in hF
  exact f_ret Z (run_results1 rfl Z rfl) ⟨rfl, I1, (H.sub [] rfl).eq rfl⟩
 ·replace hF := ite_f hc1 hF
  refine wp_skip ?_
  refine p_then (wp_seq ?_)
  cases hF

def F_tree_Tree_int_Depth_nil : Option Int := (F_tree_Tree_int_none_nil).bind fun n0 => (if (n0) = true then (some 0) else (none))

set_option maxHeartbeats 1000000 in
theorem c_tree_Tree_int_Depth_nil {I D : Dm} {w : World} {rr : Int} (hF : F_tree_Tree_int_Depth_nil = some rr) (H : St I D w []) :
  Calls Try.prog 22 #[.pointer none] w (Ret fun vv w' => vv = .int .i64 rr ∧ ∃ I', Hf I D w I' w' []) := by
 replace H := H.hf
 unfold F_tree_Tree_int_Depth_nil at hF
 refine f_enter 10 Try.func22 rfl rfl (Nat.le_of_ble_eq_true rfl) fun a Z => ?_
 replace Z := Z.sub (ts := [0]) rfl
 refine wp_seq (f_region Z ?_); clear Z; intro Z
 refine s_runk tTreeZ Z 1 rfl rfl ?_; clear Z a; intro a Z
 refine s_end Z [0, 2] rfl ?_; clear Z; intro Z
 refine p_then (wp_seq ?_)
 refine wp_seq ?_
 obtain ⟨n0, hx1, hF⟩ := bnd_in hF
 refine f_region Z ?_; clear Z; intro Z
 refine s_runk tTreeZ Z 1 rfl rfl ?_; clear Z a; intro a Z
 refine h_call Z H (js := []) rfl (caps := #[]) fn_24_YTreeZ rfl rfl rfl rfl rfl (by decide) rfl rfl (fun D1 hS => have hq := c_tree_Tree_int_none_nil hx1 hS; hq) ?_; clear Z a; intro vv a w1 D2 hr hF2 Z
 obtain ⟨rfl, I1, K⟩ := hr
 have H : Hf I D w I1 w1 [] := hF2 K
 clear hF2 K
 refine s_end Z [0, 2, 4] rfl ?_; clear Z; intro Z
 refine p_then ?_
 refine f_cond Z rfl (fun hc1 => ?_) (fun hc1 => ?_)
 ·replace hF := ite_t hc1 hF
  refine wp_seq (f_region Z ?_); clear Z; intro Z
  refine s_runk tTreeZ Z 1 rfl rfl ?_; clear Z a; intro a Z
  refine s_end Z [0, 2] rfl ?_; clear Z; intro Z
  refine p_then (wp_ret ?_)
  refine p_then_r ?_
  obtain rfl := some_in hF
  exact f_ret Z (run_results1 rfl Z rfl) ⟨rfl, I1, (H.sub [] rfl).eq rfl⟩
 ·replace hF := ite_f hc1 hF
  refine wp_skip ?_
  refine p_then (wp_seq ?_)
  cases hF

def F_tree_Tree_int_Keys_nil_y1 (to_ : ByteArray) (e_ : ByteArray) (sg : (List ByteArray)) : Option (Bool × (List ByteArray)) := match sg with | out => if ((!seqB to_ ⟨#[]⟩) && (!sltB e_ to_)) = true then (some (false, out)) else (chk (((out.length + [e_].length : Nat) : Int) * 16 ≤ 140737488355328) (some (true, (out ++ [e_]))))

def F_tree_Tree_int_Keys_nil (from_ : ByteArray) (to_ : ByteArray) : Option (List ByteArray) := (F_tree_Tree_int_from_nil from_).bind fun n0 => ((F_tree_Tree_int_from_1_nil (F_tree_Tree_int_Keys_nil_y1 to_) (true, ([] : List ByteArray)) n0).bind fun r0 => (if (r0.1) = true then (some r0.2) else (some r0.2)))

set_option maxHeartbeats 1000000 in
theorem c_tree_Tree_int_Keys_nil {I D : Dm} {from_ : ByteArray} {to_ : ByteArray} {w : World} {rr : List ByteArray} (hF : F_tree_Tree_int_Keys_nil from_ to_ = some rr) (H : St I D w []) :
  Calls Try.prog 12 #[.pointer none, .string from_, .string to_] w (Ret fun vv w' => ∃ q1 : Value, vv = q1 ∧ ∃ I', Hf I D w I' w' [SlC NS q1 rr]) := by
 replace H := H.hf
 unfold F_tree_Tree_int_Keys_nil at hF
 refine f_enterM 25 Try.func12 rfl rfl (Nat.le_of_ble_eq_true rfl) fun a Z => ?_
 replace Z := Z.sub (ts := [0, 1, 2]) rfl
 refine wp_seq (f_region Z ?_); clear Z; intro Z
 refine h_boxv Z H (cl := [.string to_]) rfl rfl rfl (by decide) rfl rfl rfl ?_; clear Z a H; intro a w1 b1 H Z
 refine s_runk tTreeZ Z 1 rfl rfl ?_; clear Z a; intro a Z
 refine s_end Z [0, 1, 5, 6] rfl ?_; clear Z; intro Z
 refine p_then (wp_seq (f_region Z ?_)); clear Z; intro Z
 refine h_alloc Z H (cl := [.slice none 0 0]) (z := .slice none 0 0) rfl rfl rfl (by decide) rfl (by kernel_rfl) rfl ?_; clear Z a H; intro a w2 b2 H Z
 refine s_end Z [0, 1, 5, 6, 7] rfl ?_; clear Z; intro Z
 refine p_then (wp_seq ?_)
 refine wp_seq ?_
 obtain ⟨n0, hx1, hF⟩ := bnd_in hF
 refine f_region Z ?_; clear Z; intro Z
 refine s_runk tTreeZ Z 2 rfl rfl ?_; clear Z a; intro a Z
 refine h_call Z H (js := []) rfl (caps := #[]) fn_26_YTreeZ rfl rfl rfl rfl rfl (by decide) rfl rfl (fun D1 hS => have hq := c_tree_Tree_int_from_nil hx1 hS; hq) ?_; clear Z a; intro vv a w3 D2 hr hF2 Z
 obtain ⟨g1, g2, rfl, I1, K⟩ := hr
 have H : Hf I D w I1 w3 [BxC g1 23 [.pointer none], BxC g2 9 [.string n0], BxC b2 22 [.slice none 0 0], BxC b1 9 [.string to_]] := hF2 K
 clear hF2 K
 refine s_end Z [5, 6, 7, 11] rfl ?_; clear Z; intro Z
 refine p_then (wp_block ?_)
 replace H : Hf I D w I1 w3 [OwC NS 9 (.slice none 0 0) ([] : List ByteArray), BxC g1 23 [.pointer none], BxC g2 9 [.string n0], BxC b2 22 [.slice none 0 0], BxC b1 9 [.string to_]] := H.nilow NS 9
 replace H := Hf.shutX (f := fun (xv_ : Value) => [BxC b1 9 [.string to_], BxC b2 22 [xv_], OwC NS 9 xv_ ([] : List ByteArray)]) (.slice none 0 0) H [(4, false), (3, false), (0, false)] rfl
 obtain ⟨r0, hx2, hF⟩ := bnd_in hF
 refine f_rangeFunc (KC := (fun (sg_ : (List ByteArray)) => ExC fun (xv_ : Value) => [BxC b1 9 [.string to_], BxC b2 22 [xv_], OwC NS 9 xv_ sg_])) (s0 := ([] : List ByteArray)) (enc := (fun (e_ : ByteArray) (v_ : Unit) => .string e_)) (ech := (fun (e_ : ByteArray) (v_ : Unit) => [])) (c0 := .exit 0) (rr := r0) Z H (js := [(0, false), (0, false), (0, false)]) rfl [BxC g1 23 [.pointer none], BxC g2 9 [.string n0]] fn_32_YTreeZ rfl (by decide) ?_ (fun L Y hyk hS => have hq := c_tree_Tree_int_from_1_nil hyk hx2 hS; Ret.mono hq fun _ _ h => h.2) ?_
 ·clear hF H Z
  intro m I D w L D0 fn tm e_ v_ sg_ rr a hF Z H
  obtain ⟨out, rfl⟩ : ∃ x_, x_ = sg_ := ⟨_, rfl⟩
  obtain ⟨v1, H⟩ := H.openX 1 rfl
  replace H : Hf I D w I w [BxC b1 9 [.string to_], BxC b2 22 [v1], OwC NS 9 v1 out, LpC L (lrec fn tm #[12] _ _ D0 .ready none)] := H
  unfold F_tree_Tree_int_Keys_nil_y1 at hF; try dsimp only at hF
  refine f_regionI (by kernel_rfl) (by rintro ⟨_, _, h⟩; exact h) Z ?_; clear Z; intro Z
  refine s_runk tTreeZ Z 1 rfl rfl ?_; clear Z a; intro a Z
  refine s_end Z [5, 6, 7, 11, 12, 8] rfl ?_; clear Z; intro Z
  refine p_begin H 3 rfl fun w5 H => ?_
  replace H : Hf I D w I w5 [LpC L (lrec fn tm #[12] _ _ D0 .busy none), BxC b1 9 [.string to_], BxC b2 22 [v1], OwC NS 9 v1 out] := H
  refine wpIn_block ?_
  refine wpIn_seq ?_
  refine wpIn_seq ?_
  refine f_regionI (by kernel_rfl) (by rintro ⟨_, _, h⟩; exact h) Z ?_; clear Z; intro Z
  refine s_ob Z (v := .string to_) rfl rfl (by decide) rfl (Ob_load tTreeZ rfl rfl rfl ((H.bx 1 rfl).cell 0 rfl)) ?_; clear Z a; intro a Z
  refine s_runk tTreeZ Z 2 rfl rfl ?_; clear Z a; intro a Z
  refine g_ob Z (p := (!seqB to_ ⟨#[]⟩)) (v := .string e_) (S' := [(8, .string e_)]) rfl rfl rfl (wantB_t _) rfl (by decide) (fun hp hS => hS.sub (ts := [8]) rfl) (fun hp => Ob_c tTreeZ rfl) ?_; clear Z a; intro a Z
  refine g_ob Z (p := (!seqB to_ ⟨#[]⟩)) (v := .string to_) (S' := [(5, .pointer (some ⟨b1, 0, none⟩))]) rfl rfl rfl (wantB_t _) rfl (by decide) (fun hp hS => hS.sub (ts := [5]) rfl) (fun hp => Ob_load tTreeZ rfl rfl rfl ((H.bx 1 rfl).cell 0 rfl)) ?_; clear Z a; intro a Z
  refine g_ob Z (p := (!seqB to_ ⟨#[]⟩)) (v := .bool (!sltB e_ to_)) (S' := [(16, .string e_), (17, .string to_)]) rfl rfl rfl (wantB_t _) rfl (by decide) (fun hp hS => ((hS.conv (t := 16) rfl (cond_t hp)).conv (t := 17) rfl (cond_t hp)).sub (ts := [16, 17]) rfl) (fun hp => Ob_c tTreeZ rfl) ?_; clear Z a; intro a Z
  refine s_ob Z (v := .bool ((!seqB to_ ⟨#[]⟩) && (!sltB e_ to_))) rfl rfl (by decide) rfl (Ob_pick rfl rfl rfl rfl (pick_and _ _)) ?_; clear Z a; intro a Z
  refine s_end Z [5, 6, 7, 11, 12, 8, 13, 14, 15, 19] rfl ?_; clear Z; intro Z
  refine p_then ?_
  refine f_condI Z rfl (fun hc1 => ?_) (fun hc1 => ?_)
  ·replace hF := ite_t hc1 hF
   refine wpIn_exit ?_
   refine p_then_x ?_
   refine f_exit_out (by decide) ?_
   refine y_exit H 0 rfl fun w6 H => ?_
   obtain rfl := some_in hF
   exact ⟨rfl, I, ((Hf.shutX (f := fun (xv_ : Value) => [BxC b1 9 [.string to_], BxC b2 22 [xv_], OwC NS 9 xv_ out]) v1 H [(1, false), (1, false), (1, false)] rfl).sub [(1, false), (0, false)] rfl).eq rfl⟩
  ·replace hF := ite_f hc1 hF
   refine wpIn_skip ?_
   refine p_then ?_
   obtain ⟨hg1, hF⟩ := chk_in hF
   refine f_regionI (by kernel_rfl) (by rintro ⟨_, _, h⟩; exact h) Z ?_; clear Z; intro Z
   refine s_ob Z (v := v1) rfl rfl (by decide) rfl (Ob_load tTreeZ rfl rfl rfl ((H.bx 2 rfl).cell 0 rfl)) ?_; clear Z a; intro a Z
   refine s_runk tTreeZ Z 1 rfl rfl ?_; clear Z a; intro a Z
   refine h_bslice Z H (vs := [(0, .string e_)]) (cl := [.string e_]) (e := 9) rfl rfl rfl (by decide) rfl rfl (fun w => run_bslice (z := .string ByteArray.empty) (m := 1) Try.underlying22 (by kernel_rfl) rfl rfl (by decide) (by simp [Instr.fill, Value.cells]) w) ?_; clear Z a H; intro a w7 b3 H Z
   refine h_appO Z H 4 E_22_YTreeZ [e_] rfl rfl rfl rfl rfl (by decide) rfl rfl rfl (slRep2.box1 (H.bx 0 rfl) ⟨rfl, trivial⟩) hg1 (by decide) ?_; clear Z a H; intro v2 a w8 H Z
   dsimp only [List.eraseIdx] at H
   replace H : Hf I D w I w8 [OwC NS 9 v2 (out ++ [e_]), LpC L (lrec fn tm #[12] _ _ D0 .busy none), BxC b1 9 [.string to_], BxC b2 22 [v1]] := H.sub [(0, false), (1, false), (1, false), (1, false)] rfl
   refine h_store tTreeZ Z H 3 rfl rfl rfl rfl rfl rfl (slS.cells (H.owshape 0 rfl)) rfl rfl (one_cons (slS.one (H.owshape 0 rfl)) one_nil) (Nat.le_of_ble_eq_true rfl) rfl ?_; clear H; intro w9 H
   dsimp only [List.eraseIdx] at H
   refine s_end Z [5, 6, 7, 11, 12, 8, 13, 14, 15, 19, 20, 21, 22, 23] rfl ?_; clear Z; intro Z
   refine p_blk ?_
   refine y_norm H 2 rfl fun w10 H => ?_
   obtain rfl := some_in hF
   exact ⟨rfl, I, ((Hf.shutX (f := fun (xv_ : Value) => [BxC b1 9 [.string to_], BxC b2 22 [xv_], OwC NS 9 xv_ (out ++ [e_])]) v2 H [(3, false), (1, false), (1, false)] rfl).sub [(1, false), (0, false)] rfl).eq rfl⟩
 ·intro D0_1 a w11 I3 Z H
  obtain ⟨v3, H⟩ := H.openX 1 rfl
  replace H : Hf I D w I3 w11 [BxC b1 9 [.string to_], BxC b2 22 [v3], OwC NS 9 v3 r0.2, DfC D0_1, BxC g1 23 [.pointer none], BxC g2 9 [.string n0]] := H
  refine ⟨fun hc2 => ?_, fun hc2 => ?_⟩
  ·replace hF := ite_t hc2 hF
   refine p_blk ?_
   refine p_then (wp_seq (f_region Z ?_)); clear Z; intro Z
   refine s_ob Z (v := v3) rfl rfl (by decide) rfl (Ob_load tTreeZ rfl rfl rfl ((H.bx 1 rfl).cell 0 rfl)) ?_; clear Z a; intro a Z
   refine s_runk tTreeZ Z 1 rfl rfl ?_; clear Z a; intro a Z
   refine s_end Z [6] rfl ?_; clear Z; intro Z
   refine p_then (wp_ret ?_)
   refine f_retM Z H 3 rfl fun w12 H => ?_
   replace H : Hf I D w I3 w12 [ObC D0_1 (.deferred none), BxC b1 9 [.string to_], BxC b2 22 [v3], OwC NS 9 v3 r0.2, BxC g1 23 [.pointer none], BxC g2 9 [.string n0]] := H
   obtain ⟨I4, _, H⟩ := H.frzow 3 rfl
   replace H : Hf I D w I4 w12 [SlC NS v3 r0.2, ObC D0_1 (.deferred none), BxC b1 9 [.string to_], BxC b2 22 [v3], BxC g1 23 [.pointer none], BxC g2 9 [.string n0]] := H
   obtain rfl := some_in hF
   exact ⟨_, (run_results1 rfl Z rfl), v3, rfl, I4, (H.sub [(0, true)] rfl).eq rfl⟩
  ·replace hF := ite_f hc2 hF
   refine wp_exit ?_
   refine f_exit_here ?_
   refine p_then (wp_seq (f_region Z ?_)); clear Z; intro Z
   refine s_ob Z (v := v3) rfl rfl (by decide) rfl (Ob_load tTreeZ rfl rfl rfl ((H.bx 1 rfl).cell 0 rfl)) ?_; clear Z a; intro a Z
   refine s_runk tTreeZ Z 1 rfl rfl ?_; clear Z a; intro a Z
   refine s_end Z [6] rfl ?_; clear Z; intro Z
   refine p_then (wp_ret ?_)
   refine f_retM Z H 3 rfl fun w13 H => ?_
   replace H : Hf I D w I3 w13 [ObC D0_1 (.deferred none), BxC b1 9 [.string to_], BxC b2 22 [v3], OwC NS 9 v3 r0.2, BxC g1 23 [.pointer none], BxC g2 9 [.string n0]] := H
   obtain ⟨I5, _, H⟩ := H.frzow 3 rfl
   replace H : Hf I D w I5 w13 [SlC NS v3 r0.2, ObC D0_1 (.deferred none), BxC b1 9 [.string to_], BxC b2 22 [v3], BxC g1 23 [.pointer none], BxC g2 9 [.string n0]] := H
   obtain rfl := some_in hF
   exact ⟨_, (run_results1 rfl Z rfl), v3, rfl, I5, (H.sub [(0, true)] rfl).eq rfl⟩

def F_law15_TreeZero (k : ByteArray) (v : Int) : Option Bool := (F_tree_Tree_int_Get_nil k).bind fun n0 => ((F_tree_Tree_int_Get (default : Etree_Tree_int) k).bind fun g => ((F_tree_Tree_int_Seek_nil k).bind fun n0_2 => ((F_tree_Tree_int_Seek (default : Etree_Tree_int) k).bind fun s0 => ((F_tree_Tree_int_Put_nil k v).bind fun n0_3 => ((gif (!n0_3) (F_tree_Tree_int_Put s0.2.2 k v) default).bind fun p => ((gif ((!n0_3) && (!p.1)) (F_tree_Tree_int_Del_nil k) default).bind fun n0_4 => ((gif (((!n0_3) && (!p.1)) && (!n0_4)) (F_tree_Tree_int_Del (cond (!n0_3) p.2 s0.2.2) k) default).bind fun d => ((gif ((((((((!n0_3) && (!p.1)) && (!n0_4)) && (!d.1)) && (!n0.2)) && (!g.2)) && (!n0_2.2)) && (!s0.2.1)) (F_tree_Tree_int_Len_nil) default).bind fun n0_5 => ((gif ((((((((!n0_3) && (!p.1)) && (!n0_4)) && (!d.1)) && (!n0.2)) && (!g.2)) && (!n0_2.2)) && (!s0.2.1)) (F_tree_Tree_int_Len (cond (((!n0_3) && (!p.1)) && (!n0_4)) d.2 (cond (!n0_3) p.2 s0.2.2))) default).bind fun l => (chk (((((((((!n0_3) && (!p.1)) && (!n0_4)) && (!d.1)) && (!n0.2)) && (!g.2)) && (!n0_2.2)) && (!s0.2.1)) = true → inI (n0_5 + l)) ((gif ((((((((!n0_3) && (!p.1)) && (!n0_4)) && (!d.1)) && (!n0.2)) && (!g.2)) && (!n0_2.2)) && (!s0.2.1)) (F_tree_Tree_int_Depth_nil) default).bind fun n0_6 => (chk (((((((((!n0_3) && (!p.1)) && (!n0_4)) && (!d.1)) && (!n0.2)) && (!g.2)) && (!n0_2.2)) && (!s0.2.1)) = true → inI (n0_5 + l + n0_6)) ((gif ((((((((!n0_3) && (!p.1)) && (!n0_4)) && (!d.1)) && (!n0.2)) && (!g.2)) && (!n0_2.2)) && (!s0.2.1)) (F_tree_Tree_int_Depth (cond (((!n0_3) && (!p.1)) && (!n0_4)) d.2 (cond (!n0_3) p.2 s0.2.2))) default).bind fun d_2 => (chk (((((((((!n0_3) && (!p.1)) && (!n0_4)) && (!d.1)) && (!n0.2)) && (!g.2)) && (!n0_2.2)) && (!s0.2.1)) = true → inI (n0_5 + l + n0_6 + d_2)) (if ((((((((!n0_3) && (!p.1)) && (!n0_4)) && (!d.1)) && (!n0.2)) && (!g.2)) && (!n0_2.2)) && (!s0.2.1)) = true then ((F_tree_Tree_int_Keys_nil ⟨#[]⟩ ⟨#[]⟩).bind fun n0_7 => (chk (inI (n0_5 + l + n0_6 + d_2 + (n0_7.length : Int))) ((F_tree_Tree_int_Keys (cond (((!n0_3) && (!p.1)) && (!n0_4)) d.2 (cond (!n0_3) p.2 s0.2.2)) ⟨#[]⟩ ⟨#[]⟩).bind fun k_2 => (chk (inI (n0_5 + l + n0_6 + d_2 + (n0_7.length : Int) + (k_2.1.length : Int))) ((gif ((n0_5 + l + n0_6 + d_2 + (n0_7.length : Int) + (k_2.1.length : Int)) == 0) (F_law15_awake) default).bind fun a0 => (some (((n0_5 + l + n0_6 + d_2 + (n0_7.length : Int) + (k_2.1.length : Int)) == 0) && a0))))))) else (some false))))))))))))))))

set_option maxHeartbeats 1000000 in
theorem c_law15_TreeZero {I D : Dm} {k : ByteArray} {v : Int} {w : World} {rr : Bool} (hF : F_law15_TreeZero k v = some rr) (H : St I D w []) :
  Calls Try.prog 6 #[.string k, .int .i64 v] w (Ret fun vv w' => vv = .bool rr ∧ ∃ I', Hf I D w I' w' []) := by
 replace H := H.hf
 unfold F_law15_TreeZero at hF
 refine f_enter 97 Try.func6 rfl rfl (Nat.le_of_ble_eq_true rfl) fun a Z => ?_
 replace Z := Z.sub (ts := [0, 1]) rfl
 refine wp_seq (f_region Z ?_); clear Z; intro Z
 refine s_runk tTreeZ Z 1 rfl rfl ?_; clear Z a; intro a Z
 refine s_end Z [0, 1, 4] rfl ?_; clear Z; intro Z
 refine p_then (wp_seq (f_region Z ?_)); clear Z; intro Z
 refine s_runk tTreeZ Z 1 rfl rfl ?_; clear Z a; intro a Z
 refine s_end Z [0, 1, 4, 5] rfl ?_; clear Z; intro Z
 refine p_then (wp_seq (f_region Z ?_)); clear Z; intro Z
 refine h_alloc Z H (cl := [.pointer none, .int .i64 0, .bool false]) (z := .agg #[.pointer none, .int .i64 0, .bool false]) rfl rfl rfl (by decide) rfl (by kernel_rfl) rfl ?_; clear Z a H; intro a w1 b1 H Z
 refine s_end Z [0, 1, 4, 5, 6] rfl ?_; clear Z; intro Z
 refine p_then (wp_seq ?_)
 obtain ⟨n0, hx1, hF⟩ := bnd_in hF
 refine f_region Z ?_; clear Z; intro Z
 refine s_runk tTreeZ Z 2 rfl rfl ?_; clear Z a; intro a Z
 refine h_call Z H (js := []) rfl (caps := #[]) fn_9_YTreeZ rfl rfl rfl rfl rfl (by decide) rfl rfl (fun D1 hS => have hq := c_tree_Tree_int_Get_nil hx1 hS; hq) ?_; clear Z a; intro vv a w2 D2 hr hF2 Z
 obtain ⟨rfl, I1, K⟩ := hr
 have H : Hf I D w I1 w2 [BxC b1 51 [.pointer none, .int .i64 0, .bool false]] := hF2 K
 clear hF2 K
 refine s_runk tTreeZ Z 5 rfl rfl ?_; clear Z a; intro a Z
 refine s_end Z [0, 1, 4, 5, 6, 8] rfl ?_; clear Z; intro Z
 refine p_then (wp_seq ?_)
 obtain ⟨g, hx2, hF⟩ := bnd_in hF
 refine f_region Z ?_; clear Z; intro Z
 refine s_runk tTreeZ Z 1 rfl rfl ?_; clear Z a; intro a Z
 replace H : Hf I D w I1 w2 [TrC 55 TT.nil (.pointer none), BxC b1 51 [.pointer none, .int .i64 0, .bool false]] := H.mkTN 55
 replace H : Hf I D w I1 w2 [OEtree_Tree_int b1 (default : Etree_Tree_int)] := H.shutX (.pointer none) [(1, false), (0, false)] rfl
 refine h_call Z H (js := [(0, false)]) rfl (caps := #[]) fn_9_YTreeZ rfl rfl rfl rfl rfl (by decide) rfl rfl (fun D1 hS => have hq := c_tree_Tree_int_Get hx2 hS; hq) ?_; clear Z a; intro vv a w3 D2 hr hF2 Z
 obtain ⟨rfl, I2, K⟩ := hr
 have H : Hf I D w I2 w3 [OEtree_Tree_int b1 (default : Etree_Tree_int)] := hF2 K
 clear hF2 K
 refine s_runk tTreeZ Z 5 rfl rfl ?_; clear Z a; intro a Z
 refine s_end Z [0, 1, 4, 5, 6, 8, 10] rfl ?_; clear Z; intro Z
 refine p_then (wp_seq ?_)
 obtain ⟨n0_2, hx3, hF⟩ := bnd_in hF
 refine f_region Z ?_; clear Z; intro Z
 refine s_runk tTreeZ Z 2 rfl rfl ?_; clear Z a; intro a Z
 refine h_call Z H (js := []) rfl (caps := #[]) fn_19_YTreeZ rfl rfl rfl rfl rfl (by decide) rfl rfl (fun D1 hS => have hq := c_tree_Tree_int_Seek_nil hx3 hS; hq) ?_; clear Z a; intro vv a w4 D2 hr hF2 Z
 obtain ⟨rfl, I3, K⟩ := hr
 have H : Hf I D w I3 w4 [OEtree_Tree_int b1 (default : Etree_Tree_int)] := hF2 K
 clear hF2 K
 refine s_runk tTreeZ Z 5 rfl rfl ?_; clear Z a; intro a Z
 refine s_end Z [0, 1, 4, 5, 6, 8, 10, 12] rfl ?_; clear Z; intro Z
 refine p_then (wp_seq ?_)
 obtain ⟨s0, hx4, hF⟩ := bnd_in hF
 refine f_region Z ?_; clear Z; intro Z
 refine s_runk tTreeZ Z 1 rfl rfl ?_; clear Z a; intro a Z
 refine h_call Z H (js := [(0, false)]) rfl (caps := #[]) fn_19_YTreeZ rfl rfl rfl rfl rfl (by decide) rfl rfl (fun D1 hS => have hq := c_tree_Tree_int_Seek hx4 hS; hq) ?_; clear Z a; intro vv a w5 D2 hr hF2 Z
 obtain ⟨rfl, I4, K⟩ := hr
 have H : Hf I D w I4 w5 [OEtree_Tree_int b1 s0.2.2] := hF2 K
 clear hF2 K
 refine s_runk tTreeZ Z 5 rfl rfl ?_; clear Z a; intro a Z
 refine s_end Z [0, 1, 4, 5, 6, 8, 10, 12, 14] rfl ?_; clear Z; intro Z
 refine p_then (wp_seq ?_)
 obtain ⟨n0_3, hx5, hF⟩ := bnd_in hF
 obtain ⟨p, hx6, hF⟩ := bnd_in hF
 obtain ⟨n0_4, hx7, hF⟩ := bnd_in hF
 obtain ⟨d, hx8, hF⟩ := bnd_in hF
 obtain ⟨n0_5, hx9, hF⟩ := bnd_in hF
 obtain ⟨l, hx10, hF⟩ := bnd_in hF
 obtain ⟨hg1, hF⟩ := chk_in hF
 obtain ⟨n0_6, hx11, hF⟩ := bnd_in hF
 obtain ⟨hg2, hF⟩ := chk_in hF
 obtain ⟨d_2, hx12, hF⟩ := bnd_in hF
 obtain ⟨hg3, hF⟩ := chk_in hF
 refine f_region Z ?_; clear Z; intro Z
 refine s_runk tTreeZ Z 3 rfl rfl ?_; clear Z a; intro a Z
 refine h_call Z H (js := []) rfl (caps := #[]) fn_8_YTreeZ rfl rfl rfl rfl rfl (by decide) rfl rfl (fun D1 hS => have hq := c_tree_Tree_int_Put_nil hx5 hS; hq) ?_; clear Z a; intro vv a w6 D2 hr hF2 Z
 obtain ⟨rfl, I5, K⟩ := hr
 have H : Hf I D w I5 w6 [OEtree_Tree_int b1 s0.2.2] := hF2 K
 clear hF2 K
 refine s_runk tTreeZ Z 2 rfl rfl ?_; clear Z a; intro a Z
 refine g_ob Z (p := (!n0_3)) (v := .string k) (S' := [(0, .string k)]) rfl rfl rfl (wantB_t _) rfl (by decide) (fun hp hS => hS.sub (ts := [0]) rfl) (fun hp => Ob_c tTreeZ rfl) ?_; clear Z a; intro a Z
 refine g_ob Z (p := (!n0_3)) (v := .int .i64 v) (S' := [(1, .int .i64 v)]) rfl rfl rfl (wantB_t _) rfl (by decide) (fun hp hS => hS.sub (ts := [1]) rfl) (fun hp => Ob_c tTreeZ rfl) ?_; clear Z a; intro a Z
 refine h_gcall Z H (js := [(0, false)]) rfl (p := (!n0_3)) (v := .bool p.1) (S' := [(6, .pointer (some ⟨b1, 0, none⟩)), (43, .string k), (44, .int .i64 v)]) (caps := #[]) (fun qq => [OEtree_Tree_int b1 (cond qq p.2 s0.2.2)]) fn_8_YTreeZ rfl rfl rfl (wantB_t _) rfl (by decide) (fun hp hS => ((hS.conv (t := 43) rfl (cond_t hp)).conv (t := 44) rfl (cond_t hp)).sub (ts := [6, 43, 44]) rfl) rfl rfl rfl rfl (fun hp D1 hS => have hq := c_tree_Tree_int_Put (gif_in hx6 hp) hS; hq) (fun hp => H.sub [(0, false)] rfl) ?_; clear Z a H; intro a w7 I6 H Z
 replace H : Hf I D w I6 w7 [OEtree_Tree_int b1 (cond (!n0_3) p.2 s0.2.2)] := H
 refine g_ob Z (p := (!n0_3)) (v := .bool (!p.1)) (S' := [(45, .bool p.1)]) rfl rfl rfl (wantB_t _) rfl (by decide) (fun hp hS => (hS.conv (t := 45) rfl (cond_t hp)).sub (ts := [45]) rfl) (fun hp => Ob_c tTreeZ rfl) ?_; clear Z a; intro a Z
 refine s_ob Z (v := .bool ((!n0_3) && (!p.1))) rfl rfl (by decide) rfl (Ob_pick rfl rfl rfl rfl (pick_and _ _)) ?_; clear Z a; intro a Z
 refine s_runk tTreeZ Z 1 rfl rfl ?_; clear Z a; intro a Z
 refine g_ob Z (p := ((!n0_3) && (!p.1))) (v := .pointer none) (S' := [(5, .pointer none)]) rfl rfl rfl (wantB_t _) rfl (by decide) (fun hp hS => hS.sub (ts := [5]) rfl) (fun hp => Ob_c tTreeZ rfl) ?_; clear Z a; intro a Z
 refine g_ob Z (p := ((!n0_3) && (!p.1))) (v := .string k) (S' := [(0, .string k)]) rfl rfl rfl (wantB_t _) rfl (by decide) (fun hp hS => hS.sub (ts := [0]) rfl) (fun hp => Ob_c tTreeZ rfl) ?_; clear Z a; intro a Z
 refine g_call Z (p := ((!n0_3) && (!p.1))) (v := .bool n0_4) (S' := [(49, .pointer none), (50, .string k)]) (caps := #[]) fn_16_YTreeZ rfl rfl rfl (wantB_t _) rfl (by decide) (fun hp hS => ((hS.conv (t := 49) rfl (cond_t hp)).conv (t := 50) rfl (cond_t hp)).sub (ts := [49, 50]) rfl) rfl rfl rfl rfl (fun hp => have hq := c_tree_Tree_int_Del_nil (gif_in hx7 hp) (H.pick0 (js := []) rfl rfl); plainC hq) ?_; clear Z a; intro a w8 hb Z
 replace H : Hf I D w I6 w8 [OEtree_Tree_int b1 (cond (!n0_3) p.2 s0.2.2)] := H.blw hb
 clear hb
 refine g_ob Z (p := ((!n0_3) && (!p.1))) (v := .bool (!n0_4)) (S' := [(51, .bool n0_4)]) rfl rfl rfl (wantB_t _) rfl (by decide) (fun hp hS => (hS.conv (t := 51) rfl (cond_t hp)).sub (ts := [51]) rfl) (fun hp => Ob_c tTreeZ rfl) ?_; clear Z a; intro a Z
 refine s_ob Z (v := .bool (((!n0_3) && (!p.1)) && (!n0_4))) rfl rfl (by decide) rfl (Ob_pick rfl rfl rfl rfl (pick_and _ _)) ?_; clear Z a; intro a Z
 refine s_runk tTreeZ Z 1 rfl rfl ?_; clear Z a; intro a Z
 refine g_ob Z (p := (((!n0_3) && (!p.1)) && (!n0_4))) (v := .string k) (S' := [(0, .string k)]) rfl rfl rfl (wantB_t _) rfl (by decide) (fun hp hS => hS.sub (ts := [0]) rfl) (fun hp => Ob_c tTreeZ rfl) ?_; clear Z a; intro a Z
 refine h_gcall Z H (js := [(0, false)]) rfl (p := (((!n0_3) && (!p.1)) && (!n0_4))) (v := .bool d.1) (S' := [(6, .pointer (some ⟨b1, 0, none⟩)), (55, .string k)]) (caps := #[]) (fun qq => [OEtree_Tree_int b1 (cond qq d.2 (cond (!n0_3) p.2 s0.2.2))]) fn_16_YTreeZ rfl rfl rfl (wantB_t _) rfl (by decide) (fun hp hS => (hS.conv (t := 55) rfl (cond_t hp)).sub (ts := [6, 55]) rfl) rfl rfl rfl rfl (fun hp D1 hS => have hq := c_tree_Tree_int_Del (gif_in hx8 hp) hS; hq) (fun hp => H.sub [(0, false)] rfl) ?_; clear Z a H; intro a w9 I7 H Z
 replace H : Hf I D w I7 w9 [OEtree_Tree_int b1 (cond (((!n0_3) && (!p.1)) && (!n0_4)) d.2 (cond (!n0_3) p.2 s0.2.2))] := H
 refine g_ob Z (p := (((!n0_3) && (!p.1)) && (!n0_4))) (v := .bool (!d.1)) (S' := [(56, .bool d.1)]) rfl rfl rfl (wantB_t _) rfl (by decide) (fun hp hS => (hS.conv (t := 56) rfl (cond_t hp)).sub (ts := [56]) rfl) (fun hp => Ob_c tTreeZ rfl) ?_; clear Z a; intro a Z
 refine s_ob Z (v := .bool ((((!n0_3) && (!p.1)) && (!n0_4)) && (!d.1))) rfl rfl (by decide) rfl (Ob_pick rfl rfl rfl rfl (pick_and _ _)) ?_; clear Z a; intro a Z
 refine s_runk tTreeZ Z 1 rfl rfl ?_; clear Z a; intro a Z
 refine g_ob Z (p := ((((!n0_3) && (!p.1)) && (!n0_4)) && (!d.1))) (v := .bool n0.2) (S' := [(8, .bool n0.2)]) rfl rfl rfl (wantB_t _) rfl (by decide) (fun hp hS => hS.sub (ts := [8]) rfl) (fun hp => Ob_c tTreeZ rfl) ?_; clear Z a; intro a Z
 refine g_ob Z (p := ((((!n0_3) && (!p.1)) && (!n0_4)) && (!d.1))) (v := .bool (!n0.2)) (S' := [(60, .bool n0.2)]) rfl rfl rfl (wantB_t _) rfl (by decide) (fun hp hS => (hS.conv (t := 60) rfl (cond_t hp)).sub (ts := [60]) rfl) (fun hp => Ob_c tTreeZ rfl) ?_; clear Z a; intro a Z
 refine s_ob Z (v := .bool (((((!n0_3) && (!p.1)) && (!n0_4)) && (!d.1)) && (!n0.2))) rfl rfl (by decide) rfl (Ob_pick rfl rfl rfl rfl (pick_and _ _)) ?_; clear Z a; intro a Z
 refine s_runk tTreeZ Z 1 rfl rfl ?_; clear Z a; intro a Z
 refine g_ob Z (p := (((((!n0_3) && (!p.1)) && (!n0_4)) && (!d.1)) && (!n0.2))) (v := .bool g.2) (S' := [(10, .bool g.2)]) rfl rfl rfl (wantB_t _) rfl (by decide) (fun hp hS => hS.sub (ts := [10]) rfl) (fun hp => Ob_c tTreeZ rfl) ?_; clear Z a; intro a Z
 refine g_ob Z (p := (((((!n0_3) && (!p.1)) && (!n0_4)) && (!d.1)) && (!n0.2))) (v := .bool (!g.2)) (S' := [(64, .bool g.2)]) rfl rfl rfl (wantB_t _) rfl (by decide) (fun hp hS => (hS.conv (t := 64) rfl (cond_t hp)).sub (ts := [64]) rfl) (fun hp => Ob_c tTreeZ rfl) ?_; clear Z a; intro a Z
 refine s_ob Z (v := .bool ((((((!n0_3) && (!p.1)) && (!n0_4)) && (!d.1)) && (!n0.2)) && (!g.2))) rfl rfl (by decide) rfl (Ob_pick rfl rfl rfl rfl (pick_and _ _)) ?_; clear Z a; intro a Z
 refine s_runk tTreeZ Z 1 rfl rfl ?_; clear Z a; intro a Z
 refine g_ob Z (p := ((((((!n0_3) && (!p.1)) && (!n0_4)) && (!d.1)) && (!n0.2)) && (!g.2))) (v := .bool n0_2.2) (S' := [(12, .bool n0_2.2)]) rfl rfl rfl (wantB_t _) rfl (by decide) (fun hp hS => hS.sub (ts := [12]) rfl) (fun hp => Ob_c tTreeZ rfl) ?_; clear Z a; intro a Z
 refine g_ob Z (p := ((((((!n0_3) && (!p.1)) && (!n0_4)) && (!d.1)) && (!n0.2)) && (!g.2))) (v := .bool (!n0_2.2)) (S' := [(68, .bool n0_2.2)]) rfl rfl rfl (wantB_t _) rfl (by decide) (fun hp hS => (hS.conv (t := 68) rfl (cond_t hp)).sub (ts := [68]) rfl) (fun hp => Ob_c tTreeZ rfl) ?_; clear Z a; intro a Z
 refine s_ob Z (v := .bool (((((((!n0_3) && (!p.1)) && (!n0_4)) && (!d.1)) && (!n0.2)) && (!g.2)) && (!n0_2.2))) rfl rfl (by decide) rfl (Ob_pick rfl rfl rfl rfl (pick_and _ _)) ?_; clear Z a; intro a Z
 refine s_runk tTreeZ Z 1 rfl rfl ?_; clear Z a; intro a Z
 refine g_ob Z (p := (((((((!n0_3) && (!p.1)) && (!n0_4)) && (!d.1)) && (!n0.2)) && (!g.2)) && (!n0_2.2))) (v := .bool s0.2.1) (S' := [(14, .bool s0.2.1)]) rfl rfl rfl (wantB_t _) rfl (by decide) (fun hp hS => hS.sub (ts := [14]) rfl) (fun hp => Ob_c tTreeZ rfl) ?_; clear Z a; intro a Z
 refine g_ob Z (p := (((((((!n0_3) && (!p.1)) && (!n0_4)) && (!d.1)) && (!n0.2)) && (!g.2)) && (!n0_2.2))) (v := .bool (!s0.2.1)) (S' := [(72, .bool s0.2.1)]) rfl rfl rfl (wantB_t _) rfl (by decide) (fun hp hS => (hS.conv (t := 72) rfl (cond_t hp)).sub (ts := [72]) rfl) (fun hp => Ob_c tTreeZ rfl) ?_; clear Z a; intro a Z
 refine s_ob Z (v := .bool ((((((((!n0_3) && (!p.1)) && (!n0_4)) && (!d.1)) && (!n0.2)) && (!g.2)) && (!n0_2.2)) && (!s0.2.1))) rfl rfl (by decide) rfl (Ob_pick rfl rfl rfl rfl (pick_and _ _)) ?_; clear Z a; intro a Z
 refine s_runk tTreeZ Z 1 rfl rfl ?_; clear Z a; intro a Z
 refine g_ob Z (p := ((((((((!n0_3) && (!p.1)) && (!n0_4)) && (!d.1)) && (!n0.2)) && (!g.2)) && (!n0_2.2)) && (!s0.2.1))) (v := .pointer none) (S' := [(5, .pointer none)]) rfl rfl rfl (wantB_t _) rfl (by decide) (fun hp hS => hS.sub (ts := [5]) rfl) (fun hp => Ob_c tTreeZ rfl) ?_; clear Z a; intro a Z
 refine g_call Z (p := ((((((((!n0_3) && (!p.1)) && (!n0_4)) && (!d.1)) && (!n0.2)) && (!g.2)) && (!n0_2.2)) && (!s0.2.1))) (v := .int .i64 n0_5) (S' := [(76, .pointer none)]) (caps := #[]) fn_10_YTreeZ rfl rfl rfl (wantB_t _) rfl (by decide) (fun hp hS => (hS.conv (t := 76) rfl (cond_t hp)).sub (ts := [76]) rfl) rfl rfl rfl rfl (fun hp => have hq := c_tree_Tree_int_Len_nil (gif_in hx9 hp) (H.pick0 (js := []) rfl rfl); plainC hq) ?_; clear Z a; intro a w10 hb Z
 replace H : Hf I D w I7 w10 [OEtree_Tree_int b1 (cond (((!n0_3) && (!p.1)) && (!n0_4)) d.2 (cond (!n0_3) p.2 s0.2.2))] := H.blw hb
 clear hb
 refine h_gcall Z H (js := [(0, false)]) rfl (p := ((((((((!n0_3) && (!p.1)) && (!n0_4)) && (!d.1)) && (!n0.2)) && (!g.2)) && (!n0_2.2)) && (!s0.2.1))) (v := .int .i64 l) (S' := [(6, .pointer (some ⟨b1, 0, none⟩))]) (caps := #[]) (fun _ => [OEtree_Tree_int b1 (cond (((!n0_3) && (!p.1)) && (!n0_4)) d.2 (cond (!n0_3) p.2 s0.2.2))]) fn_10_YTreeZ rfl rfl rfl (wantB_t _) rfl (by decide) (fun hp hS => hS.sub (ts := [6]) rfl) rfl rfl rfl rfl (fun hp D1 hS => have hq := c_tree_Tree_int_Len (gif_in hx10 hp) hS; hq) (fun hp => H.sub [(0, false)] rfl) ?_; clear Z a H; intro a w11 I8 H Z
 replace H : Hf I D w I8 w11 [OEtree_Tree_int b1 (cond (((!n0_3) && (!p.1)) && (!n0_4)) d.2 (cond (!n0_3) p.2 s0.2.2))] := H
 refine g_ob Z (p := ((((((((!n0_3) && (!p.1)) && (!n0_4)) && (!d.1)) && (!n0.2)) && (!g.2)) && (!n0_2.2)) && (!s0.2.1))) (v := .int .i64 (n0_5 + l)) (S' := [(77, .int .i64 n0_5), (78, .int .i64 l)]) rfl rfl rfl (wantB_t _) rfl (by decide) (fun hp hS => ((hS.conv (t := 77) rfl (cond_t hp)).conv (t := 78) rfl (cond_t hp)).sub (ts := [77, 78]) rfl) (fun hp => Ob_add rfl rfl rfl (wrI (hg1 hp))) ?_; clear Z a; intro a Z
 refine g_ob Z (p := ((((((((!n0_3) && (!p.1)) && (!n0_4)) && (!d.1)) && (!n0.2)) && (!g.2)) && (!n0_2.2)) && (!s0.2.1))) (v := .pointer none) (S' := [(5, .pointer none)]) rfl rfl rfl (wantB_t _) rfl (by decide) (fun hp hS => hS.sub (ts := [5]) rfl) (fun hp => Ob_c tTreeZ rfl) ?_; clear Z a; intro a Z
 refine g_call Z (p := ((((((((!n0_3) && (!p.1)) && (!n0_4)) && (!d.1)) && (!n0.2)) && (!g.2)) && (!n0_2.2)) && (!s0.2.1))) (v := .int .i64 n0_6) (S' := [(80, .pointer none)]) (caps := #[]) fn_22_YTreeZ rfl rfl rfl (wantB_t _) rfl (by decide) (fun hp hS => (hS.conv (t := 80) rfl (cond_t hp)).sub (ts := [80]) rfl) rfl rfl rfl rfl (fun hp => have hq := c_tree_Tree_int_Depth_nil (gif_in hx11 hp) (H.pick0 (js := []) rfl rfl); plainC hq) ?_; clear Z a; intro a w12 hb Z
 replace H : Hf I D w I8 w12 [OEtree_Tree_int b1 (cond (((!n0_3) && (!p.1)) && (!n0_4)) d.2 (cond (!n0_3) p.2 s0.2.2))] := H.blw hb
 clear hb
 refine g_ob Z (p := ((((((((!n0_3) && (!p.1)) && (!n0_4)) && (!d.1)) && (!n0.2)) && (!g.2)) && (!n0_2.2)) && (!s0.2.1))) (v := .int .i64 (n0_5 + l + n0_6)) (S' := [(79, .int .i64 (n0_5 + l)), (81, .int .i64 n0_6)]) rfl rfl rfl (wantB_t _) rfl (by decide) (fun hp hS => ((hS.conv (t := 79) rfl (cond_t hp)).conv (t := 81) rfl (cond_t hp)).sub (ts := [79, 81]) rfl) (fun hp => Ob_add rfl rfl rfl (wrI (hg2 hp))) ?_; clear Z a; intro a Z
 refine h_gcall Z H (js := [(0, false)]) rfl (p := ((((((((!n0_3) && (!p.1)) && (!n0_4)) && (!d.1)) && (!n0.2)) && (!g.2)) && (!n0_2.2)) && (!s0.2.1))) (v := .int .i64 d_2) (S' := [(6, .pointer (some ⟨b1, 0, none⟩))]) (caps := #[]) (fun _ => [OEtree_Tree_int b1 (cond (((!n0_3) && (!p.1)) && (!n0_4)) d.2 (cond (!n0_3) p.2 s0.2.2))]) fn_22_YTreeZ rfl rfl rfl (wantB_t _) rfl (by decide) (fun hp hS => hS.sub (ts := [6]) rfl) rfl rfl rfl rfl (fun hp D1 hS => have hq := c_tree_Tree_int_Depth (gif_in hx12 hp) hS; hq) (fun hp => H.sub [(0, false)] rfl) ?_; clear Z a H; intro a w13 I9 H Z
 replace H : Hf I D w I9 w13 [OEtree_Tree_int b1 (cond (((!n0_3) && (!p.1)) && (!n0_4)) d.2 (cond (!n0_3) p.2 s0.2.2))] := H
 refine g_ob Z (p := ((((((((!n0_3) && (!p.1)) && (!n0_4)) && (!d.1)) && (!n0.2)) && (!g.2)) && (!n0_2.2)) && (!s0.2.1))) (v := .int .i64 (n0_5 + l + n0_6 + d_2)) (S' := [(82, .int .i64 (n0_5 + l + n0_6)), (83, .int .i64 d_2)]) rfl rfl rfl (wantB_t _) rfl (by decide) (fun hp hS => ((hS.conv (t := 82) rfl (cond_t hp)).conv (t := 83) rfl (cond_t hp)).sub (ts := [82, 83]) rfl) (fun hp => Ob_add rfl rfl rfl (wrI (hg3 hp))) ?_; clear Z a; intro a Z
 refine g_ob Z (p := ((((((((!n0_3) && (!p.1)) && (!n0_4)) && (!d.1)) && (!n0.2)) && (!g.2)) && (!n0_2.2)) && (!s0.2.1))) (v := .pointer none) (S' := [(5, .pointer none)]) rfl rfl rfl (wantB_t _) rfl (by decide) (fun hp hS => hS.sub (ts := [5]) rfl) (fun hp => Ob_c tTreeZ rfl) ?_; clear Z a; intro a Z
 refine bsplit ((((((((!n0_3) && (!p.1)) && (!n0_4)) && (!d.1)) && (!n0.2)) && (!g.2)) && (!n0_2.2)) && (!s0.2.1)) (fun hc1 => ?_) (fun hc1 => ?_)
 ·replace hF := ite_t hc1 hF; replace Z := Z.cnv (t := 75) rfl (show Value.bool ((((((((!n0_3) && (!p.1)) && (!n0_4)) && (!d.1)) && (!n0.2)) && (!g.2)) && (!n0_2.2)) && (!s0.2.1)) = .bool true from congrArg Value.bool hc1); replace Z := Z.sub (ts := [0, 1, 4, 5, 6, 8, 10, 12, 14, 37, 38, 39, 40, 41, 42, 43, 44, 45, 46, 47, 48, 49, 50, 51, 52, 53, 54, 55, 56, 57, 58, 59, 60, 61, 62, 63, 64, 65, 66, 67, 68, 69, 70, 71, 72, 73, 74, 75, 76, 77, 78, 79, 80, 81, 82, 83, 84, 85]) rfl
  replace Z := Z.cnv (t := 76) rfl (cond_t hc1); replace Z := Z.sub (ts := [0, 1, 4, 5, 6, 8, 10, 12, 14, 37, 38, 39, 40, 41, 42, 43, 44, 45, 46, 47, 48, 49, 50, 51, 52, 53, 54, 55, 56, 57, 58, 59, 60, 61, 62, 63, 64, 65, 66, 67, 68, 69, 70, 71, 72, 73, 74, 75, 76, 77, 78, 79, 80, 81, 82, 83, 84, 85]) rfl
  replace Z := Z.cnv (t := 77) rfl (cond_t hc1); replace Z := Z.sub (ts := [0, 1, 4, 5, 6, 8, 10, 12, 14, 37, 38, 39, 40, 41, 42, 43, 44, 45, 46, 47, 48, 49, 50, 51, 52, 53, 54, 55, 56, 57, 58, 59, 60, 61, 62, 63, 64, 65, 66, 67, 68, 69, 70, 71, 72, 73, 74, 75, 76, 77, 78, 79, 80, 81, 82, 83, 84, 85]) rfl
  replace Z := Z.cnv (t := 78) rfl (cond_t hc1); replace Z := Z.sub (ts := [0, 1, 4, 5, 6, 8, 10, 12, 14, 37, 38, 39, 40, 41, 42, 43, 44, 45, 46, 47, 48, 49, 50, 51, 52, 53, 54, 55, 56, 57, 58, 59, 60, 61, 62, 63, 64, 65, 66, 67, 68, 69, 70, 71, 72, 73, 74, 75, 76, 77, 78, 79, 80, 81, 82, 83, 84, 85]) rfl
  replace Z := Z.cnv (t := 79) rfl (cond_t hc1); replace Z := Z.sub (ts := [0, 1, 4, 5, 6, 8, 10, 12, 14, 37, 38, 39, 40, 41, 42, 43, 44, 45, 46, 47, 48, 49, 50, 51, 52, 53, 54, 55, 56, 57, 58, 59, 60, 61, 62, 63, 64, 65, 66, 67, 68, 69, 70, 71, 72, 73, 74, 75, 76, 77, 78, 79, 80, 81, 82, 83, 84, 85]) rfl
  replace Z := Z.cnv (t := 80) rfl (cond_t hc1); replace Z := Z.sub (ts := [0, 1, 4, 5, 6, 8, 10, 12, 14, 37, 38, 39, 40, 41, 42, 43, 44, 45, 46, 47, 48, 49, 50, 51, 52, 53, 54, 55, 56, 57, 58, 59, 60, 61, 62, 63, 64, 65, 66, 67, 68, 69, 70, 71, 72, 73, 74, 75, 76, 77, 78, 79, 80, 81, 82, 83, 84, 85]) rfl
  replace Z := Z.cnv (t := 81) rfl (cond_t hc1); replace Z := Z.sub (ts := [0, 1, 4, 5, 6, 8, 10, 12, 14, 37, 38, 39, 40, 41, 42, 43, 44, 45, 46, 47, 48, 49, 50, 51, 52, 53, 54, 55, 56, 57, 58, 59, 60, 61, 62, 63, 64, 65, 66, 67, 68, 69, 70, 71, 72, 73, 74, 75, 76, 77, 78, 79, 80, 81, 82, 83, 84, 85]) rfl
  replace Z := Z.cnv (t := 82) rfl (cond_t hc1); replace Z := Z.sub (ts := [0, 1, 4, 5, 6, 8, 10, 12, 14, 37, 38, 39, 40, 41, 42, 43, 44, 45, 46, 47, 48, 49, 50, 51, 52, 53, 54, 55, 56, 57, 58, 59, 60, 61, 62, 63, 64, 65, 66, 67, 68, 69, 70, 71, 72, 73, 74, 75, 76, 77, 78, 79, 80, 81, 82, 83, 84, 85]) rfl
  replace Z := Z.cnv (t := 83) rfl (cond_t hc1); replace Z := Z.sub (ts := [0, 1, 4, 5, 6, 8, 10, 12, 14, 37, 38, 39, 40, 41, 42, 43, 44, 45, 46, 47, 48, 49, 50, 51, 52, 53, 54, 55, 56, 57, 58, 59, 60, 61, 62, 63, 64, 65, 66, 67, 68, 69, 70, 71, 72, 73, 74, 75, 76, 77, 78, 79, 80, 81, 82, 83, 84, 85]) rfl
  replace Z := Z.cnv (t := 84) rfl (cond_t hc1); replace Z := Z.sub (ts := [0, 1, 4, 5, 6, 8, 10, 12, 14, 37, 38, 39, 40, 41, 42, 43, 44, 45, 46, 47, 48, 49, 50, 51, 52, 53, 54, 55, 56, 57, 58, 59, 60, 61, 62, 63, 64, 65, 66, 67, 68, 69, 70, 71, 72, 73, 74, 75, 76, 77, 78, 79, 80, 81, 82, 83, 84, 85]) rfl
  replace Z := Z.cnv (t := 85) rfl (cond_t hc1); replace Z := Z.sub (ts := [0, 1, 4, 5, 6, 8, 10, 12, 14, 37, 38, 39, 40, 41, 42, 43, 44, 45, 46, 47, 48, 49, 50, 51, 52, 53, 54, 55, 56, 57, 58, 59, 60, 61, 62, 63, 64, 65, 66, 67, 68, 69, 70, 71, 72, 73, 74, 75, 76, 77, 78, 79, 80, 81, 82, 83, 84, 85]) rfl
  obtain ⟨n0_7, hx13, hF⟩ := bnd_in hF
  obtain ⟨hg4, hF⟩ := chk_in hF
  obtain ⟨k_2, hx14, hF⟩ := bnd_in hF
  obtain ⟨hg5, hF⟩ := chk_in hF
  obtain ⟨a0, hx15, hF⟩ := bnd_in hF
  refine g_if Z rfl rfl rfl (p := true) rfl rfl (by decide) (fun _ => ?_) (fun h => by cases h)
  refine h_call Z H (js := []) rfl (caps := #[]) fn_12_YTreeZ rfl rfl rfl rfl rfl (by decide) rfl rfl (fun D1 hS => have hq := c_tree_Tree_int_Keys_nil hx13 hS; hq) ?_; clear Z a; intro vv a w14 D2 hr hF2 Z
  obtain ⟨q1, hvv, I10, K⟩ := hr; obtain rfl := hvv.symm
  have H : Hf I D w I10 w14 [SlC NS q1 n0_7, OEtree_Tree_int b1 (cond (((!n0_3) && (!p.1)) && (!n0_4)) d.2 (cond (!n0_3) p.2 s0.2.2))] := hF2 K
  clear hF2 K
  refine g_if Z rfl rfl rfl (p := true) rfl rfl (by decide) (fun _ => ?_) (fun h => by cases h)
  refine s_ob Z (v := .int .i64 (n0_7.length : Int)) rfl rfl (by decide) rfl (Ob_slen tTreeZ rfl rfl rfl (H.slshape 0 rfl)) ?_; clear Z a; intro a Z
  refine g_if Z rfl rfl rfl (p := true) rfl rfl (by decide) (fun _ => ?_) (fun h => by cases h)
  refine s_ob Z (v := .int .i64 (n0_5 + l + n0_6 + d_2 + (n0_7.length : Int))) rfl rfl (by decide) rfl (Ob_add rfl rfl rfl (wrI hg4)) ?_; clear Z a; intro a Z
  refine g_if Z rfl rfl rfl (p := true) rfl rfl (by decide) (fun _ => ?_) (fun h => by cases h)
  refine h_call Z H (js := [(1, false)]) rfl (caps := #[]) fn_12_YTreeZ rfl rfl rfl rfl rfl (by decide) rfl rfl (fun D1 hS => have hq := c_tree_Tree_int_Keys hx14 hS; hq) ?_; clear Z a; intro vv a w15 D2 hr hF2 Z
  obtain ⟨q2, hvv, I11, K⟩ := hr; obtain rfl := hvv.symm
  have H : Hf I D w I11 w15 [OEtree_Tree_int b1 k_2.2, SlC NS q2 k_2.1, SlC NS q1 n0_7] := hF2 K
  clear hF2 K
  refine g_if Z rfl rfl rfl (p := true) rfl rfl (by decide) (fun _ => ?_) (fun h => by cases h)
  refine s_ob Z (v := .int .i64 (k_2.1.length : Int)) rfl rfl (by decide) rfl (Ob_slen tTreeZ rfl rfl rfl (H.slshape 1 rfl)) ?_; clear Z a; intro a Z
  refine g_if Z rfl rfl rfl (p := true) rfl rfl (by decide) (fun _ => ?_) (fun h => by cases h)
  refine s_ob Z (v := .int .i64 (n0_5 + l + n0_6 + d_2 + (n0_7.length : Int) + (k_2.1.length : Int))) rfl rfl (by decide) rfl (Ob_add rfl rfl rfl (wrI hg5)) ?_; clear Z a; intro a Z
  refine g_if Z rfl rfl rfl (p := true) rfl rfl (by decide) (fun _ => ?_) (fun h => by cases h)
  refine s_runk tTreeZ Z 1 rfl rfl ?_; clear Z a; intro a Z
  refine s_ob Z (v := .bool ((n0_5 + l + n0_6 + d_2 + (n0_7.length : Int) + (k_2.1.length : Int)) == 0)) rfl rfl (by decide) rfl (Ob_pick rfl rfl rfl rfl rfl) ?_; clear Z a; intro a Z
  refine s_runk tTreeZ Z 1 rfl rfl ?_; clear Z a; intro a Z
  refine g_call Z (p := ((n0_5 + l + n0_6 + d_2 + (n0_7.length : Int) + (k_2.1.length : Int)) == 0)) (v := .bool a0) (S' := []) (caps := #[]) fn_14_YTreeZ rfl rfl rfl (wantB_t _) rfl (by decide) (fun hp hS => hS.sub (ts := []) rfl) rfl rfl rfl rfl (fun hp => have hq := c_law15_awake (gif_in hx15 hp) (H.pick0 (js := []) rfl rfl); plainC hq) ?_; clear Z a; intro a w16 hb Z
  replace H : Hf I D w I11 w16 [OEtree_Tree_int b1 k_2.2, SlC NS q2 k_2.1, SlC NS q1 n0_7] := H.blw hb
  clear hb
  refine s_ob Z (v := .bool (((n0_5 + l + n0_6 + d_2 + (n0_7.length : Int) + (k_2.1.length : Int)) == 0) && a0)) rfl rfl (by decide) rfl (Ob_pick rfl rfl rfl rfl (pick_and _ _)) ?_; clear Z a; intro a Z
  refine s_runk tTreeZ Z 1 rfl rfl ?_; clear Z a; intro a Z
  refine s_end Z [4] rfl ?_; clear Z; intro Z
  refine p_then (wp_ret ?_)
  obtain rfl := some_in hF
  exact f_ret Z (run_results1 rfl Z rfl) ⟨rfl, I11, (H.sub [] rfl).eq rfl⟩
 ·replace hF := ite_f hc1 hF; replace Z := Z.cnv (t := 75) rfl (show Value.bool ((((((((!n0_3) && (!p.1)) && (!n0_4)) && (!d.1)) && (!n0.2)) && (!g.2)) && (!n0_2.2)) && (!s0.2.1)) = .bool false from congrArg Value.bool hc1); replace Z := Z.sub (ts := [0, 1, 4, 5, 6, 8, 10, 12, 14, 37, 38, 39, 40, 41, 42, 43, 44, 45, 46, 47, 48, 49, 50, 51, 52, 53, 54, 55, 56, 57, 58, 59, 60, 61, 62, 63, 64, 65, 66, 67, 68, 69, 70, 71, 72, 73, 74, 75, 76, 77, 78, 79, 80, 81, 82, 83, 84, 85]) rfl
  refine g_if Z rfl rfl rfl (p := false) rfl rfl (by decide) (fun h => by cases h) ?_; clear Z; intro _ a Z
  refine g_if Z rfl rfl rfl (p := false) rfl rfl (by decide) (fun h => by cases h) ?_; clear Z; intro _ a Z
  refine g_if Z rfl rfl rfl (p := false) rfl rfl (by decide) (fun h => by cases h) ?_; clear Z; intro _ a Z
  refine g_if Z rfl rfl rfl (p := false) rfl rfl (by decide) (fun h => by cases h) ?_; clear Z; intro _ a Z
  refine g_if Z rfl rfl rfl (p := false) rfl rfl (by decide) (fun h => by cases h) ?_; clear Z; intro _ a Z
  refine g_if Z rfl rfl rfl (p := false) rfl rfl (by decide) (fun h => by cases h) ?_; clear Z; intro _ a Z
  refine g_if Z rfl rfl rfl (p := false) rfl rfl (by decide) (fun h => by cases h) ?_; clear Z; intro _ a Z
  refine s_ob Z (v := .bool false) rfl rfl (by decide) rfl (Ob_pick rfl rfl rfl rfl rfl) ?_; clear Z a; intro a Z
  refine s_runk tTreeZ Z 1 rfl rfl ?_; clear Z a; intro a Z
  refine g_if Z rfl rfl rfl (p := false) rfl rfl (by decide) (fun h => by cases h) ?_; clear Z; intro _ a Z
  refine s_ob Z (v := .bool false) rfl rfl (by decide) rfl (Ob_pick rfl rfl rfl rfl rfl) ?_; clear Z a; intro a Z
  refine s_runk tTreeZ Z 1 rfl rfl ?_; clear Z a; intro a Z
  refine s_end Z [4] rfl ?_; clear Z; intro Z
  refine p_then (wp_ret ?_)
  obtain rfl := some_in hF
  exact f_ret Z (run_results1 rfl Z rfl) ⟨rfl, I9, (H.sub [] rfl).eq rfl⟩

end Go.Proofs.Ytfcdghlgcnjkoaa
