/- Trees: the document's. -/
import Derived.Test.YtfcdghlgcnjkoaaYTree1
import Derived.Test.YtfcdghlgcnjkoaaYS
namespace Go.Proofs.Ytfcdghlgcnjkoaa
open Go.RowKit
structure Eruntime_boundsError where
 x : Int
 y : Int
 signed : Bool
 code : Int

instance : Inhabited Eruntime_boundsError := ⟨⟨0, 0, false, 0⟩⟩

def cEruntime_boundsError (x : Eruntime_boundsError) : List Value := [.int .i64 x.x, .int .i64 x.y, .bool x.signed, .int .u8 x.code]

def NEruntime_boundsError : Rp Eruntime_boundsError := Rp.flat 4 (fun _ => True) (fun x => cEruntime_boundsError x) (fun _ => rfl) (fun x c hc => by simp only [cEruntime_boundsError, List.mem_cons, List.not_mem_nil, or_false] at hc; rcases hc with rfl | rfl | rfl | rfl <;> rfl)

structure Eruntime_errorAddressString where
 msg : ByteArray
 addr : Int

instance : Inhabited Eruntime_errorAddressString := ⟨⟨ByteArray.empty, 0⟩⟩

structure Eref15_Row where
 k : ByteArray
 v : Int

instance : Inhabited Eref15_Row := ⟨⟨ByteArray.empty, 0⟩⟩

def cEref15_Row (x : Eref15_Row) : List Value := [.string x.k, .int .i64 x.v]

def NEref15_Row : Rp Eref15_Row := Rp.flat 2 (fun _ => True) (fun x => cEref15_Row x) (fun _ => rfl) (fun x c hc => by simp only [cEref15_Row, List.mem_cons, List.not_mem_nil, or_false] at hc; rcases hc with rfl | rfl <;> rfl)

theorem NEref15_Row.isFlat : NEref15_Row.Flat := Rp.flat_flat _ _ _ _ _

structure Eref15_Tree where
 l : List Eref15_Row

instance : Inhabited Eref15_Tree := ⟨⟨[]⟩⟩

def cEref15_Tree (x : Eref15_Tree) (v0 : Value) : List Value := [v0]

def OEref15_Tree (b : Nat) (x : Eref15_Tree) : Ch := ExC fun (p : Value) => [BxC b 38 (cEref15_Tree x p), OwC NEref15_Row 60 p x.l]

def tTree2L : TabL := ⟨[(38912, 0), (61440, 0), (61441, 1)], [], [], [(22, (9, 1)), (36, (60, 2))], [(3, (1, false)), (9, (1, false)), (36, (1, false))]⟩

def tTree2 : Tab Try.prog := ⟨tTree2L, by kernel_rfl⟩

theorem fn_27_YTree2 : IsFn Try.prog 27 := ⟨_, Try.func27, by kernel_rfl, by kernel_rfl⟩

theorem fn_29_YTree2 : IsFn Try.prog 29 := ⟨_, Try.func29, by kernel_rfl, by kernel_rfl⟩

theorem E_22_YTree2 : Elem Try.prog 22 9 1 16 := ⟨Try.underlying22, by
 have h : (Try.prog.info? 9).map (fun i => (i.zero, i.size, i.bytes)) = some (some (.string ByteArray.empty), 1, 16) := by kernel_rfl
 obtain ⟨i, hi, h1⟩ := Option.map_eq_some_iff.1 h
 simp only [Prod.mk.injEq] at h1
 exact ⟨i, _, hi, h1.1, h1.2.1, h1.2.2, by rfl⟩, by decide⟩

theorem E_36_YTree2 : Elem Try.prog 36 60 2 24 := ⟨Try.underlying36, by
 have h : (Try.prog.info? 60).map (fun i => (i.zero, i.size, i.bytes)) = some (some (.agg #[.string ByteArray.empty, .int .i64 0]), 2, 24) := by kernel_rfl
 obtain ⟨i, hi, h1⟩ := Option.map_eq_some_iff.1 h
 simp only [Prod.mk.injEq] at h1
 exact ⟨i, _, hi, h1.1, h1.2.1, h1.2.2, by rfl⟩, by decide⟩

def F_ref15_Tree_at_l1 (t : Eref15_Tree) (k : ByteArray) (rc : Int → Option (Int × Bool)) (sg : Int) : Option (Int × Bool) := match sg with | i => chk ((decide (i < (t.l.length : Int))) = true → (0 : Int) ≤ i ∧ i < (t.l.length : Int)) (if ((decide (i < (t.l.length : Int))) && (sltB ((t.l.getD (i).toNat default).k) k)) = true then (chk (inI (i + 1)) (rc (i + 1))) else (chk ((decide (i < (t.l.length : Int))) = true → (0 : Int) ≤ i ∧ i < (t.l.length : Int)) (some (i, (decide (i < (t.l.length : Int))) && (seqB ((t.l.getD (i).toNat default).k) k)))))

def F_ref15_Tree_at (t : Eref15_Tree) (k : ByteArray) : Option (Int × Bool) := iter (F_ref15_Tree_at_l1 t k) FU 0

set_option maxHeartbeats 1000000 in
theorem c_ref15_Tree_at {I D : Dm} {b_t : Nat} {t : Eref15_Tree} {k : ByteArray} {w : World} {rr : Int × Bool} (hF : F_ref15_Tree_at t k = some rr) (H : St I D w [OEref15_Tree b_t t]) :
  Calls Try.prog 27 #[.pointer (some ⟨b_t, 0, none⟩), .string k] w (Ret fun vv w' => vv = .tuple #[.int .i64 rr.1, .bool rr.2] ∧ ∃ I', Hf I D w I' w' [OEref15_Tree b_t t]) := by
 replace H := H.hf
 unfold F_ref15_Tree_at at hF
 refine f_enter 48 Try.func27 rfl rfl (Nat.le_of_ble_eq_true rfl) fun a Z => ?_
 replace Z := Z.sub (ts := [0, 1]) rfl
 refine wp_seq (f_region Z ?_); clear Z; intro Z
 refine s_runk tTree2 Z 2 rfl rfl ?_; clear Z a; intro a Z
 refine s_end Z [0, 1, 4, 5] rfl ?_; clear Z; intro Z
 refine p_then (wp_seq (f_region Z ?_)); clear Z; intro Z
 refine s_runk tTree2 Z 1 rfl rfl ?_; clear Z a; intro a Z
 refine s_end Z [0, 1, 4, 5, 6] rfl ?_; clear Z; intro Z
 refine p_then (wp_seq ?_)
 refine wp_block ?_
 refine f_iter hF (fun sg a' w' => match sg with | i => Sl 48 [(0, .pointer (some ⟨b_t, 0, none⟩)), (1, .string k), (4, .int .i64 0), (5, .bool false), (6, .int .i64 i)] a' ∧ ∃ I2, Hf I D w I2 w' [OEref15_Tree b_t t]) ⟨Z.sub (ts := [0, 1, 4, 5, 6]) rfl, ⟨I, (H.sub [(0, false)] rfl).eq rfl⟩⟩ ?_
 clear Z H hF a
 rintro rc i a w1 ⟨Z, I1, H⟩ hF
 unfold F_ref15_Tree_at_l1 at hF
 try dsimp only at hF
 refine wp_seq ?_
 refine wp_seq ?_
 obtain ⟨hg1, hF⟩ := chk_in hF
 refine f_region Z ?_; clear Z; intro Z
 refine s_runk tTree2 Z 4 rfl rfl ?_; clear Z a; intro a Z
 obtain ⟨v1, H⟩ := H.openX 0 rfl
 replace H : Hf I D w I1 w1 [BxC b_t 38 [v1], OwC NEref15_Row 60 v1 t.l] := H
 refine s_ob Z (v := v1) rfl rfl (by decide) rfl (Ob_load tTree2 rfl rfl rfl ((H.bx 0 rfl).cell 0 rfl)) ?_; clear Z a; intro a Z
 refine s_ob Z (v := .int .i64 (t.l.length : Int)) rfl rfl (by decide) rfl (Ob_slen tTree2 rfl rfl rfl (H.owshape 1 rfl)) ?_; clear Z a; intro a Z
 refine s_runk tTree2 Z 2 rfl rfl ?_; clear Z a; intro a Z
 refine g_ob Z (p := (decide (i < (t.l.length : Int)))) (v := .pointer (some ⟨b_t, 0, none⟩)) (S' := [(0, .pointer (some ⟨b_t, 0, none⟩))]) rfl rfl rfl (wantB_t _) rfl (by decide) (fun hp hS => hS.sub (ts := [0]) rfl) (fun hp => Ob_c tTree2 rfl) ?_; clear Z a; intro a Z
 refine g_ob Z (p := (decide (i < (t.l.length : Int)))) (v := .pointer (some ⟨b_t, 0, none⟩)) (S' := [(15, .pointer (some ⟨b_t, 0, none⟩))]) rfl rfl rfl (wantB_t _) rfl (by decide) (fun hp hS => (hS.conv (t := 15) rfl (cond_t hp)).sub (ts := [15]) rfl) (fun hp => Ob_c tTree2 rfl) ?_; clear Z a; intro a Z
 refine g_ob Z (p := (decide (i < (t.l.length : Int)))) (v := .pointer (some ⟨b_t, 0, none⟩)) (S' := [(16, .pointer (some ⟨b_t, 0, none⟩))]) rfl rfl rfl (wantB_t _) rfl (by decide) (fun hp hS => (hS.conv (t := 16) rfl (cond_t hp)).sub (ts := [16]) rfl) (fun hp => Ob_c tTree2 rfl) ?_; clear Z a; intro a Z
 refine g_ob Z (p := (decide (i < (t.l.length : Int)))) (v := v1) (S' := [(17, .pointer (some ⟨b_t, 0, none⟩))]) rfl rfl rfl (wantB_t _) rfl (by decide) (fun hp hS => (hS.conv (t := 17) rfl (cond_t hp)).sub (ts := [17]) rfl) (fun hp => Ob_load tTree2 rfl rfl rfl ((H.bx 0 rfl).cell 0 rfl)) ?_; clear Z a; intro a Z
 refine g_ob Z (p := (decide (i < (t.l.length : Int)))) (v := .int .i64 i) (S' := [(6, .int .i64 i)]) rfl rfl rfl (wantB_t _) rfl (by decide) (fun hp hS => hS.sub (ts := [6]) rfl) (fun hp => Ob_c tTree2 rfl) ?_; clear Z a; intro a Z
 refine g_ob Z (p := (decide (i < (t.l.length : Int)))) (v := .pointer (some ⟨blkOf v1, oofOf v1 + (i).toNat * 2, none⟩)) (S' := [(18, v1), (19, .int .i64 i)]) rfl rfl rfl (wantB_t _) rfl (by decide) (fun hp hS => ((hS.conv (t := 18) rfl (cond_t hp)).conv (t := 19) rfl (cond_t hp)).sub (ts := [18, 19]) rfl) (fun hp => Ob_sidx tTree2 rfl rfl rfl rfl (slPl (H.owA 1 rfl) (hg1 hp)) (hg1 hp)) ?_; clear Z a; intro a Z
 refine g_ob Z (p := (decide (i < (t.l.length : Int)))) (v := .pointer (some ⟨blkOf v1, oofOf v1 + (i).toNat * 2, none⟩)) (S' := [(20, .pointer (some ⟨blkOf v1, oofOf v1 + (i).toNat * 2, none⟩))]) rfl rfl rfl (wantB_t _) rfl (by decide) (fun hp hS => (hS.conv (t := 20) rfl (cond_t hp)).sub (ts := [20]) rfl) (fun hp => Ob_c tTree2 rfl) ?_; clear Z a; intro a Z
 refine g_ob Z (p := (decide (i < (t.l.length : Int)))) (v := .string ((t.l.getD (i).toNat default).k)) (S' := [(21, .pointer (some ⟨blkOf v1, oofOf v1 + (i).toNat * 2, none⟩))]) rfl rfl rfl (wantB_t _) rfl (by decide) (fun hp hS => (hS.conv (t := 21) rfl (cond_t hp)).sub (ts := [21]) rfl) (fun hp => Ob_load tTree2 rfl rfl rfl ((slFl (H.owA 1 rfl) (hg1 hp)) 0 _ rfl)) ?_; clear Z a; intro a Z
 refine g_ob Z (p := (decide (i < (t.l.length : Int)))) (v := .string k) (S' := [(1, .string k)]) rfl rfl rfl (wantB_t _) rfl (by decide) (fun hp hS => hS.sub (ts := [1]) rfl) (fun hp => Ob_c tTree2 rfl) ?_; clear Z a; intro a Z
 refine g_ob Z (p := (decide (i < (t.l.length : Int)))) (v := .bool (sltB ((t.l.getD (i).toNat default).k) k)) (S' := [(22, .string ((t.l.getD (i).toNat default).k)), (23, .string k)]) rfl rfl rfl (wantB_t _) rfl (by decide) (fun hp hS => ((hS.conv (t := 22) rfl (cond_t hp)).conv (t := 23) rfl (cond_t hp)).sub (ts := [22, 23]) rfl) (fun hp => Ob_c tTree2 rfl) ?_; clear Z a; intro a Z
 refine s_ob Z (v := .bool ((decide (i < (t.l.length : Int))) && (sltB ((t.l.getD (i).toNat default).k) k))) rfl rfl (by decide) rfl (Ob_pick rfl rfl rfl rfl (pick_and _ _)) ?_; clear Z a; intro a Z
 refine s_end Z [0, 1, 4, 5, 6, 7, 8, 9, 10, 11, 12, 13, 14, 25] rfl ?_; clear Z; intro Z
 refine p_then ?_
 refine f_cond Z rfl (fun hc1 => ?_) (fun hc1 => ?_)
 ·replace hF := ite_t hc1 hF
  refine wp_skip ?_
  refine p_then (wp_block ?_)
  obtain ⟨hg2, hF⟩ := chk_in hF
  refine f_region Z ?_; clear Z; intro Z
  refine s_runk tTree2 Z 1 rfl rfl ?_; clear Z a; intro a Z
  refine s_ob Z (v := .int .i64 (i + 1)) rfl rfl (by decide) rfl (Ob_add rfl rfl rfl (wrI hg2)) ?_; clear Z a; intro a Z
  refine s_runk tTree2 Z 1 rfl rfl ?_; clear Z a; intro a Z
  refine s_end Z [0, 1, 4, 5, 6, 7, 8, 9, 10, 11, 12, 13, 14, 25, 26, 27] rfl ?_; clear Z; intro Z
  refine p_blk ?_
  refine p_then ?_
  replace H : Hf I D w I1 w1 [OEref15_Tree b_t t] := H.shutX (v1) [(0, false), (0, false)] rfl
  exact ⟨(i + 1), ⟨Z.sub (ts := [0, 1, 4, 5, 6]) rfl, ⟨I1, (H.sub [(0, false)] rfl).eq rfl⟩⟩, hF⟩
 ·replace hF := ite_f hc1 hF
  refine wp_exit ?_
  refine p_then_x ?_
  refine p_then_x ?_
  refine f_exit_here ?_
  refine p_then (wp_seq ?_)
  obtain ⟨hg3, hF⟩ := chk_in hF
  refine f_quietd (by kernel_rfl) (by kernel_rfl) Z ?_; clear Z; intro Z
  refine q_runk tTree2 Z 5 rfl rfl ?_; clear Z a; intro a Z
  refine q_ob Z (v := v1) rfl rfl (by decide) rfl (fun _ hw => Ob_load tTree2 rfl rfl rfl (((H.blw hw).bx 0 rfl).cell 0 rfl)) ?_; clear Z a; intro a Z
  refine q_ob Z (v := .int .i64 (t.l.length : Int)) rfl rfl (by decide) rfl (fun _ hw => Ob_slen tTree2 rfl rfl rfl ((H.blw hw).owshape 1 rfl)) ?_; clear Z a; intro a Z
  refine q_runk tTree2 Z 2 rfl rfl ?_; clear Z a; intro a Z
  refine gq_ob Z (p := (decide (i < (t.l.length : Int)))) (v := .pointer (some ⟨b_t, 0, none⟩)) (S' := [(0, .pointer (some ⟨b_t, 0, none⟩))]) rfl rfl rfl (wantB_t _) rfl (by decide) (fun hp hS => hS.sub (ts := [0]) rfl) (fun hp _ hw => Ob_c tTree2 rfl) ?_; clear Z a; intro a Z
  refine gq_ob Z (p := (decide (i < (t.l.length : Int)))) (v := .pointer (some ⟨b_t, 0, none⟩)) (S' := [(37, .pointer (some ⟨b_t, 0, none⟩))]) rfl rfl rfl (wantB_t _) rfl (by decide) (fun hp hS => (hS.conv (t := 37) rfl (cond_t hp)).sub (ts := [37]) rfl) (fun hp _ hw => Ob_c tTree2 rfl) ?_; clear Z a; intro a Z
  refine gq_ob Z (p := (decide (i < (t.l.length : Int)))) (v := .pointer (some ⟨b_t, 0, none⟩)) (S' := [(38, .pointer (some ⟨b_t, 0, none⟩))]) rfl rfl rfl (wantB_t _) rfl (by decide) (fun hp hS => (hS.conv (t := 38) rfl (cond_t hp)).sub (ts := [38]) rfl) (fun hp _ hw => Ob_c tTree2 rfl) ?_; clear Z a; intro a Z
  refine gq_ob Z (p := (decide (i < (t.l.length : Int)))) (v := v1) (S' := [(39, .pointer (some ⟨b_t, 0, none⟩))]) rfl rfl rfl (wantB_t _) rfl (by decide) (fun hp hS => (hS.conv (t := 39) rfl (cond_t hp)).sub (ts := [39]) rfl) (fun hp _ hw => Ob_load tTree2 rfl rfl rfl (((H.blw hw).bx 0 rfl).cell 0 rfl)) ?_; clear Z a; intro a Z
  refine gq_ob Z (p := (decide (i < (t.l.length : Int)))) (v := .int .i64 i) (S' := [(6, .int .i64 i)]) rfl rfl rfl (wantB_t _) rfl (by decide) (fun hp hS => hS.sub (ts := [6]) rfl) (fun hp _ hw => Ob_c tTree2 rfl) ?_; clear Z a; intro a Z
  refine gq_ob Z (p := (decide (i < (t.l.length : Int)))) (v := .pointer (some ⟨blkOf v1, oofOf v1 + (i).toNat * 2, none⟩)) (S' := [(40, v1), (41, .int .i64 i)]) rfl rfl rfl (wantB_t _) rfl (by decide) (fun hp hS => ((hS.conv (t := 40) rfl (cond_t hp)).conv (t := 41) rfl (cond_t hp)).sub (ts := [40, 41]) rfl) (fun hp _ hw => Ob_sidx tTree2 rfl rfl rfl rfl (slPl ((H.blw hw).owA 1 rfl) (hg3 hp)) (hg3 hp)) ?_; clear Z a; intro a Z
  refine gq_ob Z (p := (decide (i < (t.l.length : Int)))) (v := .pointer (some ⟨blkOf v1, oofOf v1 + (i).toNat * 2, none⟩)) (S' := [(42, .pointer (some ⟨blkOf v1, oofOf v1 + (i).toNat * 2, none⟩))]) rfl rfl rfl (wantB_t _) rfl (by decide) (fun hp hS => (hS.conv (t := 42) rfl (cond_t hp)).sub (ts := [42]) rfl) (fun hp _ hw => Ob_c tTree2 rfl) ?_; clear Z a; intro a Z
  refine gq_ob Z (p := (decide (i < (t.l.length : Int)))) (v := .string ((t.l.getD (i).toNat default).k)) (S' := [(43, .pointer (some ⟨blkOf v1, oofOf v1 + (i).toNat * 2, none⟩))]) rfl rfl rfl (wantB_t _) rfl (by decide) (fun hp hS => (hS.conv (t := 43) rfl (cond_t hp)).sub (ts := [43]) rfl) (fun hp _ hw => Ob_load tTree2 rfl rfl rfl ((slFl ((H.blw hw).owA 1 rfl) (hg3 hp)) 0 _ rfl)) ?_; clear Z a; intro a Z
  refine gq_ob Z (p := (decide (i < (t.l.length : Int)))) (v := .string k) (S' := [(1, .string k)]) rfl rfl rfl (wantB_t _) rfl (by decide) (fun hp hS => hS.sub (ts := [1]) rfl) (fun hp _ hw => Ob_c tTree2 rfl) ?_; clear Z a; intro a Z
  refine gq_ob Z (p := (decide (i < (t.l.length : Int)))) (v := .bool (seqB ((t.l.getD (i).toNat default).k) k)) (S' := [(44, .string ((t.l.getD (i).toNat default).k)), (45, .string k)]) rfl rfl rfl (wantB_t _) rfl (by decide) (fun hp hS => ((hS.conv (t := 44) rfl (cond_t hp)).conv (t := 45) rfl (cond_t hp)).sub (ts := [44, 45]) rfl) (fun hp _ hw => Ob_c tTree2 rfl) ?_; clear Z a; intro a Z
  refine q_ob Z (v := .bool ((decide (i < (t.l.length : Int))) && (seqB ((t.l.getD (i).toNat default).k) k))) rfl rfl (by decide) rfl (fun _ hw => Ob_pick rfl rfl rfl rfl (pick_and _ _)) ?_; clear Z a; intro a Z
  refine q_runk tTree2 Z 2 rfl rfl ?_; clear Z a; intro a Z
  refine q_end Z [4, 5] rfl ?_; clear Z; intro w2 hb Z
  replace H : Hf I D w I1 w2 [BxC b_t 38 [v1], OwC NEref15_Row 60 v1 t.l] := H.blw hb
  clear hb
  refine p_then (wp_ret ?_)
  replace H : Hf I D w I1 w2 [OEref15_Tree b_t t] := H.shutX (v1) [(0, false), (0, false)] rfl
  obtain rfl := some_in hF
  exact f_ret Z (run_results2 rfl Z rfl rfl) ⟨rfl, I1, (H.sub [(0, false)] rfl).eq rfl⟩

def F_ref15_Tree_Put (t : Eref15_Tree) (k : ByteArray) (v : Int) : Option (Bool × Eref15_Tree) := (F_ref15_Tree_at t k).bind fun a0 => (if (a0.2) = true then (chk ((0 : Int) ≤ a0.1 ∧ a0.1 < (t.l.length : Int)) (some (true, ({ l := t.l.set (a0.1).toNat ({ (t.l.getD (a0.1).toNat default) with v := v } : Eref15_Row) } : Eref15_Tree)))) else (chk ((0 : Int) ≤ a0.1 ∧ a0.1 ≤ (t.l.length : Int)) (chk (((([] : List Eref15_Row).length + (t.l.take ((a0.1).toNat)).length : Nat) : Int) * 24 ≤ 140737488355328) (chk (((([] ++ (t.l.take ((a0.1).toNat))).length + [({ k := k, v := v } : Eref15_Row)].length : Nat) : Int) * 24 ≤ 140737488355328) (chk ((0 : Int) ≤ a0.1 ∧ a0.1 ≤ (t.l.length : Int)) (chk ((((([] ++ (t.l.take ((a0.1).toNat))) ++ [({ k := k, v := v } : Eref15_Row)]).length + (t.l.drop ((a0.1).toNat)).length : Nat) : Int) * 24 ≤ 140737488355328) (some (false, ({ l := (([] ++ (t.l.take ((a0.1).toNat))) ++ [({ k := k, v := v } : Eref15_Row)]) ++ (t.l.drop ((a0.1).toNat)) } : Eref15_Tree)))))))))

set_option maxHeartbeats 1000000 in
theorem c_ref15_Tree_Put {I D : Dm} {b_t : Nat} {t : Eref15_Tree} {k : ByteArray} {v : Int} {w : World} {rr : Bool × Eref15_Tree} (hF : F_ref15_Tree_Put t k v = some rr) (H : St I D w [OEref15_Tree b_t t]) :
  Calls Try.prog 15 #[.pointer (some ⟨b_t, 0, none⟩), .string k, .int .i64 v] w (Ret fun vv w' => vv = .bool rr.1 ∧ ∃ I', Hf I D w I' w' [OEref15_Tree b_t rr.2]) := by
 replace H := H.hf
 unfold F_ref15_Tree_Put at hF
 refine f_enter 50 Try.func15 rfl rfl (Nat.le_of_ble_eq_true rfl) fun a Z => ?_
 replace Z := Z.sub (ts := [0, 1, 2]) rfl
 refine wp_seq (f_region Z ?_); clear Z; intro Z
 refine s_runk tTree2 Z 1 rfl rfl ?_; clear Z a; intro a Z
 refine s_end Z [0, 1, 2, 6] rfl ?_; clear Z; intro Z
 refine p_then (wp_seq ?_)
 obtain ⟨a0, hx1, hF⟩ := bnd_in hF
 refine f_region Z ?_; clear Z; intro Z
 refine s_runk tTree2 Z 2 rfl rfl ?_; clear Z a; intro a Z
 refine h_call Z H (js := [(0, false)]) rfl (caps := #[]) fn_27_YTree2 rfl rfl rfl rfl rfl (by decide) rfl rfl (fun D1 hS => have hq := c_ref15_Tree_at hx1 hS; hq) ?_; clear Z a; intro vv a w1 D2 hr hF2 Z
 obtain ⟨rfl, I1, K⟩ := hr
 have H : Hf I D w I1 w1 [OEref15_Tree b_t t] := hF2 K
 clear hF2 K
 refine s_runk tTree2 Z 5 rfl rfl ?_; clear Z a; intro a Z
 refine s_end Z [0, 1, 2, 6, 7, 8] rfl ?_; clear Z; intro Z
 refine p_then (wp_seq ?_)
 refine wp_seq (f_region Z ?_); clear Z; intro Z
 refine s_runk tTree2 Z 1 rfl rfl ?_; clear Z a; intro a Z
 refine s_end Z [0, 1, 2, 6, 7, 16] rfl ?_; clear Z; intro Z
 refine p_then ?_
 refine f_cond Z rfl (fun hc1 => ?_) (fun hc1 => ?_)
 ·replace hF := ite_t hc1 hF
  refine wp_seq ?_
  obtain ⟨hg1, hF⟩ := chk_in hF
  refine f_region Z ?_; clear Z; intro Z
  refine s_runk tTree2 Z 3 rfl rfl ?_; clear Z a; intro a Z
  obtain ⟨v1, H⟩ := H.openX 0 rfl
  replace H : Hf I D w I1 w1 [BxC b_t 38 [v1], OwC NEref15_Row 60 v1 t.l] := H
  refine s_ob Z (v := v1) rfl rfl (by decide) rfl (Ob_load tTree2 rfl rfl rfl ((H.bx 0 rfl).cell 0 rfl)) ?_; clear Z a; intro a Z
  refine s_runk tTree2 Z 2 rfl rfl ?_; clear Z a; intro a Z
  refine s_ob Z (v := .pointer (some ⟨blkOf v1, oofOf v1 + (a0.1).toNat * 2, none⟩)) rfl rfl (by decide) rfl (Ob_sidx tTree2 rfl rfl rfl rfl (slPl (H.owA 1 rfl) hg1) hg1) ?_; clear Z a; intro a Z
  refine s_runk tTree2 Z 1 rfl rfl ?_; clear Z a; intro a Z
  refine h_setv tTree2 Z H 1 (z := a0.1) (d := default) 1 ({ (t.l.getD (a0.1).toNat default) with v := v } : Eref15_Row) rfl NEref15_Row.isFlat hg1 rfl rfl rfl 2 rfl rfl rfl rfl rfl (by decide) (fun cl h => ⟨by rw [h.1]; rfl, trivial⟩) ?_; clear H; intro w3 H
  dsimp only [List.eraseIdx] at H
  refine s_end Z [0, 1, 2, 6, 7] rfl ?_; clear Z; intro Z
  refine p_then (wp_seq (f_region Z ?_)); clear Z; intro Z
  refine s_runk tTree2 Z 1 rfl rfl ?_; clear Z a; intro a Z
  refine s_end Z [0, 1, 2, 6, 7] rfl ?_; clear Z; intro Z
  refine p_then (wp_ret ?_)
  refine p_then_r ?_
  replace H : Hf I D w I1 w3 [OEref15_Tree b_t ({ l := t.l.set (a0.1).toNat ({ (t.l.getD (a0.1).toNat default) with v := v } : Eref15_Row) } : Eref15_Tree)] := H.shutX (v1) [(1, false), (0, false)] rfl
  obtain rfl := some_in hF
  exact f_ret Z (run_results1 rfl Z rfl) ⟨rfl, I1, (H.sub [(0, false)] rfl).eq rfl⟩
 ·replace hF := ite_f hc1 hF
  refine wp_skip ?_
  refine p_then (wp_seq ?_)
  obtain ⟨hg2, hF⟩ := chk_in hF
  obtain ⟨hg3, hF⟩ := chk_in hF
  obtain ⟨hg4, hF⟩ := chk_in hF
  refine f_region Z ?_; clear Z; intro Z
  refine h_bslice Z H (vs := []) (cl := []) (e := 60) rfl rfl rfl (by decide) rfl rfl (fun w => run_bslice (z := .agg #[.string ByteArray.empty, .int .i64 0]) (m := 2) Try.underlying36 (by kernel_rfl) rfl rfl (by decide) (by simp [Instr.fill, Value.cells]) w) ?_; clear Z a H; intro a w4 b1 H Z
  refine s_runk tTree2 Z 3 rfl rfl ?_; clear Z a; intro a Z
  obtain ⟨v2, H⟩ := H.openX 1 rfl
  replace H : Hf I D w I1 w4 [BxC b_t 38 [v2], OwC NEref15_Row 60 v2 t.l, BxC b1 60 []] := H
  refine s_ob Z (v := v2) rfl rfl (by decide) rfl (Ob_load tTree2 rfl rfl rfl ((H.bx 0 rfl).cell 0 rfl)) ?_; clear Z a; intro a Z
  refine s_runk tTree2 Z 1 rfl rfl ?_; clear Z a; intro a Z
  refine s_ob Z (v := subV v2 0 ((a0.1).toNat) 2) rfl rfl (by decide) rfl (Ob_sub_to tTree2 rfl rfl rfl rfl (H.owshape 1 rfl) hg2) ?_; clear Z a; intro a Z
  replace H : Hf I D w I1 w4 [OwC NEref15_Row 60 (.slice (some ⟨b1, 0, none⟩) 0 0) [], BxC b_t 38 [v2], OwC NEref15_Row 60 v2 t.l] := H.emptyow 2 rfl NEref15_Row
  refine h_appO Z H 0 E_36_YTree2 (t.l.take ((a0.1).toNat)) rfl rfl rfl rfl rfl (by decide) rfl rfl rfl ((H.ow2 2 rfl).part_to hg2 2 rfl) hg3 (by decide) ?_; clear Z a H; intro v3 a w5 H Z
  dsimp only [List.eraseIdx] at H
  refine s_runk tTree2 Z 2 rfl rfl ?_; clear Z a; intro a Z
  refine s_ob Z (v := .agg #[.string k, .int .i64 v]) rfl rfl (by decide) rfl (Ob_build (vs := [(0, .string k), (1, .int .i64 v)]) rfl rfl (by go_simp <;> rfl)) ?_; clear Z a; intro a Z
  refine h_bslice Z H (vs := [(0, .agg #[.string k, .int .i64 v])]) (cl := [.string k, .int .i64 v]) (e := 60) rfl rfl rfl (by decide) rfl rfl (fun w => run_bslice (z := .agg #[.string ByteArray.empty, .int .i64 0]) (m := 2) Try.underlying36 (by kernel_rfl) rfl rfl (by decide) (by simp [Instr.fill, Value.cells]) w) ?_; clear Z a H; intro a w6 b2 H Z
  refine h_appO Z H 1 E_36_YTree2 [({ k := k, v := v } : Eref15_Row)] rfl rfl rfl rfl rfl (by decide) rfl rfl rfl (slRep2.box1 (H.bx 0 rfl) ⟨rfl, trivial⟩) hg4 (by decide) ?_; clear Z a H; intro v4 a w7 H Z
  dsimp only [List.eraseIdx] at H
  replace H : Hf I D w I1 w7 [OwC NEref15_Row 60 v4 (([] ++ (t.l.take ((a0.1).toNat))) ++ [({ k := k, v := v } : Eref15_Row)]), BxC b_t 38 [v2], OwC NEref15_Row 60 v2 t.l] := H.sub [(0, false), (1, false), (1, false)] rfl
  refine s_runk tTree2 Z 1 rfl rfl ?_; clear Z a; intro a Z
  refine s_end Z [0, 6, 7, 9] rfl ?_; clear Z; intro Z
  refine p_then (wp_seq ?_)
  obtain ⟨hg5, hF⟩ := chk_in hF
  obtain ⟨hg6, hF⟩ := chk_in hF
  refine f_region Z ?_; clear Z; intro Z
  refine s_runk tTree2 Z 4 rfl rfl ?_; clear Z a; intro a Z
  refine s_ob Z (v := v2) rfl rfl (by decide) rfl (Ob_load tTree2 rfl rfl rfl ((H.bx 1 rfl).cell 0 rfl)) ?_; clear Z a; intro a Z
  refine s_runk tTree2 Z 1 rfl rfl ?_; clear Z a; intro a Z
  refine s_ob Z (v := subV v2 ((a0.1).toNat) t.l.length 2) rfl rfl (by decide) rfl (Ob_sub_from tTree2 rfl rfl rfl rfl (H.owshape 2 rfl) hg5) ?_; clear Z a; intro a Z
  refine h_appO Z H 0 E_36_YTree2 (t.l.drop ((a0.1).toNat)) rfl rfl rfl rfl rfl (by decide) rfl rfl rfl ((H.ow2 2 rfl).part_from hg5 2 rfl) hg6 (by decide) ?_; clear Z a H; intro v5 a w8 H Z
  dsimp only [List.eraseIdx] at H
  refine s_runk tTree2 Z 1 rfl rfl ?_; clear Z a; intro a Z
  refine s_end Z [0, 6, 9] rfl ?_; clear Z; intro Z
  refine p_then (wp_seq (f_region Z ?_)); clear Z; intro Z
  refine s_runk tTree2 Z 4 rfl rfl ?_; clear Z a; intro a Z
  refine h_store tTree2 Z H 1 rfl rfl rfl rfl rfl rfl (slS.cells (H.owshape 0 rfl)) rfl rfl (one_cons (slS.one (H.owshape 0 rfl)) one_nil) (Nat.le_of_ble_eq_true rfl) rfl ?_; clear H; intro w9 H
  dsimp only [List.eraseIdx] at H
  refine s_end Z [6] rfl ?_; clear Z; intro Z
  refine p_then (wp_seq (f_region Z ?_)); clear Z; intro Z
  refine s_runk tTree2 Z 1 rfl rfl ?_; clear Z a; intro a Z
  refine s_end Z [6] rfl ?_; clear Z; intro Z
  refine p_then (wp_ret ?_)
  replace H : Hf I D w I1 w9 [OEref15_Tree b_t ({ l := (([] ++ (t.l.take ((a0.1).toNat))) ++ [({ k := k, v := v } : Eref15_Row)]) ++ (t.l.drop ((a0.1).toNat)) } : Eref15_Tree), OwC NEref15_Row 60 v2 t.l] := H.shutX (v5) [(0, false), (0, false)] rfl
  obtain rfl := some_in hF
  exact f_ret Z (run_results1 rfl Z rfl) ⟨rfl, I1, (H.sub [(0, false)] rfl).eq rfl⟩

def F_ref15_Tree_Get (t : Eref15_Tree) (k : ByteArray) : Option (Int × Bool) := (F_ref15_Tree_at t k).bind fun a0 => (if (!a0.2) = true then (some (0, false)) else (chk ((0 : Int) ≤ a0.1 ∧ a0.1 < (t.l.length : Int)) (some ((t.l.getD (a0.1).toNat default).v, true))))

set_option maxHeartbeats 1000000 in
theorem c_ref15_Tree_Get {I D : Dm} {b_t : Nat} {t : Eref15_Tree} {k : ByteArray} {w : World} {rr : Int × Bool} (hF : F_ref15_Tree_Get t k = some rr) (H : St I D w [OEref15_Tree b_t t]) :
  Calls Try.prog 18 #[.pointer (some ⟨b_t, 0, none⟩), .string k] w (Ret fun vv w' => vv = .tuple #[.int .i64 rr.1, .bool rr.2] ∧ ∃ I', Hf I D w I' w' [OEref15_Tree b_t t]) := by
 replace H := H.hf
 unfold F_ref15_Tree_Get at hF
 refine f_enter 24 Try.func18 rfl rfl (Nat.le_of_ble_eq_true rfl) fun a Z => ?_
 replace Z := Z.sub (ts := [0, 1]) rfl
 refine wp_seq (f_region Z ?_); clear Z; intro Z
 refine s_runk tTree2 Z 2 rfl rfl ?_; clear Z a; intro a Z
 refine s_end Z [0, 1, 4, 5] rfl ?_; clear Z; intro Z
 refine p_then (wp_seq ?_)
 obtain ⟨a0, hx1, hF⟩ := bnd_in hF
 refine f_region Z ?_; clear Z; intro Z
 refine s_runk tTree2 Z 2 rfl rfl ?_; clear Z a; intro a Z
 refine h_call Z H (js := [(0, false)]) rfl (caps := #[]) fn_27_YTree2 rfl rfl rfl rfl rfl (by decide) rfl rfl (fun D1 hS => have hq := c_ref15_Tree_at hx1 hS; hq) ?_; clear Z a; intro vv a w1 D2 hr hF2 Z
 obtain ⟨rfl, I1, K⟩ := hr
 have H : Hf I D w I1 w1 [OEref15_Tree b_t t] := hF2 K
 clear hF2 K
 refine s_runk tTree2 Z 5 rfl rfl ?_; clear Z a; intro a Z
 refine s_end Z [0, 4, 5, 6, 7] rfl ?_; clear Z; intro Z
 refine p_then (wp_seq ?_)
 refine wp_seq (f_region Z ?_); clear Z; intro Z
 refine s_runk tTree2 Z 2 rfl rfl ?_; clear Z a; intro a Z
 refine s_end Z [0, 4, 5, 6, 15] rfl ?_; clear Z; intro Z
 refine p_then ?_
 refine f_cond Z rfl (fun hc1 => ?_) (fun hc1 => ?_)
 ·replace hF := ite_t hc1 hF
  refine wp_seq (f_region Z ?_); clear Z; intro Z
  refine s_runk tTree2 Z 2 rfl rfl ?_; clear Z a; intro a Z
  refine s_end Z [0, 4, 5, 6] rfl ?_; clear Z; intro Z
  refine p_then (wp_ret ?_)
  refine p_then_r ?_
  obtain rfl := some_in hF
  exact f_ret Z (run_results2 rfl Z rfl rfl) ⟨rfl, I1, (H.sub [(0, false)] rfl).eq rfl⟩
 ·replace hF := ite_f hc1 hF
  refine wp_skip ?_
  refine p_then (wp_seq ?_)
  obtain ⟨hg1, hF⟩ := chk_in hF
  refine f_region Z ?_; clear Z; intro Z
  refine s_runk tTree2 Z 3 rfl rfl ?_; clear Z a; intro a Z
  obtain ⟨v1, H⟩ := H.openX 0 rfl
  replace H : Hf I D w I1 w1 [BxC b_t 38 [v1], OwC NEref15_Row 60 v1 t.l] := H
  refine s_ob Z (v := v1) rfl rfl (by decide) rfl (Ob_load tTree2 rfl rfl rfl ((H.bx 0 rfl).cell 0 rfl)) ?_; clear Z a; intro a Z
  refine s_runk tTree2 Z 1 rfl rfl ?_; clear Z a; intro a Z
  refine s_ob Z (v := .pointer (some ⟨blkOf v1, oofOf v1 + (a0.1).toNat * 2, none⟩)) rfl rfl (by decide) rfl (Ob_sidx tTree2 rfl rfl rfl rfl (slPl (H.owA 1 rfl) hg1) hg1) ?_; clear Z a; intro a Z
  refine s_runk tTree2 Z 1 rfl rfl ?_; clear Z a; intro a Z
  refine s_ob Z (v := .int .i64 ((t.l.getD (a0.1).toNat default).v)) rfl rfl (by decide) rfl (Ob_load tTree2 rfl rfl rfl ((slFl (H.owA 1 rfl) hg1) 1 _ rfl)) ?_; clear Z a; intro a Z
  refine s_runk tTree2 Z 2 rfl rfl ?_; clear Z a; intro a Z
  refine s_end Z [4, 5] rfl ?_; clear Z; intro Z
  refine p_then (wp_ret ?_)
  replace H : Hf I D w I1 w1 [OEref15_Tree b_t t] := H.shutX (v1) [(0, false), (0, false)] rfl
  obtain rfl := some_in hF
  exact f_ret Z (run_results2 rfl Z rfl rfl) ⟨rfl, I1, (H.sub [(0, false)] rfl).eq rfl⟩

def F_ref15_Tree_Del_k1 (a0 : Int × Bool) (yb_t : Eref15_Tree) : Option (Bool × Eref15_Tree) := some (a0.2, yb_t)

def F_ref15_Tree_Del (t : Eref15_Tree) (k : ByteArray) : Option (Bool × Eref15_Tree) := (F_ref15_Tree_at t k).bind fun a0 => (if (a0.2) = true then (chk ((0 : Int) ≤ a0.1 ∧ a0.1 ≤ (t.l.length : Int)) (chk (((([] : List Eref15_Row).length + (t.l.take ((a0.1).toNat)).length : Nat) : Int) * 24 ≤ 140737488355328) (chk (inI (a0.1 + 1)) (chk ((0 : Int) ≤ a0.1 + 1 ∧ a0.1 + 1 ≤ (t.l.length : Int)) (chk ((((([] : List Eref15_Row) ++ (t.l.take ((a0.1).toNat))).length + (t.l.drop ((a0.1 + 1).toNat)).length : Nat) : Int) * 24 ≤ 140737488355328) (F_ref15_Tree_Del_k1 a0 ({ l := (([] : List Eref15_Row) ++ (t.l.take ((a0.1).toNat))) ++ (t.l.drop ((a0.1 + 1).toNat)) } : Eref15_Tree))))))) else (F_ref15_Tree_Del_k1 a0 t))

set_option maxHeartbeats 1000000 in
theorem c_ref15_Tree_Del {I D : Dm} {b_t : Nat} {t : Eref15_Tree} {k : ByteArray} {w : World} {rr : Bool × Eref15_Tree} (hF : F_ref15_Tree_Del t k = some rr) (H : St I D w [OEref15_Tree b_t t]) :
  Calls Try.prog 17 #[.pointer (some ⟨b_t, 0, none⟩), .string k] w (Ret fun vv w' => vv = .bool rr.1 ∧ ∃ I', Hf I D w I' w' [OEref15_Tree b_t rr.2]) := by
 replace H := H.hf
 unfold F_ref15_Tree_Del at hF
 refine f_enter 36 Try.func17 rfl rfl (Nat.le_of_ble_eq_true rfl) fun a Z => ?_
 replace Z := Z.sub (ts := [0, 1]) rfl
 refine wp_seq (f_region Z ?_); clear Z; intro Z
 refine s_runk tTree2 Z 1 rfl rfl ?_; clear Z a; intro a Z
 refine s_end Z [0, 1, 4] rfl ?_; clear Z; intro Z
 refine p_then (wp_seq ?_)
 obtain ⟨a0, hx1, hF⟩ := bnd_in hF
 refine f_region Z ?_; clear Z; intro Z
 refine s_runk tTree2 Z 2 rfl rfl ?_; clear Z a; intro a Z
 refine h_call Z H (js := [(0, false)]) rfl (caps := #[]) fn_27_YTree2 rfl rfl rfl rfl rfl (by decide) rfl rfl (fun D1 hS => have hq := c_ref15_Tree_at hx1 hS; hq) ?_; clear Z a; intro vv a w1 D2 hr hF2 Z
 obtain ⟨rfl, I1, K⟩ := hr
 have H : Hf I D w I1 w1 [OEref15_Tree b_t t] := hF2 K
 clear hF2 K
 refine s_runk tTree2 Z 5 rfl rfl ?_; clear Z a; intro a Z
 refine s_end Z [0, 4, 5, 6] rfl ?_; clear Z; intro Z
 refine p_then ?_
 refine f_cut (fun a' w' => ∃ (yb_t : Eref15_Tree), Sl 36 [(4, .bool false), (6, .bool a0.2)] a' ∧ (∃ I2, Hf I D w I2 w' [OEref15_Tree b_t yb_t]) ∧ F_ref15_Tree_Del_k1 a0 yb_t = some rr) ?_ ?_
 ·rintro a w2 ⟨yb_t, Z, ⟨I2, H⟩, hF⟩
  unfold F_ref15_Tree_Del_k1 at hF
  try dsimp only at hF
  refine wp_seq (f_region Z ?_); clear Z; intro Z
  refine s_runk tTree2 Z 2 rfl rfl ?_; clear Z a; intro a Z
  refine s_end Z [4] rfl ?_; clear Z; intro Z
  refine p_then (wp_ret ?_)
  obtain rfl := some_in hF
  exact f_ret Z (run_results1 rfl Z rfl) ⟨rfl, I2, (H.sub [(0, false)] rfl).eq rfl⟩
 ·skip
  refine wp_seq (f_region Z ?_); clear Z; intro Z
  refine s_runk tTree2 Z 1 rfl rfl ?_; clear Z a; intro a Z
  refine s_end Z [0, 4, 5, 6, 14] rfl ?_; clear Z; intro Z
  refine p_then ?_
  refine f_cond Z rfl (fun hc1 => ?_) (fun hc1 => ?_)
  ·replace hF := ite_t hc1 hF
   refine wp_seq ?_
   obtain ⟨v1, H⟩ := H.openX 0 rfl
   replace H : Hf I D w I1 w1 [BxC b_t 38 [v1], OwC NEref15_Row 60 v1 t.l] := H
   obtain ⟨hg1, hF⟩ := chk_in hF
   obtain ⟨hg2, hF⟩ := chk_in hF
   obtain ⟨hg3, hF⟩ := chk_in hF
   obtain ⟨hg4, hF⟩ := chk_in hF
   obtain ⟨hg5, hF⟩ := chk_in hF
   refine f_regionM Z (by kernel_rfl) (by kernel_rfl) (by decide) (by decide) [0, 7, 15] [(0, 0, 0), (0, 0, 1), (2, 0, 1), (6, 0, 1), (14, 0, 1), (0, 0, 1), (62, 0, 1), (127, 1, 1), (0, 0, 2), (256, 0, 2), (768, 0, 2), (1792, 0, 2), (0, 0, 2), (4096, 0, 2), (16128, 0, 2), (32767, 2, 2), (65535, 3, 3)] (by kernel_rfl) (fun jj => match jj with | 16 => 15 | _ => jj) (by kernel_rfl) (fun jj rv vv => cond (Nat.blt jj 8) (cond (Nat.blt jj 4) (cond (Nat.blt jj 2) (cond (Nat.blt jj 1) (vv = .slice (some ⟨blkOf vv, 0, none⟩) 0 0) (vv = .pointer (some ⟨b_t, 0, none⟩))) (cond (Nat.blt jj 3) (vv = .pointer (some ⟨b_t, 0, none⟩)) (vv = .pointer (some ⟨b_t, 0, none⟩)))) (cond (Nat.blt jj 6) (cond (Nat.blt jj 5) (vv = v1) (vv = .int .i64 a0.1)) (cond (Nat.blt jj 7) (vv = subV v1 0 ((a0.1).toNat) 2) (True)))) (cond (Nat.blt jj 12) (cond (Nat.blt jj 10) (cond (Nat.blt jj 9) (vv = .pointer (some ⟨b_t, 0, none⟩)) (vv = .pointer (some ⟨b_t, 0, none⟩))) (cond (Nat.blt jj 11) (vv = .pointer (some ⟨b_t, 0, none⟩)) (vv = v1))) (cond (Nat.blt jj 14) (cond (Nat.blt jj 13) (vv = .int .i64 a0.1) (vv = .int .i64 (a0.1 + 1))) (cond (Nat.blt jj 15) (vv = subV v1 ((a0.1 + 1).toNat) t.l.length 2) (cond (Nat.blt jj 16) (True) (vv = rv)))))) (fun ss vals1 xw => match ss with | 0 => Gx I D w I1 w1 xw [BxC b_t 38 [v1], OwC NEref15_Row 60 v1 t.l] | 1 => Gx I D w I1 w1 xw [BxC (blkOf (vals1 0)) 60 [], BxC b_t 38 [v1], OwC NEref15_Row 60 v1 t.l] | 2 => Gx I D w I1 w1 xw [OwC NEref15_Row 60 (vals1 7) (([] : List Eref15_Row) ++ (t.l.take ((a0.1).toNat))), BxC b_t 38 [v1], OwC NEref15_Row 60 v1 t.l] | _ => Gx I D w I1 w1 xw [OwC NEref15_Row 60 (vals1 15) ((([] : List Eref15_Row) ++ (t.l.take ((a0.1).toNat))) ++ (t.l.drop ((a0.1 + 1).toNat))), BxC b_t 38 [v1], OwC NEref15_Row 60 v1 t.l]) (fun _ => Gx.start H) ?_ ?_
   ·intro fr hfr hfe
    refine .cons (fun ss hlo hhi vals1 xw hG hV => ?_) ?_
    ·obtain rfl : ss = 0 := Nat.le_antisymm hhi hlo
     rw [← hfe]
     have hS := (hfr vals1).sub (ts := []) (S' := []) rfl
     obtain ⟨I2, hI2, H⟩ := Gx.ex hG
     exact L_bslice H (vs := []) (cl := []) (e := 60) hS rfl rfl rfl (fun w => run_bslice (z := .agg #[.string ByteArray.empty, .int .i64 0]) (m := 2) Try.underlying36 (by kernel_rfl) rfl rfl (by decide) (by simp [Instr.fill, Value.cells]) w) fun yw b hK H => ⟨rfl, Gx.go hG hI2 hK (fun _ h => h) H⟩
    refine .cons (fun ss hlo hhi vals1 xw hG hV => ?_) ?_
    ·obtain rfl | rfl : ss = 0 ∨ ss = 1 := st1 hlo hhi
     all_goals
     ·rw [← hfe]
      have hS := (hfr vals1).sub (ts := [0]) (S' := [(0, .pointer (some ⟨b_t, 0, none⟩))]) rfl
      exact L_val hS rfl (Ob_c tTree2 rfl) ⟨rfl, hG⟩
    refine .cons (fun ss hlo hhi vals1 xw hG hV => ?_) ?_
    ·obtain rfl | rfl : ss = 0 ∨ ss = 1 := st1 hlo hhi
     all_goals
     ·rw [← hfe]
      have hS := (hfr vals1).sub (ts := [16]) (S' := [(16, vals1 1)]) rfl
      replace hS := hS.conv (t := 16) rfl (show (vals1 1) = .pointer (some ⟨b_t, 0, none⟩) from hV 1 (by decide))
      exact L_val hS rfl (Ob_c tTree2 rfl) ⟨rfl, hG⟩
    refine .cons (fun ss hlo hhi vals1 xw hG hV => ?_) ?_
    ·obtain rfl | rfl : ss = 0 ∨ ss = 1 := st1 hlo hhi
     all_goals
     ·rw [← hfe]
      have hS := (hfr vals1).sub (ts := [17]) (S' := [(17, vals1 2)]) rfl
      replace hS := hS.conv (t := 17) rfl (show (vals1 2) = .pointer (some ⟨b_t, 0, none⟩) from hV 2 (by decide))
      exact L_val hS rfl (Ob_c tTree2 rfl) ⟨rfl, hG⟩
    refine .cons (fun ss hlo hhi vals1 xw hG hV => ?_) ?_
    ·obtain rfl | rfl : ss = 0 ∨ ss = 1 := st1 hlo hhi
     ·rw [← hfe]
      have hS := (hfr vals1).sub (ts := [18]) (S' := [(18, vals1 3)]) rfl
      replace hS := hS.conv (t := 18) rfl (show (vals1 3) = .pointer (some ⟨b_t, 0, none⟩) from hV 3 (by decide))
      obtain ⟨I2, hI2, H⟩ := Gx.ex hG
      exact L_val hS rfl (Ob_load tTree2 rfl rfl rfl ((H.bx 0 rfl).cell 0 rfl)) ⟨rfl, hG⟩
     ·rw [← hfe]
      have hS := (hfr vals1).sub (ts := [18]) (S' := [(18, vals1 3)]) rfl
      replace hS := hS.conv (t := 18) rfl (show (vals1 3) = .pointer (some ⟨b_t, 0, none⟩) from hV 3 (by decide))
      obtain ⟨I2, hI2, H⟩ := Gx.ex hG
      exact L_val hS rfl (Ob_load tTree2 rfl rfl rfl ((H.bx 1 rfl).cell 0 rfl)) ⟨rfl, hG⟩
    refine .cons (fun ss hlo hhi vals1 xw hG hV => ?_) ?_
    ·obtain rfl | rfl : ss = 0 ∨ ss = 1 := st1 hlo hhi
     all_goals
     ·rw [← hfe]
      have hS := (hfr vals1).sub (ts := [5]) (S' := [(5, .int .i64 a0.1)]) rfl
      exact L_val hS rfl (Ob_c tTree2 rfl) ⟨rfl, hG⟩
    refine .cons (fun ss hlo hhi vals1 xw hG hV => ?_) ?_
    ·obtain rfl | rfl : ss = 0 ∨ ss = 1 := st1 hlo hhi
     ·rw [← hfe]
      have hS := (hfr vals1).sub (ts := [19, 20]) (S' := [(19, vals1 4), (20, vals1 5)]) rfl
      replace hS := hS.conv (t := 19) rfl (show (vals1 4) = v1 from hV 4 (by decide))
      replace hS := hS.conv (t := 20) rfl (show (vals1 5) = .int .i64 a0.1 from hV 5 (by decide))
      obtain ⟨I2, hI2, H⟩ := Gx.ex hG
      exact L_val hS rfl (Ob_sub_to tTree2 rfl rfl rfl rfl (H.owshape 1 rfl) hg1) ⟨rfl, hG⟩
     ·rw [← hfe]
      have hS := (hfr vals1).sub (ts := [19, 20]) (S' := [(19, vals1 4), (20, vals1 5)]) rfl
      replace hS := hS.conv (t := 19) rfl (show (vals1 4) = v1 from hV 4 (by decide))
      replace hS := hS.conv (t := 20) rfl (show (vals1 5) = .int .i64 a0.1 from hV 5 (by decide))
      obtain ⟨I2, hI2, H⟩ := Gx.ex hG
      exact L_val hS rfl (Ob_sub_to tTree2 rfl rfl rfl rfl (H.owshape 2 rfl) hg1) ⟨rfl, hG⟩
    refine .cons (fun ss hlo hhi vals1 xw hG hV => ?_) ?_
    ·obtain rfl : ss = 1 := Nat.le_antisymm hhi hlo
     rw [← hfe]
     have hS := (hfr vals1).sub (ts := [15, 21]) (S' := [(15, vals1 0), (21, vals1 6)]) rfl
     replace hS := hS.conv (t := 15) rfl (show (vals1 0) = .slice (some ⟨blkOf (vals1 0), 0, none⟩) 0 0 from hV 0 (by decide))
     replace hS := hS.conv (t := 21) rfl (show (vals1 6) = subV v1 0 ((a0.1).toNat) 2 from hV 6 (by decide))
     obtain ⟨I2, hI2, H⟩ := Gx.ex hG
     replace H := H.emptyow 0 rfl NEref15_Row
     exact L_appO H 0 E_36_YTree2 (t.l.take ((a0.1).toNat)) rfl rfl hS rfl rfl rfl rfl ((H.ow2 2 rfl).part_to hg1 2 rfl) hg2 (by decide) fun v yw hK H => ⟨trivial, Gx.go hG hI2 hK (fun _ h => h) H⟩
    refine .cons (fun ss hlo hhi vals1 xw hG hV => ?_) ?_
    ·obtain rfl | rfl | rfl : ss = 0 ∨ ss = 1 ∨ ss = 2 := st2 hlo hhi
     all_goals
     ·rw [← hfe]
      have hS := (hfr vals1).sub (ts := [0]) (S' := [(0, .pointer (some ⟨b_t, 0, none⟩))]) rfl
      exact L_val hS rfl (Ob_c tTree2 rfl) ⟨rfl, hG⟩
    refine .cons (fun ss hlo hhi vals1 xw hG hV => ?_) ?_
    ·obtain rfl | rfl | rfl : ss = 0 ∨ ss = 1 ∨ ss = 2 := st2 hlo hhi
     all_goals
     ·rw [← hfe]
      have hS := (hfr vals1).sub (ts := [23]) (S' := [(23, vals1 8)]) rfl
      replace hS := hS.conv (t := 23) rfl (show (vals1 8) = .pointer (some ⟨b_t, 0, none⟩) from hV 8 (by decide))
      exact L_val hS rfl (Ob_c tTree2 rfl) ⟨rfl, hG⟩
    refine .cons (fun ss hlo hhi vals1 xw hG hV => ?_) ?_
    ·obtain rfl | rfl | rfl : ss = 0 ∨ ss = 1 ∨ ss = 2 := st2 hlo hhi
     all_goals
     ·rw [← hfe]
      have hS := (hfr vals1).sub (ts := [24]) (S' := [(24, vals1 9)]) rfl
      replace hS := hS.conv (t := 24) rfl (show (vals1 9) = .pointer (some ⟨b_t, 0, none⟩) from hV 9 (by decide))
      exact L_val hS rfl (Ob_c tTree2 rfl) ⟨rfl, hG⟩
    refine .cons (fun ss hlo hhi vals1 xw hG hV => ?_) ?_
    ·obtain rfl | rfl | rfl : ss = 0 ∨ ss = 1 ∨ ss = 2 := st2 hlo hhi
     ·rw [← hfe]
      have hS := (hfr vals1).sub (ts := [25]) (S' := [(25, vals1 10)]) rfl
      replace hS := hS.conv (t := 25) rfl (show (vals1 10) = .pointer (some ⟨b_t, 0, none⟩) from hV 10 (by decide))
      obtain ⟨I2, hI2, H⟩ := Gx.ex hG
      exact L_val hS rfl (Ob_load tTree2 rfl rfl rfl ((H.bx 0 rfl).cell 0 rfl)) ⟨rfl, hG⟩
     ·rw [← hfe]
      have hS := (hfr vals1).sub (ts := [25]) (S' := [(25, vals1 10)]) rfl
      replace hS := hS.conv (t := 25) rfl (show (vals1 10) = .pointer (some ⟨b_t, 0, none⟩) from hV 10 (by decide))
      obtain ⟨I2, hI2, H⟩ := Gx.ex hG
      exact L_val hS rfl (Ob_load tTree2 rfl rfl rfl ((H.bx 1 rfl).cell 0 rfl)) ⟨rfl, hG⟩
     ·rw [← hfe]
      have hS := (hfr vals1).sub (ts := [25]) (S' := [(25, vals1 10)]) rfl
      replace hS := hS.conv (t := 25) rfl (show (vals1 10) = .pointer (some ⟨b_t, 0, none⟩) from hV 10 (by decide))
      obtain ⟨I2, hI2, H⟩ := Gx.ex hG
      exact L_val hS rfl (Ob_load tTree2 rfl rfl rfl ((H.bx 1 rfl).cell 0 rfl)) ⟨rfl, hG⟩
    refine .cons (fun ss hlo hhi vals1 xw hG hV => ?_) ?_
    ·obtain rfl | rfl | rfl : ss = 0 ∨ ss = 1 ∨ ss = 2 := st2 hlo hhi
     all_goals
     ·rw [← hfe]
      have hS := (hfr vals1).sub (ts := [5]) (S' := [(5, .int .i64 a0.1)]) rfl
      exact L_val hS rfl (Ob_c tTree2 rfl) ⟨rfl, hG⟩
    refine .cons (fun ss hlo hhi vals1 xw hG hV => ?_) ?_
    ·obtain rfl | rfl | rfl : ss = 0 ∨ ss = 1 ∨ ss = 2 := st2 hlo hhi
     all_goals
     ·rw [← hfe]
      have hS := (hfr vals1).sub (ts := [27]) (S' := [(27, vals1 12)]) rfl
      replace hS := hS.conv (t := 27) rfl (show (vals1 12) = .int .i64 a0.1 from hV 12 (by decide))
      exact L_val hS rfl (Ob_add rfl rfl rfl (wrI hg3)) ⟨rfl, hG⟩
    refine .cons (fun ss hlo hhi vals1 xw hG hV => ?_) ?_
    ·obtain rfl | rfl | rfl : ss = 0 ∨ ss = 1 ∨ ss = 2 := st2 hlo hhi
     ·rw [← hfe]
      have hS := (hfr vals1).sub (ts := [26, 28]) (S' := [(26, vals1 11), (28, vals1 13)]) rfl
      replace hS := hS.conv (t := 26) rfl (show (vals1 11) = v1 from hV 11 (by decide))
      replace hS := hS.conv (t := 28) rfl (show (vals1 13) = .int .i64 (a0.1 + 1) from hV 13 (by decide))
      obtain ⟨I2, hI2, H⟩ := Gx.ex hG
      exact L_val hS rfl (Ob_sub_from tTree2 rfl rfl rfl rfl (H.owshape 1 rfl) hg4) ⟨rfl, hG⟩
     ·rw [← hfe]
      have hS := (hfr vals1).sub (ts := [26, 28]) (S' := [(26, vals1 11), (28, vals1 13)]) rfl
      replace hS := hS.conv (t := 26) rfl (show (vals1 11) = v1 from hV 11 (by decide))
      replace hS := hS.conv (t := 28) rfl (show (vals1 13) = .int .i64 (a0.1 + 1) from hV 13 (by decide))
      obtain ⟨I2, hI2, H⟩ := Gx.ex hG
      exact L_val hS rfl (Ob_sub_from tTree2 rfl rfl rfl rfl (H.owshape 2 rfl) hg4) ⟨rfl, hG⟩
     ·rw [← hfe]
      have hS := (hfr vals1).sub (ts := [26, 28]) (S' := [(26, vals1 11), (28, vals1 13)]) rfl
      replace hS := hS.conv (t := 26) rfl (show (vals1 11) = v1 from hV 11 (by decide))
      replace hS := hS.conv (t := 28) rfl (show (vals1 13) = .int .i64 (a0.1 + 1) from hV 13 (by decide))
      obtain ⟨I2, hI2, H⟩ := Gx.ex hG
      exact L_val hS rfl (Ob_sub_from tTree2 rfl rfl rfl rfl (H.owshape 2 rfl) hg4) ⟨rfl, hG⟩
    refine .cons (fun ss hlo hhi vals1 xw hG hV => ?_) ?_
    ·obtain rfl : ss = 2 := Nat.le_antisymm hhi hlo
     rw [← hfe]
     have hS := (hfr vals1).sub (ts := [22, 29]) (S' := [(22, vals1 7), (29, vals1 14)]) rfl
     replace hS := hS.conv (t := 29) rfl (show (vals1 14) = subV v1 ((a0.1 + 1).toNat) t.l.length 2 from hV 14 (by decide))
     obtain ⟨I2, hI2, H⟩ := Gx.ex hG
     exact L_appO H 0 E_36_YTree2 (t.l.drop ((a0.1 + 1).toNat)) rfl rfl hS rfl rfl rfl rfl ((H.ow2 2 rfl).part_from hg4 2 rfl) hg5 (by decide) fun v yw hK H => ⟨trivial, Gx.go hG hI2 hK (fun _ h => h) H⟩
    refine .cons (fun ss hlo hhi vals1 xw hG hV => ?_) ?_
    ·obtain rfl : ss = 3 := Nat.le_antisymm hhi hlo
     rw [← hfe]
     have hS := (hfr vals1).sub (ts := [30]) (S' := [(30, vals1 15)]) rfl
     exact L_val hS rfl (Ob_c tTree2 rfl) ⟨rfl, hG⟩
    exact .nil
   ·intro vals1 a w3 Z hG hV
    replace Z := Z.sub (ts := [0, 4, 6, 7]) (S' := [(0, .pointer (some ⟨b_t, 0, none⟩)), (4, .bool false), (6, .bool a0.2), (7, vals1 16)]) rfl
    replace Z := Z.conv (t := 7) rfl (show (vals1 16) = (vals1 15) from hV 16 (by decide))
    obtain ⟨I3, _, H⟩ := Gx.ex hG
    clear hG hV
    replace Z := Z.sub (ts := [0, 4, 6, 7]) rfl
    replace H : Hf I D w I3 w3 [OwC NEref15_Row 60 (vals1 15) ((([] : List Eref15_Row) ++ (t.l.take ((a0.1).toNat))) ++ (t.l.drop ((a0.1 + 1).toNat))), BxC b_t 38 [v1], OwC NEref15_Row 60 v1 t.l] := H
    refine p_then ?_
    refine f_region Z ?_; clear Z; intro Z
    refine s_runk tTree2 Z 4 rfl rfl ?_; clear Z a; intro a Z
    refine h_store tTree2 Z H 1 rfl rfl rfl rfl rfl rfl (slS.cells (H.owshape 0 rfl)) rfl rfl (one_cons (slS.one (H.owshape 0 rfl)) one_nil) (Nat.le_of_ble_eq_true rfl) rfl ?_; clear H; intro w4 H
    dsimp only [List.eraseIdx] at H
    refine s_end Z [4, 6] rfl ?_; clear Z; intro Z
    refine p_then ?_
    replace H : Hf I D w I3 w4 [OEref15_Tree b_t ({ l := (([] : List Eref15_Row) ++ (t.l.take ((a0.1).toNat))) ++ (t.l.drop ((a0.1 + 1).toNat)) } : Eref15_Tree), OwC NEref15_Row 60 v1 t.l] := H.shutX ((vals1 15)) [(0, false), (0, false)] rfl
    exact ⟨({ l := (([] : List Eref15_Row) ++ (t.l.take ((a0.1).toNat))) ++ (t.l.drop ((a0.1 + 1).toNat)) } : Eref15_Tree), Z.sub (ts := [4, 6]) rfl, ⟨I3, (H.sub [(0, false)] rfl).eq rfl⟩, hF⟩
  ·replace hF := ite_f hc1 hF
   refine wp_skip ?_
   refine p_then ?_
   exact ⟨t, Z.sub (ts := [4, 6]) rfl, ⟨I1, (H.sub [(0, false)] rfl).eq rfl⟩, hF⟩

def F_ref05_In (k : ByteArray) (from_ : ByteArray) (to_ : ByteArray) : Option Bool := some ((!sltB k from_) && ((seqB to_ ⟨#[]⟩) || (sltB k to_)))

set_option maxHeartbeats 1000000 in
theorem c_ref05_In {I D : Dm} {k : ByteArray} {from_ : ByteArray} {to_ : ByteArray} {w : World} {rr : Bool} (hF : F_ref05_In k from_ to_ = some rr) (H : St I D w []) :
  Calls Try.prog 29 #[.string k, .string from_, .string to_] w (Ret fun vv w' => vv = .bool rr ∧ ∃ I', Hf I D w I' w' []) := by
 replace H := H.hf
 unfold F_ref05_In at hF
 refine f_enter 19 Try.func29 rfl rfl (Nat.le_of_ble_eq_true rfl) fun a Z => ?_
 replace Z := Z.sub (ts := [0, 1, 2]) rfl
 refine wp_seq (f_region Z ?_); clear Z; intro Z
 refine s_runk tTree2 Z 1 rfl rfl ?_; clear Z a; intro a Z
 refine s_end Z [0, 1, 2, 6] rfl ?_; clear Z; intro Z
 refine p_then (wp_seq (f_region Z ?_)); clear Z; intro Z
 refine s_runk tTree2 Z 4 rfl rfl ?_; clear Z a; intro a Z
 refine g_ob Z (p := (!sltB k from_)) (v := .string to_) (S' := [(2, .string to_)]) rfl rfl rfl (wantB_t _) rfl (by decide) (fun hp hS => hS.sub (ts := [2]) rfl) (fun hp => Ob_c tTree2 rfl) ?_; clear Z a; intro a Z
 refine g_ob Z (p := (!sltB k from_)) (v := .bool (seqB to_ ⟨#[]⟩)) (S' := [(11, .string to_)]) rfl rfl rfl (wantB_t _) rfl (by decide) (fun hp hS => (hS.conv (t := 11) rfl (cond_t hp)).sub (ts := [11]) rfl) (fun hp => Ob_c tTree2 rfl) ?_; clear Z a; intro a Z
 refine g_ob Z (p := (!sltB k from_)) (v := .bool (seqB to_ ⟨#[]⟩)) (S' := [(12, .bool (seqB to_ ⟨#[]⟩))]) rfl rfl rfl (wantB_t _) rfl (by decide) (fun hp hS => (hS.conv (t := 12) rfl (cond_t hp)).sub (ts := [12]) rfl) (fun hp => Ob_c tTree2 rfl) ?_; clear Z a; intro a Z
 refine g_ob Z (p := ((!sltB k from_) && (!(seqB to_ ⟨#[]⟩)))) (v := .string k) (S' := [(0, .string k)]) rfl rfl rfl (wantB_cf _ _) rfl (by decide) (fun hp hS => hS.sub (ts := [0]) rfl) (fun hp => Ob_c tTree2 rfl) ?_; clear Z a; intro a Z
 refine g_ob Z (p := ((!sltB k from_) && (!(seqB to_ ⟨#[]⟩)))) (v := .string to_) (S' := [(2, .string to_)]) rfl rfl rfl (wantB_cf _ _) rfl (by decide) (fun hp hS => hS.sub (ts := [2]) rfl) (fun hp => Ob_c tTree2 rfl) ?_; clear Z a; intro a Z
 refine g_ob Z (p := ((!sltB k from_) && (!(seqB to_ ⟨#[]⟩)))) (v := .bool (sltB k to_)) (S' := [(14, .string k), (15, .string to_)]) rfl rfl rfl (wantB_cf _ _) rfl (by decide) (fun hp hS => ((hS.conv (t := 14) rfl (cond_t hp)).conv (t := 15) rfl (cond_t hp)).sub (ts := [14, 15]) rfl) (fun hp => Ob_c tTree2 rfl) ?_; clear Z a; intro a Z
 refine g_ob Z (p := (!sltB k from_)) (v := .bool ((seqB to_ ⟨#[]⟩) || (sltB k to_))) (S' := [(13, .bool (seqB to_ ⟨#[]⟩)), (16, cond ((!sltB k from_) && (!(seqB to_ ⟨#[]⟩))) (.bool (sltB k to_)) undef)]) rfl rfl rfl (wantB_t _) rfl (by decide) (fun hp hS => (hS.conv (t := 13) rfl (cond_t hp)).sub (ts := [13, 16]) rfl) (fun hp => Ob_pick rfl rfl rfl rfl (pick_orp _ _ hp)) ?_; clear Z a; intro a Z
 refine s_ob Z (v := .bool ((!sltB k from_) && ((seqB to_ ⟨#[]⟩) || (sltB k to_)))) rfl rfl (by decide) rfl (Ob_pick rfl rfl rfl rfl (pick_and _ _)) ?_; clear Z a; intro a Z
 refine s_runk tTree2 Z 1 rfl rfl ?_; clear Z a; intro a Z
 refine s_end Z [6] rfl ?_; clear Z; intro Z
 refine p_then (wp_ret ?_)
 obtain rfl := some_in hF
 exact f_ret Z (run_results1 rfl Z rfl) ⟨rfl, I, (H.sub [] rfl).eq rfl⟩

def F_ref15_Tree_Keys_k2 (i : Int) (rc : ((List ByteArray) × Int) → Option (List ByteArray)) (out_2 : List ByteArray) (x : Bool) : Option (List ByteArray) := chk (inI (i + 1)) (rc (out_2, i + 1))

def F_ref15_Tree_Keys_l1 (t : Eref15_Tree) (from_ : ByteArray) (to_ : ByteArray) (rc : ((List ByteArray) × Int) → Option (List ByteArray)) (sg : (List ByteArray) × Int) : Option (List ByteArray) := match sg with | (out, i) => if (decide (i < (t.l.length : Int))) = true then (chk ((0 : Int) ≤ i ∧ i < (t.l.length : Int)) ((F_ref05_In ((t.l.getD (i).toNat default).k) from_ to_).bind fun i_2 => (if (i_2) = true then (chk ((0 : Int) ≤ i ∧ i < (t.l.length : Int)) (chk (((out.length + [(t.l.getD (i).toNat default).k].length : Nat) : Int) * 16 ≤ 140737488355328) (F_ref15_Tree_Keys_k2 i rc (out ++ [(t.l.getD (i).toNat default).k]) i_2))) else (F_ref15_Tree_Keys_k2 i rc out i_2)))) else (some out)

def F_ref15_Tree_Keys (t : Eref15_Tree) (from_ : ByteArray) (to_ : ByteArray) : Option (List ByteArray) := iter (F_ref15_Tree_Keys_l1 t from_ to_) FU (([] : List ByteArray), 0)

set_option maxHeartbeats 1000000 in
theorem c_ref15_Tree_Keys {I D : Dm} {b_t : Nat} {t : Eref15_Tree} {from_ : ByteArray} {to_ : ByteArray} {w : World} {rr : List ByteArray} (hF : F_ref15_Tree_Keys t from_ to_ = some rr) (H : St I D w [OEref15_Tree b_t t]) :
  Calls Try.prog 21 #[.pointer (some ⟨b_t, 0, none⟩), .string from_, .string to_] w (Ret fun vv w' => ∃ q1 : Value, vv = q1 ∧ ∃ I', Hf I D w I' w' [OEref15_Tree b_t t, SlC NS q1 rr]) := by
 replace H := H.hf
 unfold F_ref15_Tree_Keys at hF
 refine f_enter 41 Try.func21 rfl rfl (Nat.le_of_ble_eq_true rfl) fun a Z => ?_
 replace Z := Z.sub (ts := [0, 1, 2]) rfl
 refine wp_seq (f_region Z ?_); clear Z; intro Z
 refine s_runk tTree2 Z 1 rfl rfl ?_; clear Z a; intro a Z
 refine s_end Z [0, 1, 2, 6] rfl ?_; clear Z; intro Z
 refine p_then (wp_seq (f_region Z ?_)); clear Z; intro Z
 refine s_runk tTree2 Z 1 rfl rfl ?_; clear Z a; intro a Z
 refine s_end Z [0, 1, 2, 6, 7] rfl ?_; clear Z; intro Z
 refine p_then (wp_seq ?_)
 refine wp_seq (f_region Z ?_); clear Z; intro Z
 refine s_runk tTree2 Z 1 rfl rfl ?_; clear Z a; intro a Z
 refine s_end Z [0, 1, 2, 6, 7, 8] rfl ?_; clear Z; intro Z
 refine p_then (wp_block ?_)
 replace H : Hf I D w I w [OwC NS 9 (.slice none 0 0) ([] : List ByteArray), OEref15_Tree b_t t] := H.nilow NS 9
 refine f_iter hF (fun sg a' w' => match sg with | (out, i) => ∃ v1 : Value, Sl 41 [(0, .pointer (some ⟨b_t, 0, none⟩)), (1, .string from_), (2, .string to_), (6, .slice none 0 0), (7, v1), (8, .int .i64 i)] a' ∧ ∃ I2, Hf I D w I2 w' [OEref15_Tree b_t t, OwC NS 9 v1 out]) ⟨.slice none 0 0, Z.sub (ts := [0, 1, 2, 6, 7, 8]) rfl, ⟨I, (H.sub [(1, false), (0, false)] rfl).eq rfl⟩⟩ ?_
 clear Z H hF a
 rintro rc ⟨out, i⟩ a w1 ⟨v1, Z, I1, H⟩ hF
 unfold F_ref15_Tree_Keys_l1 at hF
 try dsimp only at hF
 refine wp_seq ?_
 refine wp_seq (f_region Z ?_); clear Z; intro Z
 refine s_runk tTree2 Z 4 rfl rfl ?_; clear Z a; intro a Z
 obtain ⟨v2, H⟩ := H.openX 0 rfl
 replace H : Hf I D w I1 w1 [BxC b_t 38 [v2], OwC NEref15_Row 60 v2 t.l, OwC NS 9 v1 out] := H
 refine s_ob Z (v := v2) rfl rfl (by decide) rfl (Ob_load tTree2 rfl rfl rfl ((H.bx 0 rfl).cell 0 rfl)) ?_; clear Z a; intro a Z
 refine s_ob Z (v := .int .i64 (t.l.length : Int)) rfl rfl (by decide) rfl (Ob_slen tTree2 rfl rfl rfl (H.owshape 1 rfl)) ?_; clear Z a; intro a Z
 refine s_runk tTree2 Z 1 rfl rfl ?_; clear Z a; intro a Z
 refine s_end Z [0, 1, 2, 6, 7, 8, 9, 10, 11, 12, 13, 14, 15] rfl ?_; clear Z; intro Z
 refine p_then ?_
 refine f_cond Z rfl (fun hc1 => ?_) (fun hc1 => ?_)
 ·replace hF := ite_t hc1 hF
  refine wp_skip ?_
  refine p_then ?_
  refine f_cut (fun a' w' => ∃ (out_2 : List ByteArray) (x : Bool), ∃ v3 : Value, Sl 41 [(0, .pointer (some ⟨b_t, 0, none⟩)), (1, .string from_), (2, .string to_), (6, .slice none 0 0), (7, v3), (8, .int .i64 i), (9, .int .i64 i), (10, .pointer (some ⟨b_t, 0, none⟩)), (11, .pointer (some ⟨b_t, 0, none⟩)), (12, .pointer (some ⟨b_t, 0, none⟩)), (13, v2), (14, .int .i64 (t.l.length : Int)), (15, .bool (decide (i < (t.l.length : Int)))), (18, .pointer (some ⟨b_t, 0, none⟩)), (19, .pointer (some ⟨b_t, 0, none⟩)), (20, .pointer (some ⟨b_t, 0, none⟩)), (21, v2), (22, .int .i64 i), (23, .pointer (some ⟨blkOf v2, oofOf v2 + (i).toNat * 2, none⟩)), (24, .pointer (some ⟨blkOf v2, oofOf v2 + (i).toNat * 2, none⟩)), (25, .string ((t.l.getD (i).toNat default).k)), (26, .string from_), (27, .string to_), (28, .bool x)] a' ∧ (∃ I2, Hf I D w I2 w' [BxC b_t 38 [v2], OwC NEref15_Row 60 v2 t.l, OwC NS 9 v3 out_2]) ∧ F_ref15_Tree_Keys_k2 i rc out_2 x = some rr) ?_ ?_
  ·rintro a w2 ⟨out_2, x, v3, Z, ⟨I2, H⟩, hF⟩
   unfold F_ref15_Tree_Keys_k2 at hF
   try dsimp only at hF
   obtain ⟨hg1, hF⟩ := chk_in hF
   refine f_region Z ?_; clear Z; intro Z
   refine s_runk tTree2 Z 1 rfl rfl ?_; clear Z a; intro a Z
   refine s_ob Z (v := .int .i64 (i + 1)) rfl rfl (by decide) rfl (Ob_add rfl rfl rfl (wrI hg1)) ?_; clear Z a; intro a Z
   refine s_runk tTree2 Z 1 rfl rfl ?_; clear Z a; intro a Z
   refine s_end Z [0, 1, 2, 6, 7, 8, 9, 10, 11, 12, 13, 14, 15, 18, 19, 20, 21, 22, 23, 24, 25, 26, 27, 28, 16, 17] rfl ?_; clear Z; intro Z
   refine p_then ?_
   replace H : Hf I D w I2 w2 [OEref15_Tree b_t t, OwC NS 9 v3 out_2] := H.shutX (v2) [(0, false), (0, false)] rfl
   exact ⟨(out_2, i + 1), ⟨v3, Z.sub (ts := [0, 1, 2, 6, 7, 8]) rfl, ⟨I2, (H.sub [(0, false), (0, false)] rfl).eq rfl⟩⟩, hF⟩
  ·skip
   refine wp_block ?_
   refine wp_seq ?_
   obtain ⟨hg2, hF⟩ := chk_in hF
   obtain ⟨i_2, hx1, hF⟩ := bnd_in hF
   refine f_region Z ?_; clear Z; intro Z
   refine s_runk tTree2 Z 3 rfl rfl ?_; clear Z a; intro a Z
   refine s_ob Z (v := v2) rfl rfl (by decide) rfl (Ob_load tTree2 rfl rfl rfl ((H.bx 0 rfl).cell 0 rfl)) ?_; clear Z a; intro a Z
   refine s_runk tTree2 Z 1 rfl rfl ?_; clear Z a; intro a Z
   refine s_ob Z (v := .pointer (some ⟨blkOf v2, oofOf v2 + (i).toNat * 2, none⟩)) rfl rfl (by decide) rfl (Ob_sidx tTree2 rfl rfl rfl rfl (slPl (H.owA 1 rfl) hg2) hg2) ?_; clear Z a; intro a Z
   refine s_runk tTree2 Z 1 rfl rfl ?_; clear Z a; intro a Z
   refine s_ob Z (v := .string ((t.l.getD (i).toNat default).k)) rfl rfl (by decide) rfl (Ob_load tTree2 rfl rfl rfl ((slFl (H.owA 1 rfl) hg2) 0 _ rfl)) ?_; clear Z a; intro a Z
   refine s_runk tTree2 Z 2 rfl rfl ?_; clear Z a; intro a Z
   refine h_call Z H (js := []) rfl (caps := #[]) fn_29_YTree2 rfl rfl rfl rfl rfl (by decide) rfl rfl (fun D1 hS => have hq := c_ref05_In hx1 hS; hq) ?_; clear Z a; intro vv a w3 D2 hr hF2 Z
   obtain ⟨rfl, I3, K⟩ := hr
   have H : Hf I D w I3 w3 [BxC b_t 38 [v2], OwC NEref15_Row 60 v2 t.l, OwC NS 9 v1 out] := hF2 K
   clear hF2 K
   refine s_end Z [0, 1, 2, 6, 7, 8, 9, 10, 11, 12, 13, 14, 15, 18, 19, 20, 21, 22, 23, 24, 25, 26, 27, 28] rfl ?_; clear Z; intro Z
   refine p_then ?_
   refine f_cond Z rfl (fun hc2 => ?_) (fun hc2 => ?_)
   ·replace hF := ite_t hc2 hF
    obtain ⟨hg3, hF⟩ := chk_in hF
    obtain ⟨hg4, hF⟩ := chk_in hF
    refine f_region Z ?_; clear Z; intro Z
    refine s_runk tTree2 Z 4 rfl rfl ?_; clear Z a; intro a Z
    refine s_ob Z (v := v2) rfl rfl (by decide) rfl (Ob_load tTree2 rfl rfl rfl ((H.bx 0 rfl).cell 0 rfl)) ?_; clear Z a; intro a Z
    refine s_runk tTree2 Z 1 rfl rfl ?_; clear Z a; intro a Z
    refine s_ob Z (v := .pointer (some ⟨blkOf v2, oofOf v2 + (i).toNat * 2, none⟩)) rfl rfl (by decide) rfl (Ob_sidx tTree2 rfl rfl rfl rfl (slPl (H.owA 1 rfl) hg3) hg3) ?_; clear Z a; intro a Z
    refine s_runk tTree2 Z 1 rfl rfl ?_; clear Z a; intro a Z
    refine s_ob Z (v := .string ((t.l.getD (i).toNat default).k)) rfl rfl (by decide) rfl (Ob_load tTree2 rfl rfl rfl ((slFl (H.owA 1 rfl) hg3) 0 _ rfl)) ?_; clear Z a; intro a Z
    refine h_bslice Z H (vs := [(0, .string ((t.l.getD (i).toNat default).k))]) (cl := [.string ((t.l.getD (i).toNat default).k)]) (e := 9) rfl rfl rfl (by decide) rfl rfl (fun w => run_bslice (z := .string ByteArray.empty) (m := 1) Try.underlying22 (by kernel_rfl) rfl rfl (by decide) (by simp [Instr.fill, Value.cells]) w) ?_; clear Z a H; intro a w4 b1 H Z
    refine h_appO Z H 3 E_22_YTree2 [(t.l.getD (i).toNat default).k] rfl rfl rfl rfl rfl (by decide) rfl rfl rfl (slRep2.box1 (H.bx 0 rfl) ⟨rfl, trivial⟩) hg4 (by decide) ?_; clear Z a H; intro v4 a w5 H Z
    dsimp only [List.eraseIdx] at H
    replace H : Hf I D w I3 w5 [OwC NS 9 v4 (out ++ [(t.l.getD (i).toNat default).k]), BxC b_t 38 [v2], OwC NEref15_Row 60 v2 t.l] := H.sub [(0, false), (1, false), (1, false)] rfl
    refine s_runk tTree2 Z 1 rfl rfl ?_; clear Z a; intro a Z
    refine s_end Z [0, 1, 2, 6, 7, 8, 9, 10, 11, 12, 13, 14, 15, 18, 19, 20, 21, 22, 23, 24, 25, 26, 27, 28, 29, 30, 31, 32, 33, 34, 35, 36, 37, 38, 39] rfl ?_; clear Z; intro Z
    refine p_blk ?_
    refine p_then ?_
    exact ⟨out ++ [(t.l.getD (i).toNat default).k], i_2, v4, Z.sub (ts := [0, 1, 2, 6, 7, 8, 9, 10, 11, 12, 13, 14, 15, 18, 19, 20, 21, 22, 23, 24, 25, 26, 27, 28]) rfl, ⟨I3, (H.sub [(1, false), (1, false), (0, false)] rfl).eq rfl⟩, hF⟩
   ·replace hF := ite_f hc2 hF
    refine wp_skip ?_
    refine p_blk ?_
    refine p_then ?_
    exact ⟨out, i_2, v1, Z.sub (ts := [0, 1, 2, 6, 7, 8, 9, 10, 11, 12, 13, 14, 15, 18, 19, 20, 21, 22, 23, 24, 25, 26, 27, 28]) rfl, ⟨I3, (H.sub [(0, false), (0, false), (0, false)] rfl).eq rfl⟩, hF⟩
 ·replace hF := ite_f hc1 hF
  refine wp_exit ?_
  refine p_then_x ?_
  refine p_then_x ?_
  refine f_exit_here ?_
  refine p_then (wp_seq (f_region Z ?_)); clear Z; intro Z
  refine s_runk tTree2 Z 2 rfl rfl ?_; clear Z a; intro a Z
  refine s_end Z [6] rfl ?_; clear Z; intro Z
  refine p_then (wp_ret ?_)
  obtain ⟨I4, _, H⟩ := H.frzow 2 rfl
  replace H : Hf I D w I4 w1 [SlC NS v1 out, BxC b_t 38 [v2], OwC NEref15_Row 60 v2 t.l] := H
  replace H : Hf I D w I4 w1 [OEref15_Tree b_t t, SlC NS v1 out] := H.shutX (v2) [(1, false), (1, false)] rfl
  obtain rfl := some_in hF
  exact f_ret Z (run_results1 rfl Z rfl) ⟨v1, rfl, I4, (H.sub [(0, false), (0, true)] rfl).eq rfl⟩

def F_ref15_Tree_Seek (t : Eref15_Tree) (k : ByteArray) : Option (ByteArray × Bool) := (F_ref15_Tree_at t k).bind fun a0 => (if (a0.1 == (t.l.length : Int)) = true then (some (⟨#[]⟩, false)) else (chk ((0 : Int) ≤ a0.1 ∧ a0.1 < (t.l.length : Int)) (some ((t.l.getD (a0.1).toNat default).k, true))))

set_option maxHeartbeats 1000000 in
theorem c_ref15_Tree_Seek {I D : Dm} {b_t : Nat} {t : Eref15_Tree} {k : ByteArray} {w : World} {rr : ByteArray × Bool} (hF : F_ref15_Tree_Seek t k = some rr) (H : St I D w [OEref15_Tree b_t t]) :
  Calls Try.prog 20 #[.pointer (some ⟨b_t, 0, none⟩), .string k] w (Ret fun vv w' => vv = .tuple #[.string rr.1, .bool rr.2] ∧ ∃ I', Hf I D w I' w' [OEref15_Tree b_t t]) := by
 replace H := H.hf
 unfold F_ref15_Tree_Seek at hF
 refine f_enter 29 Try.func20 rfl rfl (Nat.le_of_ble_eq_true rfl) fun a Z => ?_
 replace Z := Z.sub (ts := [0, 1]) rfl
 refine wp_seq (f_region Z ?_); clear Z; intro Z
 refine s_runk tTree2 Z 2 rfl rfl ?_; clear Z a; intro a Z
 refine s_end Z [0, 1, 4, 5] rfl ?_; clear Z; intro Z
 refine p_then (wp_seq ?_)
 obtain ⟨a0, hx1, hF⟩ := bnd_in hF
 refine f_region Z ?_; clear Z; intro Z
 refine s_runk tTree2 Z 2 rfl rfl ?_; clear Z a; intro a Z
 refine h_call Z H (js := [(0, false)]) rfl (caps := #[]) fn_27_YTree2 rfl rfl rfl rfl rfl (by decide) rfl rfl (fun D1 hS => have hq := c_ref15_Tree_at hx1 hS; hq) ?_; clear Z a; intro vv a w1 D2 hr hF2 Z
 obtain ⟨rfl, I1, K⟩ := hr
 have H : Hf I D w I1 w1 [OEref15_Tree b_t t] := hF2 K
 clear hF2 K
 refine s_runk tTree2 Z 5 rfl rfl ?_; clear Z a; intro a Z
 refine s_end Z [0, 4, 5, 6] rfl ?_; clear Z; intro Z
 refine p_then (wp_seq ?_)
 refine wp_seq (f_region Z ?_); clear Z; intro Z
 refine s_runk tTree2 Z 4 rfl rfl ?_; clear Z a; intro a Z
 obtain ⟨v1, H⟩ := H.openX 0 rfl
 replace H : Hf I D w I1 w1 [BxC b_t 38 [v1], OwC NEref15_Row 60 v1 t.l] := H
 refine s_ob Z (v := v1) rfl rfl (by decide) rfl (Ob_load tTree2 rfl rfl rfl ((H.bx 0 rfl).cell 0 rfl)) ?_; clear Z a; intro a Z
 refine s_ob Z (v := .int .i64 (t.l.length : Int)) rfl rfl (by decide) rfl (Ob_slen tTree2 rfl rfl rfl (H.owshape 1 rfl)) ?_; clear Z a; intro a Z
 refine s_runk tTree2 Z 1 rfl rfl ?_; clear Z a; intro a Z
 refine s_end Z [0, 4, 5, 6, 20] rfl ?_; clear Z; intro Z
 refine p_then ?_
 refine f_cond Z rfl (fun hc1 => ?_) (fun hc1 => ?_)
 ·replace hF := ite_t hc1 hF
  refine wp_seq (f_region Z ?_); clear Z; intro Z
  refine s_runk tTree2 Z 2 rfl rfl ?_; clear Z a; intro a Z
  refine s_end Z [0, 4, 5, 6] rfl ?_; clear Z; intro Z
  refine p_then (wp_ret ?_)
  refine p_then_r ?_
  replace H : Hf I D w I1 w1 [OEref15_Tree b_t t] := H.shutX (v1) [(0, false), (0, false)] rfl
  obtain rfl := some_in hF
  exact f_ret Z (run_results2 rfl Z rfl rfl) ⟨rfl, I1, (H.sub [(0, false)] rfl).eq rfl⟩
 ·replace hF := ite_f hc1 hF
  refine wp_skip ?_
  refine p_then (wp_seq ?_)
  obtain ⟨hg1, hF⟩ := chk_in hF
  refine f_region Z ?_; clear Z; intro Z
  refine s_runk tTree2 Z 3 rfl rfl ?_; clear Z a; intro a Z
  refine s_ob Z (v := v1) rfl rfl (by decide) rfl (Ob_load tTree2 rfl rfl rfl ((H.bx 0 rfl).cell 0 rfl)) ?_; clear Z a; intro a Z
  refine s_runk tTree2 Z 1 rfl rfl ?_; clear Z a; intro a Z
  refine s_ob Z (v := .pointer (some ⟨blkOf v1, oofOf v1 + (a0.1).toNat * 2, none⟩)) rfl rfl (by decide) rfl (Ob_sidx tTree2 rfl rfl rfl rfl (slPl (H.owA 1 rfl) hg1) hg1) ?_; clear Z a; intro a Z
  refine s_runk tTree2 Z 1 rfl rfl ?_; clear Z a; intro a Z
  refine s_ob Z (v := .string ((t.l.getD (a0.1).toNat default).k)) rfl rfl (by decide) rfl (Ob_load tTree2 rfl rfl rfl ((slFl (H.owA 1 rfl) hg1) 0 _ rfl)) ?_; clear Z a; intro a Z
  refine s_runk tTree2 Z 2 rfl rfl ?_; clear Z a; intro a Z
  refine s_end Z [4, 5] rfl ?_; clear Z; intro Z
  refine p_then (wp_ret ?_)
  replace H : Hf I D w I1 w1 [OEref15_Tree b_t t] := H.shutX (v1) [(0, false), (0, false)] rfl
  obtain rfl := some_in hF
  exact f_ret Z (run_results2 rfl Z rfl rfl) ⟨rfl, I1, (H.sub [(0, false)] rfl).eq rfl⟩

def F_ref05_Same_l1 (a0 : List ByteArray) (b : List ByteArray) (rc : Int → Option Bool) (sg : Int) : Option Bool := match sg with | i => if ((decide (i < (a0.length : Int))) && (decide (i < (b.length : Int)))) = true then (chk ((0 : Int) ≤ i ∧ i < (a0.length : Int)) (chk ((0 : Int) ≤ i ∧ i < (b.length : Int)) (if (!seqB (a0.getD (i).toNat default) (b.getD (i).toNat default)) = true then (some false) else (chk (inI (i + 1)) (rc (i + 1)))))) else (some true)

def F_ref05_Same (a0 : List ByteArray) (b : List ByteArray) : Option Bool := if ((a0.length : Int) != (b.length : Int)) = true then (some false) else (iter (F_ref05_Same_l1 a0 b) FU 0)

set_option maxHeartbeats 1000000 in
theorem c_ref05_Same {I D : Dm} {a0 : List ByteArray} {v1_a0 : Value} {b : List ByteArray} {v2_b : Value} {w : World} {rr : Bool} (hF : F_ref05_Same a0 b = some rr) (H : St I D w [SlC NS v1_a0 a0, SlC NS v2_b b]) :
  Calls Try.prog 11 #[v1_a0, v2_b] w (Ret fun vv w' => vv = .bool rr ∧ ∃ I', Hf I D w I' w' []) := by
 replace H := H.hf
 unfold F_ref05_Same at hF
 refine f_enter 32 Try.func11 rfl rfl (Nat.le_of_ble_eq_true rfl) fun a Z => ?_
 replace Z := Z.sub (ts := [0, 1]) rfl
 refine wp_seq (f_region Z ?_); clear Z; intro Z
 refine s_runk tTree2 Z 1 rfl rfl ?_; clear Z a; intro a Z
 refine s_end Z [0, 1, 4] rfl ?_; clear Z; intro Z
 refine p_then (wp_seq ?_)
 refine wp_seq (f_region Z ?_); clear Z; intro Z
 refine s_runk tTree2 Z 1 rfl rfl ?_; clear Z a; intro a Z
 refine s_ob Z (v := .int .i64 (a0.length : Int)) rfl rfl (by decide) rfl (Ob_slen tTree2 rfl rfl rfl (H.slshape 0 rfl)) ?_; clear Z a; intro a Z
 refine s_runk tTree2 Z 1 rfl rfl ?_; clear Z a; intro a Z
 refine s_ob Z (v := .int .i64 (b.length : Int)) rfl rfl (by decide) rfl (Ob_slen tTree2 rfl rfl rfl (H.slshape 1 rfl)) ?_; clear Z a; intro a Z
 refine s_runk tTree2 Z 1 rfl rfl ?_; clear Z a; intro a Z
 refine s_end Z [0, 1, 4, 10] rfl ?_; clear Z; intro Z
 refine p_then ?_
 refine f_cond Z rfl (fun hc1 => ?_) (fun hc1 => ?_)
 ·replace hF := ite_t hc1 hF
  refine wp_seq (f_region Z ?_); clear Z; intro Z
  refine s_runk tTree2 Z 1 rfl rfl ?_; clear Z a; intro a Z
  refine s_end Z [0, 1, 4] rfl ?_; clear Z; intro Z
  refine p_then (wp_ret ?_)
  refine p_then_r ?_
  obtain rfl := some_in hF
  exact f_ret Z (run_results1 rfl Z rfl) ⟨rfl, I, (H.sub [] rfl).eq rfl⟩
 ·replace hF := ite_f hc1 hF
  refine wp_skip ?_
  refine p_then (wp_seq ?_)
  refine wp_seq (f_region Z ?_); clear Z; intro Z
  refine s_runk tTree2 Z 1 rfl rfl ?_; clear Z a; intro a Z
  refine s_end Z [0, 1, 4, 5] rfl ?_; clear Z; intro Z
  refine p_then (wp_block ?_)
  refine f_iter hF (fun sg a' w' => match sg with | i => Sl 32 [(0, v1_a0), (1, v2_b), (4, .bool false), (5, .int .i64 i)] a' ∧ ∃ I2, Hf I D w I2 w' [SlC NS v1_a0 a0, SlC NS v2_b b]) ⟨Z.sub (ts := [0, 1, 4, 5]) rfl, ⟨I, (H.sub [(0, true), (1, true)] rfl).eq rfl⟩⟩ ?_
  clear Z H hF a
  rintro rc i a w1 ⟨Z, I1, H⟩ hF
  unfold F_ref05_Same_l1 at hF
  try dsimp only at hF
  refine wp_seq ?_
  refine wp_seq (f_region Z ?_); clear Z; intro Z
  refine s_runk tTree2 Z 2 rfl rfl ?_; clear Z a; intro a Z
  refine s_ob Z (v := .int .i64 (a0.length : Int)) rfl rfl (by decide) rfl (Ob_slen tTree2 rfl rfl rfl (H.slshape 0 rfl)) ?_; clear Z a; intro a Z
  refine s_runk tTree2 Z 2 rfl rfl ?_; clear Z a; intro a Z
  refine g_ob Z (p := (decide (i < (a0.length : Int)))) (v := .int .i64 i) (S' := [(5, .int .i64 i)]) rfl rfl rfl (wantB_t _) rfl (by decide) (fun hp hS => hS.sub (ts := [5]) rfl) (fun hp => Ob_c tTree2 rfl) ?_; clear Z a; intro a Z
  refine g_ob Z (p := (decide (i < (a0.length : Int)))) (v := v2_b) (S' := [(1, v2_b)]) rfl rfl rfl (wantB_t _) rfl (by decide) (fun hp hS => hS.sub (ts := [1]) rfl) (fun hp => Ob_c tTree2 rfl) ?_; clear Z a; intro a Z
  refine g_ob Z (p := (decide (i < (a0.length : Int)))) (v := .int .i64 (b.length : Int)) (S' := [(17, v2_b)]) rfl rfl rfl (wantB_t _) rfl (by decide) (fun hp hS => (hS.conv (t := 17) rfl (cond_t hp)).sub (ts := [17]) rfl) (fun hp => Ob_slen tTree2 rfl rfl rfl (H.slshape 1 rfl)) ?_; clear Z a; intro a Z
  refine g_ob Z (p := (decide (i < (a0.length : Int)))) (v := .bool (decide (i < (b.length : Int)))) (S' := [(16, .int .i64 i), (18, .int .i64 (b.length : Int))]) rfl rfl rfl (wantB_t _) rfl (by decide) (fun hp hS => ((hS.conv (t := 16) rfl (cond_t hp)).conv (t := 18) rfl (cond_t hp)).sub (ts := [16, 18]) rfl) (fun hp => Ob_c tTree2 rfl) ?_; clear Z a; intro a Z
  refine s_ob Z (v := .bool ((decide (i < (a0.length : Int))) && (decide (i < (b.length : Int))))) rfl rfl (by decide) rfl (Ob_pick rfl rfl rfl rfl (pick_and _ _)) ?_; clear Z a; intro a Z
  refine s_end Z [0, 1, 4, 5, 11, 12, 13, 14, 15, 20] rfl ?_; clear Z; intro Z
  refine p_then ?_
  refine f_cond Z rfl (fun hc2 => ?_) (fun hc2 => ?_)
  ·replace hF := ite_t hc2 hF
   refine wp_skip ?_
   refine p_then (wp_seq ?_)
   refine wp_block ?_
   refine wp_seq ?_
   obtain ⟨hg1, hF⟩ := chk_in hF
   obtain ⟨hg2, hF⟩ := chk_in hF
   refine f_quietd (by kernel_rfl) (by kernel_rfl) Z ?_; clear Z; intro Z
   refine q_runk tTree2 Z 2 rfl rfl ?_; clear Z a; intro a Z
   refine q_ob Z (v := .pointer (some ⟨blkOf v1_a0, oofOf v1_a0 + (i).toNat * 1, none⟩)) rfl rfl (by decide) rfl (fun _ hw => Ob_sidx tTree2 rfl rfl rfl rfl (slPl ((H.blw hw).sl 0 rfl) hg1) hg1) ?_; clear Z a; intro a Z
   refine q_ob Z (v := .string (a0.getD (i).toNat default)) rfl rfl (by decide) rfl (fun _ hw => Ob_load tTree2 rfl rfl rfl ((slFl ((H.blw hw).sl 0 rfl) hg1) 0 _ rfl)) ?_; clear Z a; intro a Z
   refine q_runk tTree2 Z 2 rfl rfl ?_; clear Z a; intro a Z
   refine q_ob Z (v := .pointer (some ⟨blkOf v2_b, oofOf v2_b + (i).toNat * 1, none⟩)) rfl rfl (by decide) rfl (fun _ hw => Ob_sidx tTree2 rfl rfl rfl rfl (slPl ((H.blw hw).sl 1 rfl) hg2) hg2) ?_; clear Z a; intro a Z
   refine q_ob Z (v := .string (b.getD (i).toNat default)) rfl rfl (by decide) rfl (fun _ hw => Ob_load tTree2 rfl rfl rfl ((slFl ((H.blw hw).sl 1 rfl) hg2) 0 _ rfl)) ?_; clear Z a; intro a Z
   refine q_runk tTree2 Z 1 rfl rfl ?_; clear Z a; intro a Z
   refine q_end Z [0, 1, 4, 5, 11, 12, 13, 14, 15, 20, 23, 24, 25, 26, 27, 28, 29, 30, 31] rfl ?_; clear Z; intro w2 hb Z
   replace H : Hf I D w I1 w2 [SlC NS v1_a0 a0, SlC NS v2_b b] := H.blw hb
   clear hb
   refine p_then ?_
   refine f_cond Z rfl (fun hc3 => ?_) (fun hc3 => ?_)
   ·replace hF := ite_t hc3 hF
    refine wp_seq (f_region Z ?_); clear Z; intro Z
    refine s_runk tTree2 Z 1 rfl rfl ?_; clear Z a; intro a Z
    refine s_end Z [0, 1, 4, 5, 11, 12, 13, 14, 15, 20, 23, 24, 25, 26, 27, 28, 29, 30, 31] rfl ?_; clear Z; intro Z
    refine p_then (wp_ret ?_)
    refine p_blk_r ?_
    refine p_then_r ?_
    refine p_then_r ?_
    refine p_blk_r ?_
    refine p_then_r ?_
    obtain rfl := some_in hF
    exact f_ret Z (run_results1 rfl Z rfl) ⟨rfl, I1, (H.sub [] rfl).eq rfl⟩
   ·replace hF := ite_f hc3 hF
    refine wp_skip ?_
    refine p_blk ?_
    refine p_then ?_
    obtain ⟨hg3, hF⟩ := chk_in hF
    refine f_region Z ?_; clear Z; intro Z
    refine s_runk tTree2 Z 1 rfl rfl ?_; clear Z a; intro a Z
    refine s_ob Z (v := .int .i64 (i + 1)) rfl rfl (by decide) rfl (Ob_add rfl rfl rfl (wrI hg3)) ?_; clear Z a; intro a Z
    refine s_runk tTree2 Z 1 rfl rfl ?_; clear Z a; intro a Z
    refine s_end Z [0, 1, 4, 5, 11, 12, 13, 14, 15, 20, 23, 24, 25, 26, 27, 28, 29, 30, 31, 21, 22] rfl ?_; clear Z; intro Z
    refine p_then ?_
    exact ⟨(i + 1), ⟨Z.sub (ts := [0, 1, 4, 5]) rfl, ⟨I1, (H.sub [(0, true), (1, true)] rfl).eq rfl⟩⟩, hF⟩
  ·replace hF := ite_f hc2 hF
   refine wp_exit ?_
   refine p_then_x ?_
   refine p_then_x ?_
   refine f_exit_here ?_
   refine p_then (wp_seq (f_region Z ?_)); clear Z; intro Z
   refine s_runk tTree2 Z 1 rfl rfl ?_; clear Z a; intro a Z
   refine s_end Z [4] rfl ?_; clear Z; intro Z
   refine p_then (wp_ret ?_)
   obtain rfl := some_in hF
   exact f_ret Z (run_results1 rfl Z rfl) ⟨rfl, I1, (H.sub [] rfl).eq rfl⟩

end Go.Proofs.Ytfcdghlgcnjkoaa
