/- Links: two sides, plain: a step. -/
import Derived.Test.YthomnhhjgcabkaaYLinkS
import Derived.Test.YthomnhhjgcabkaaYLinkI
namespace Go.Proofs.Ythomnhhjgcabkaa

def delN {α : Type} (l : List α) (k : Nat) : List α := l.take k ++ l.drop (k + 1)

theorem delN_len {α : Type} {l : List α} {k : Nat} (h : k < l.length) : (delN l k).length = l.length - 1 := by
 unfold delN
 rw [List.length_append, List.length_take, List.length_drop]; omega

theorem delN_get {α : Type} (d : α) {l : List α} {k : Nat} (h : k < l.length) (i : Nat) : (delN l k).getD i d = l.getD (if i < k then i else i + 1) d := by
 have hl : (l.take k).length = k := by rw [List.length_take]; omega
 unfold delN
 by_cases c : i < k
 ·rw [if_pos c]
  simp only [List.getD_eq_getElem?_getD]
  rw [List.getElem?_append_left (by omega), List.getElem?_take, if_pos c]
 ·rw [if_neg c]
  simp only [List.getD_eq_getElem?_getD]
  rw [List.getElem?_append_right (by omega), List.getElem?_drop, hl, show k + 1 + (i - k) = i + 1 by omega]

section
variable {A B : Elink_Link} {way : List ESeg} {dst : List Int} {S0 S1 T0 T1 n : Int}
theorem Wy_del {k : Nat} (hk : k < way.length) (hl : dst.length = way.length) {t : Int} {s : ESeg} (h : Wy (delN way k) (delN dst k) t s) : Wy way dst t s := by
 obtain ⟨i, h1, h2, h3⟩ := h
 rw [delN_len hk] at h1
 rw [delN_get _ (by omega)] at h2
 rw [delN_get _ hk] at h3
 exact ⟨_, by split <;> omega, h2, h3⟩

theorem Wy_app {l : List ESeg} {d t : Int} {s : ESeg} (hl : dst.length = way.length) (h : Wy (way ++ l) (dst ++ List.replicate l.length d) t s) : Wy way dst t s ∨ (d = t ∧ s ∈ l) := by
 obtain ⟨i, h1, h2, h3⟩ := h
 rw [List.length_append] at h1
 simp only [List.getD_eq_getElem?_getD] at h2 h3
 by_cases c : i < way.length
 ·left
  rw [List.getElem?_append_left (by omega)] at h2 h3
  exact ⟨i, c, by rw [List.getD_eq_getElem?_getD]; exact h2, by rw [List.getD_eq_getElem?_getD]; exact h3⟩
 ·right
  rw [List.getElem?_append_right (by omega)] at h2 h3
  rw [List.getElem?_replicate, if_pos (by omega)] at h2
  have hlt : i - way.length < l.length := by omega
  rw [List.getElem?_eq_getElem hlt] at h3
  exact ⟨h2, by rw [← h3]; exact List.getElem_mem hlt⟩

theorem gone_ok (h : PI n A B way dst S0 S1 T0 T1) {k : Nat} (hk : k < way.length) : F_law22_pair_gone (mkP A B way dst S0 S1 T0 T1) (k : Int) = some (mkP A B (delN way k) (delN dst k) S0 S1 T0 T1) ∧ PI n A B (delN way k) (delN dst k) S0 S1 T0 T1 := by
 obtain ⟨p1, p2, p3, p4, p5, p6, p7, ⟨H0, M0, d0⟩, ⟨H1, M1, d1⟩⟩ := h
 refine ⟨?_, by rw [delN_len hk, delN_len (by omega)]; omega, fun i hi => ?_, by rw [delN_len hk]; omega, p4, p5, p6, p7, ⟨H0, M0, d0.mono fun s hs => .inl (Wy_del hk p1 hs)⟩, ⟨H1, M1, d1.mono fun s hs => .inl (Wy_del hk p1 hs)⟩⟩
 ·unfold F_law22_pair_gone
  have e1 : (mkP A B way dst S0 S1 T0 T1).way = way := rfl
  have e2 : (mkP A B way dst S0 S1 T0 T1).to_ = dst := rfl
  have e3 : ((k : Int) + 1).toNat = k + 1 := by omega
  rw [e1, e2, toNat_cast, e3, chk_t (by omega), chk_t (by rw [List.length_nil, List.length_take]; omega), chk_t (by unfold inI; omega), chk_t (by omega), chk_t (by rw [List.nil_append, List.length_take, List.length_drop]; omega), chk_t (by omega), chk_t (by rw [List.length_nil, List.length_take]; omega), chk_t (by unfold inI; omega), chk_t (by omega), chk_t (by rw [List.nil_append, List.length_take, List.length_drop]; omega)]
  rfl
 ·rw [delN_len (by omega)] at hi
  rw [delN_get _ (by omega)]
  exact p2 _ (by split <;> omega)

-- what goes out
theorem outs_len4 (l : Elink_Link) (again : Bool) : (outsL l again).length ≤ 4 := by
 unfold outsL
 split
 ·simp
 ·rw [segsL_len]; unfold winL; omega

theorem out_loop {side : Int} (hs : side = 0 ∨ side = 1) (o : List ESeg × Elink_Link) (ho : o.1.length ≤ 4) : ∀ (N i : Nat) (way : List ESeg) (dst : List Int), o.1.length - i < N → i ≤ o.1.length → way.length ≤ 200 → dst.length = way.length →
  ∃ m, m ≤ o.1.length - i ∧ (way.length + (o.1.length - i) ≤ 200 → m = o.1.length - i) ∧ way.length + m ≤ 200 ∧ iter (F_law22_pair_out_l2 side o) N ((i : Int), mkP A B way dst S0 S1 T0 T1) = some (mkP A B (way ++ (o.1.drop i).take m) (dst ++ List.replicate m (1 - side)) S0 S1 T0 T1)
 | 0, _, _, _, h, _, _, _ => by omega
 | N + 1, i, way, dst, hN, hi, hw, hd => by
  show ∃ m, m ≤ o.1.length - i ∧ (way.length + (o.1.length - i) ≤ 200 → m = o.1.length - i) ∧ way.length + m ≤ 200 ∧ F_law22_pair_out_l2 side o (iter (F_law22_pair_out_l2 side o) N) ((i : Int), mkP A B way dst S0 S1 T0 T1) = _
  generalize e0 : iter (F_law22_pair_out_l2 side o) N = rc
  unfold F_law22_pair_out_l2
  dsimp only
  have e1 : (mkP A B way dst S0 S1 T0 T1).way = way := rfl
  have e2 : (mkP A B way dst S0 S1 T0 T1).to_ = dst := rfl
  rw [e1, e2, toNat_cast]
  by_cases c : i < o.1.length ∧ way.length < 200
  ·have hin : inI (1 - side) := by rcases hs with rfl | rfl <;> (unfold inI; omega)
   rw [if_pos (by rw [decide_eq_true (show (i : Int) < (o.1.length : Int) by omega), decide_eq_true (show (i : Int) < 9 by omega), decide_eq_true (show (way.length : Int) < 200 by omega)]; rfl), chk_t (by omega), chk_t (by rw [List.length_singleton]; omega), chk_t hin, chk_t (by rw [List.length_singleton]; omega), chk_t (by unfold inI; omega), ← e0]
   obtain ⟨m, m1, m2, m3, m4⟩ := out_loop hs o ho N (i + 1) (way ++ [o.1.getD i default]) (dst ++ [1 - side]) (by omega) (by omega) (by rw [List.length_append, List.length_singleton]; omega) (by rw [List.length_append, List.length_append, List.length_singleton, List.length_singleton]; omega)
   rw [List.length_append, List.length_singleton] at m2 m3
   refine ⟨m + 1, by omega, fun q => by have := m2 (by omega); omega, by omega, ?_⟩
   have e3 : (way ++ [o.1.getD i default]) ++ (o.1.drop (i + 1)).take m = way ++ (o.1.drop i).take (m + 1) := by
    rw [drop_cons (d := default) c.1, List.take_succ_cons, List.append_assoc]; rfl
   have e4 : (dst ++ [1 - side]) ++ List.replicate m (1 - side) = dst ++ List.replicate (m + 1) (1 - side) := by
    rw [List.replicate_succ, List.append_assoc]; rfl
   rw [e3, e4] at m4
   exact m4
  ·refine ⟨0, Nat.zero_le _, fun q => by omega, by omega, ?_⟩
   rw [if_neg (by
    intro hh
    rw [Bool.and_eq_true, Bool.and_eq_true, decide_eq_true_eq, decide_eq_true_eq, decide_eq_true_eq] at hh
    exact c ⟨by omega, by omega⟩), List.take_zero, List.append_nil, List.replicate_zero, List.append_nil]

theorem out24 : F_law22_pair_out_l4 = F_law22_pair_out_l2 := rfl

theorem Dir.nx_le {A : Elink_Link} {S rb : Int} {pr : Elink_side} {T : Int} {W : ESeg → Prop} {H : Hs} {M : Ms} (h : Dir A S rb pr T W H M) (hS : 0 ≤ S) : 0 ≤ pr.next ∧ pr.next ≤ S := by
 have := h.len pr.boot pr.stream
 refine ⟨h.nx.1, ?_⟩
 rcases h.nx.2 with q | q <;> omega

theorem out0_ok (hn : n ≤ 60000) (h : PI n A B way dst S0 S1 T0 T1) (again : Bool) : ∃ m, m ≤ (outsL A again).length ∧ (way.length + (outsL A again).length ≤ 200 → m = (outsL A again).length) ∧
  F_law22_pair_out (mkP A B way dst S0 S1 T0 T1) 0 again = some (mkP (outL A) B (way ++ (outsL A again).take m) (dst ++ List.replicate m 1) S0 S1 T0 T1) ∧ PI n (outL A) B (way ++ (outsL A again).take m) (dst ++ List.replicate m 1) S0 S1 T0 T1 := by
 obtain ⟨p1, p2, p3, p4, p5, p6, p7, ⟨H0, M0, d0⟩, ⟨H1, M1, d1⟩⟩ := h
 obtain ⟨m, m1, m2, m3, m4⟩ := out_loop (A := outL A) (B := B) (S0 := S0) (S1 := S1) (T0 := T0) (T1 := T1) (side := 0) (.inl rfl) (outsL A again, outL A) (outs_len4 A again) FU 0 way dst (by have := outs_len4 A again; unfold FU; simp only; omega) (Nat.zero_le _) p3 p1
 have hn1 := d1.nx_le p5.1
 have hout := d0.out ⟨p4.1, by omega⟩ ⟨hn1.1, by omega⟩ again
 simp only [List.drop_zero, Nat.sub_zero] at m1 m2 m4
 have hlm : ((outsL A again).take m).length = m := by rw [List.length_take]; omega
 refine ⟨m, m1, m2, ?_, ?_⟩
 ·unfold F_law22_pair_out
  rw [show ((0 : Int) == 0) = true from rfl, if_pos rfl]
  show (F_link_Link_Out A again).bind _ = _
  rw [link_Out d0.ok, Option.bind_some]
  exact m4
 ·refine ⟨by rw [List.length_append, List.length_append, List.length_replicate, hlm]; omega, fun i hi => ?_, by rw [List.length_append, hlm]; exact m3, p4, p5, p6, p7, ⟨H0, M0, ?_⟩, ⟨H1, M1, ?_⟩⟩
  ·rw [List.length_append, List.length_replicate] at hi
   rw [List.getD_eq_getElem?_getD]
   by_cases c : i < dst.length
   ·rw [List.getElem?_append_left c, ← List.getD_eq_getElem?_getD]; exact p2 i c
   ·rw [List.getElem?_append_right (by omega), List.getElem?_replicate, if_pos (by omega)]; exact .inr rfl
  ·refine (d0.mono (W' := Wy (way ++ (outsL A again).take m) (dst ++ List.replicate m 1) 1) fun s hs => ?_).congrA (out_ok d0.ok) rfl rfl rfl rfl rfl
   rw [← hlm] at hs
   rw [hlm] at hs
   have hs' : Wy (way ++ (outsL A again).take m) (dst ++ List.replicate ((outsL A again).take m).length 1) 1 s := by rw [hlm]; exact hs
   rcases Wy_app p1 hs' with q | ⟨_, q⟩
   ·exact .inl q
   ·exact .inr (hout s (List.mem_of_mem_take q))
  ·refine Dir.mono (W := Wy way dst 0) d1 fun s hs => ?_
   have hs' : Wy (way ++ (outsL A again).take m) (dst ++ List.replicate ((outsL A again).take m).length 1) 0 s := by rw [hlm]; exact hs
   rcases Wy_app p1 hs' with q | ⟨q, _⟩
   ·exact .inl q
   ·cases q

theorem out1_ok (hn : n ≤ 60000) (h : PI n A B way dst S0 S1 T0 T1) (again : Bool) : ∃ m, m ≤ (outsL B again).length ∧ (way.length + (outsL B again).length ≤ 200 → m = (outsL B again).length) ∧
  F_law22_pair_out (mkP A B way dst S0 S1 T0 T1) 1 again = some (mkP A (outL B) (way ++ (outsL B again).take m) (dst ++ List.replicate m 0) S0 S1 T0 T1) ∧ PI n A (outL B) (way ++ (outsL B again).take m) (dst ++ List.replicate m 0) S0 S1 T0 T1 := by
 obtain ⟨p1, p2, p3, p4, p5, p6, p7, ⟨H0, M0, d0⟩, ⟨H1, M1, d1⟩⟩ := h
 obtain ⟨m, m1, m2, m3, m4⟩ := out_loop (A := A) (B := outL B) (S0 := S0) (S1 := S1) (T0 := T0) (T1 := T1) (side := 1) (.inr rfl) (outsL B again, outL B) (outs_len4 B again) FU 0 way dst (by have := outs_len4 B again; unfold FU; simp only; omega) (Nat.zero_le _) p3 p1
 have hn1 := d0.nx_le p4.1
 have hout := d1.out ⟨p5.1, by omega⟩ ⟨hn1.1, by omega⟩ again
 simp only [List.drop_zero, Nat.sub_zero] at m1 m2 m4
 have hlm : ((outsL B again).take m).length = m := by rw [List.length_take]; omega
 refine ⟨m, m1, m2, ?_, ?_⟩
 ·unfold F_law22_pair_out
  rw [show ((1 : Int) == 0) = false from rfl, if_neg (by decide), show ((1 : Int) == 1) = true from rfl, if_pos rfl, out24]
  show (F_link_Link_Out B again).bind _ = _
  rw [link_Out d1.ok, Option.bind_some]
  exact m4
 ·refine ⟨by rw [List.length_append, List.length_append, List.length_replicate, hlm]; omega, fun i hi => ?_, by rw [List.length_append, hlm]; exact m3, p4, p5, p6, p7, ⟨H0, M0, ?_⟩, ⟨H1, M1, ?_⟩⟩
  ·rw [List.length_append, List.length_replicate] at hi
   rw [List.getD_eq_getElem?_getD]
   by_cases c : i < dst.length
   ·rw [List.getElem?_append_left c, ← List.getD_eq_getElem?_getD]; exact p2 i c
   ·rw [List.getElem?_append_right (by omega), List.getElem?_replicate, if_pos (by omega)]; exact .inl rfl
  ·refine Dir.mono (W := Wy way dst 1) d0 fun s hs => ?_
   have hs' : Wy (way ++ (outsL B again).take m) (dst ++ List.replicate ((outsL B again).take m).length 0) 1 s := by rw [hlm]; exact hs
   rcases Wy_app p1 hs' with q | ⟨q, _⟩
   ·exact .inl q
   ·cases q
  ·refine (d1.mono (W' := Wy (way ++ (outsL B again).take m) (dst ++ List.replicate m 0) 0) fun s hs => ?_).congrA (out_ok d1.ok) rfl rfl rfl rfl rfl
   have hs' : Wy (way ++ (outsL B again).take m) (dst ++ List.replicate ((outsL B again).take m).length 0) 0 s := by rw [hlm]; exact hs
   rcases Wy_app p1 hs' with q | ⟨_, q⟩
   ·exact .inl q
   ·exact .inr (hout s (List.mem_of_mem_take q))

end
end Go.Proofs.Ythomnhhjgcabkaa
