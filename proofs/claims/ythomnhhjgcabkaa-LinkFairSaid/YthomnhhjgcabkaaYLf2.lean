/- Links: two sides, plain: steps, and what is acknowledged -/
import Derived.Test.YthomnhhjgcabkaaYLf1
import Derived.Test.YthomnhhjgcabkaaYLinkV
import Derived.Test.YthomnhhjgcabkaaYLinkI
import Derived.Test.YthomnhhjgcabkaaYLinkK
namespace Go.Proofs.Ythomnhhjgcabkaa

def delN {α : Type} (l : List α) (k : Nat) : List α := l.take k ++ l.drop (k + 1)

theorem delN_len {α : Type} {l : List α} {k : Nat} (h : k < l.length) : (delN l k).length = l.length - 1 := by
 unfold delN
 rw [List.length_append, List.length_take, List.length_drop]; omega

theorem delN_get {α : Type} (d : α) {l : List α} {k : Nat} (h : k < l.length) (i : Nat) : (delN l k).getD i d = l.getD (if i < k then i else i + 1) d := by
 have hl : (l.take k).length = k := by rw [List.length_take]; omega
 unfold delN
 by_cases c : i < k
 ·rw [if_pos c]
  simp only [List.getD_eq_getElem?_getD]
  rw [List.getElem?_append_left (by omega), List.getElem?_take, if_pos c]
 ·rw [if_neg c]
  simp only [List.getD_eq_getElem?_getD]
  rw [List.getElem?_append_right (by omega), List.getElem?_drop, hl, show k + 1 + (i - k) = i + 1 by omega]

section
variable {A B : Elink_Link} {way : List ESeg} {dst : List Int} {S0 S1 T0 T1 n : Int}
theorem Wy_del {k : Nat} (hk : k < way.length) (hl : dst.length = way.length) {t : Int} {s : ESeg} (h : Wy (delN way k) (delN dst k) t s) : Wy way dst t s := by
 obtain ⟨i, h1, h2, h3⟩ := h
 rw [delN_len hk] at h1
 rw [delN_get _ (by omega)] at h2
 rw [delN_get _ hk] at h3
 exact ⟨_, by split <;> omega, h2, h3⟩

theorem Wy_app {l : List ESeg} {d t : Int} {s : ESeg} (hl : dst.length = way.length) (h : Wy (way ++ l) (dst ++ List.replicate l.length d) t s) : Wy way dst t s ∨ (d = t ∧ s ∈ l) := by
 obtain ⟨i, h1, h2, h3⟩ := h
 rw [List.length_append] at h1
 simp only [List.getD_eq_getElem?_getD] at h2 h3
 by_cases c : i < way.length
 ·left
  rw [List.getElem?_append_left (by omega)] at h2 h3
  exact ⟨i, c, by rw [List.getD_eq_getElem?_getD]; exact h2, by rw [List.getD_eq_getElem?_getD]; exact h3⟩
 ·right
  rw [List.getElem?_append_right (by omega)] at h2 h3
  rw [List.getElem?_replicate, if_pos (by omega)] at h2
  have hlt : i - way.length < l.length := by omega
  rw [List.getElem?_eq_getElem hlt] at h3
  exact ⟨h2, by rw [← h3]; exact List.getElem_mem hlt⟩

theorem gone_ok (h : PI n A B way dst S0 S1 T0 T1) {k : Nat} (hk : k < way.length) : F_law22_pair_gone (mkP A B way dst S0 S1 T0 T1) (k : Int) = some (mkP A B (delN way k) (delN dst k) S0 S1 T0 T1) ∧ PI n A B (delN way k) (delN dst k) S0 S1 T0 T1 := by
 obtain ⟨p1, p2, p3, p4, p5, p6, p7, ⟨H0, M0, d0⟩, ⟨H1, M1, d1⟩⟩ := h
 refine ⟨?_, by rw [delN_len hk, delN_len (by omega)]; omega, fun i hi => ?_, by rw [delN_len hk]; omega, p4, p5, p6, p7, ⟨H0, M0, d0.mono fun s hs => .inl (Wy_del hk p1 hs)⟩, ⟨H1, M1, d1.mono fun s hs => .inl (Wy_del hk p1 hs)⟩⟩
 ·unfold F_law22_pair_gone
  have e1 : (mkP A B way dst S0 S1 T0 T1).way = way := rfl
  have e2 : (mkP A B way dst S0 S1 T0 T1).to_ = dst := rfl
  have e3 : ((k : Int) + 1).toNat = k + 1 := by omega
  rw [e1, e2, toNat_cast, e3, chk_t (by omega), chk_t (by rw [List.length_nil, List.length_take]; omega), chk_t (by unfold inI; omega), chk_t (by omega), chk_t (by rw [List.nil_append, List.length_take, List.length_drop]; omega), chk_t (by omega), chk_t (by rw [List.length_nil, List.length_take]; omega), chk_t (by unfold inI; omega), chk_t (by omega), chk_t (by rw [List.nil_append, List.length_take, List.length_drop]; omega)]
  rfl
 ·rw [delN_len (by omega)] at hi
  rw [delN_get _ (by omega)]
  exact p2 _ (by split <;> omega)

-- what goes out
theorem outs_len4 (l : Elink_Link) (again : Bool) : (outsL l again).length ≤ 4 := by
 unfold outsL
 split
 ·simp
 ·rw [segsL_len]; unfold winL; omega

theorem out_loop {side : Int} (hs : side = 0 ∨ side = 1) (o : List ESeg × Elink_Link) (ho : o.1.length ≤ 4) : ∀ (N i : Nat) (way : List ESeg) (dst : List Int), o.1.length - i < N → i ≤ o.1.length → way.length ≤ 200 → dst.length = way.length →
  ∃ m, m ≤ o.1.length - i ∧ (way.length + (o.1.length - i) ≤ 200 → m = o.1.length - i) ∧ way.length + m ≤ 200 ∧ iter (F_law22_pair_out_l2 side o) N ((i : Int), mkP A B way dst S0 S1 T0 T1) = some (mkP A B (way ++ (o.1.drop i).take m) (dst ++ List.replicate m (1 - side)) S0 S1 T0 T1)
 | 0, _, _, _, h, _, _, _ => by omega
 | N + 1, i, way, dst, hN, hi, hw, hd => by
  show ∃ m, m ≤ o.1.length - i ∧ (way.length + (o.1.length - i) ≤ 200 → m = o.1.length - i) ∧ way.length + m ≤ 200 ∧ F_law22_pair_out_l2 side o (iter (F_law22_pair_out_l2 side o) N) ((i : Int), mkP A B way dst S0 S1 T0 T1) = _
  generalize e0 : iter (F_law22_pair_out_l2 side o) N = rc
  unfold F_law22_pair_out_l2
  dsimp only
  have e1 : (mkP A B way dst S0 S1 T0 T1).way = way := rfl
  have e2 : (mkP A B way dst S0 S1 T0 T1).to_ = dst := rfl
  rw [e1, e2, toNat_cast]
  by_cases c : i < o.1.length ∧ way.length < 200
  ·have hin : inI (1 - side) := by rcases hs with rfl | rfl <;> (unfold inI; omega)
   rw [if_pos (by rw [decide_eq_true (show (i : Int) < (o.1.length : Int) by omega), decide_eq_true (show (i : Int) < 9 by omega), decide_eq_true (show (way.length : Int) < 200 by omega)]; rfl), chk_t (by omega), chk_t (by rw [List.length_singleton]; omega), chk_t hin, chk_t (by rw [List.length_singleton]; omega), chk_t (by unfold inI; omega), ← e0]
   obtain ⟨m, m1, m2, m3, m4⟩ := out_loop hs o ho N (i + 1) (way ++ [o.1.getD i default]) (dst ++ [1 - side]) (by omega) (by omega) (by rw [List.length_append, List.length_singleton]; omega) (by rw [List.length_append, List.length_append, List.length_singleton, List.length_singleton]; omega)
   rw [List.length_append, List.length_singleton] at m2 m3
   refine ⟨m + 1, by omega, fun q => by have := m2 (by omega); omega, by omega, ?_⟩
   have e3 : (way ++ [o.1.getD i default]) ++ (o.1.drop (i + 1)).take m = way ++ (o.1.drop i).take (m + 1) := by
    rw [drop_cons (d := default) c.1, List.take_succ_cons, List.append_assoc]; rfl
   have e4 : (dst ++ [1 - side]) ++ List.replicate m (1 - side) = dst ++ List.replicate (m + 1) (1 - side) := by
    rw [List.replicate_succ, List.append_assoc]; rfl
   rw [e3, e4] at m4
   exact m4
  ·refine ⟨0, Nat.zero_le _, fun q => by omega, by omega, ?_⟩
   rw [if_neg (by
    intro hh
    rw [Bool.and_eq_true, Bool.and_eq_true, decide_eq_true_eq, decide_eq_true_eq, decide_eq_true_eq] at hh
    exact c ⟨by omega, by omega⟩), List.take_zero, List.append_nil, List.replicate_zero, List.append_nil]

theorem out24 : F_law22_pair_out_l4 = F_law22_pair_out_l2 := rfl

theorem Dir.nx_le {A : Elink_Link} {S rb : Int} {pr : Elink_side} {T : Int} {W : ESeg → Prop} {H : Hs} {M : Ms} (h : Dir A S rb pr T W H M) (hS : 0 ≤ S) : 0 ≤ pr.next ∧ pr.next ≤ S := by
 have := h.len pr.boot pr.stream
 refine ⟨h.nx.1, ?_⟩
 rcases h.nx.2 with q | q <;> omega

theorem out0_ok (hn : n ≤ 60000) (h : PI n A B way dst S0 S1 T0 T1) (again : Bool) : ∃ m, m ≤ (outsL A again).length ∧ (way.length + (outsL A again).length ≤ 200 → m = (outsL A again).length) ∧
  F_law22_pair_out (mkP A B way dst S0 S1 T0 T1) 0 again = some (mkP (outL A) B (way ++ (outsL A again).take m) (dst ++ List.replicate m 1) S0 S1 T0 T1) ∧ PI n (outL A) B (way ++ (outsL A again).take m) (dst ++ List.replicate m 1) S0 S1 T0 T1 := by
 obtain ⟨p1, p2, p3, p4, p5, p6, p7, ⟨H0, M0, d0⟩, ⟨H1, M1, d1⟩⟩ := h
 obtain ⟨m, m1, m2, m3, m4⟩ := out_loop (A := outL A) (B := B) (S0 := S0) (S1 := S1) (T0 := T0) (T1 := T1) (side := 0) (.inl rfl) (outsL A again, outL A) (outs_len4 A again) FU 0 way dst (by have := outs_len4 A again; unfold FU; simp only; omega) (Nat.zero_le _) p3 p1
 have hn1 := d1.nx_le p5.1
 have hout := d0.out ⟨p4.1, by omega⟩ ⟨hn1.1, by omega⟩ again
 simp only [List.drop_zero, Nat.sub_zero] at m1 m2 m4
 have hlm : ((outsL A again).take m).length = m := by rw [List.length_take]; omega
 refine ⟨m, m1, m2, ?_, ?_⟩
 ·unfold F_law22_pair_out
  rw [show ((0 : Int) == 0) = true from rfl, if_pos rfl]
  show (F_link_Link_Out A again).bind _ = _
  rw [link_Out d0.ok, Option.bind_some]
  exact m4
 ·refine ⟨by rw [List.length_append, List.length_append, List.length_replicate, hlm]; omega, fun i hi => ?_, by rw [List.length_append, hlm]; exact m3, p4, p5, p6, p7, ⟨H0, M0, ?_⟩, ⟨H1, M1, ?_⟩⟩
  ·rw [List.length_append, List.length_replicate] at hi
   rw [List.getD_eq_getElem?_getD]
   by_cases c : i < dst.length
   ·rw [List.getElem?_append_left c, ← List.getD_eq_getElem?_getD]; exact p2 i c
   ·rw [List.getElem?_append_right (by omega), List.getElem?_replicate, if_pos (by omega)]; exact .inr rfl
  ·refine (d0.mono (W' := Wy (way ++ (outsL A again).take m) (dst ++ List.replicate m 1) 1) fun s hs => ?_).congrA (out_ok d0.ok) rfl rfl rfl rfl rfl
   rw [← hlm] at hs
   rw [hlm] at hs
   have hs' : Wy (way ++ (outsL A again).take m) (dst ++ List.replicate ((outsL A again).take m).length 1) 1 s := by rw [hlm]; exact hs
   rcases Wy_app p1 hs' with q | ⟨_, q⟩
   ·exact .inl q
   ·exact .inr (hout s (List.mem_of_mem_take q))
  ·refine Dir.mono (W := Wy way dst 0) d1 fun s hs => ?_
   have hs' : Wy (way ++ (outsL A again).take m) (dst ++ List.replicate ((outsL A again).take m).length 1) 0 s := by rw [hlm]; exact hs
   rcases Wy_app p1 hs' with q | ⟨q, _⟩
   ·exact .inl q
   ·cases q

theorem out1_ok (hn : n ≤ 60000) (h : PI n A B way dst S0 S1 T0 T1) (again : Bool) : ∃ m, m ≤ (outsL B again).length ∧ (way.length + (outsL B again).length ≤ 200 → m = (outsL B again).length) ∧
  F_law22_pair_out (mkP A B way dst S0 S1 T0 T1) 1 again = some (mkP A (outL B) (way ++ (outsL B again).take m) (dst ++ List.replicate m 0) S0 S1 T0 T1) ∧ PI n A (outL B) (way ++ (outsL B again).take m) (dst ++ List.replicate m 0) S0 S1 T0 T1 := by
 obtain ⟨p1, p2, p3, p4, p5, p6, p7, ⟨H0, M0, d0⟩, ⟨H1, M1, d1⟩⟩ := h
 obtain ⟨m, m1, m2, m3, m4⟩ := out_loop (A := A) (B := outL B) (S0 := S0) (S1 := S1) (T0 := T0) (T1 := T1) (side := 1) (.inr rfl) (outsL B again, outL B) (outs_len4 B again) FU 0 way dst (by have := outs_len4 B again; unfold FU; simp only; omega) (Nat.zero_le _) p3 p1
 have hn1 := d0.nx_le p4.1
 have hout := d1.out ⟨p5.1, by omega⟩ ⟨hn1.1, by omega⟩ again
 simp only [List.drop_zero, Nat.sub_zero] at m1 m2 m4
 have hlm : ((outsL B again).take m).length = m := by rw [List.length_take]; omega
 refine ⟨m, m1, m2, ?_, ?_⟩
 ·unfold F_law22_pair_out
  rw [show ((1 : Int) == 0) = false from rfl, if_neg (by decide), show ((1 : Int) == 1) = true from rfl, if_pos rfl, out24]
  show (F_link_Link_Out B again).bind _ = _
  rw [link_Out d1.ok, Option.bind_some]
  exact m4
 ·refine ⟨by rw [List.length_append, List.length_append, List.length_replicate, hlm]; omega, fun i hi => ?_, by rw [List.length_append, hlm]; exact m3, p4, p5, p6, p7, ⟨H0, M0, ?_⟩, ⟨H1, M1, ?_⟩⟩
  ·rw [List.length_append, List.length_replicate] at hi
   rw [List.getD_eq_getElem?_getD]
   by_cases c : i < dst.length
   ·rw [List.getElem?_append_left c, ← List.getD_eq_getElem?_getD]; exact p2 i c
   ·rw [List.getElem?_append_right (by omega), List.getElem?_replicate, if_pos (by omega)]; exact .inl rfl
  ·refine Dir.mono (W := Wy way dst 1) d0 fun s hs => ?_
   have hs' : Wy (way ++ (outsL B again).take m) (dst ++ List.replicate ((outsL B again).take m).length 0) 1 s := by rw [hlm]; exact hs
   rcases Wy_app p1 hs' with q | ⟨q, _⟩
   ·exact .inl q
   ·cases q
  ·refine (d1.mono (W' := Wy (way ++ (outsL B again).take m) (dst ++ List.replicate m 0) 0) fun s hs => ?_).congrA (out_ok d1.ok) rfl rfl rfl rfl rfl
   have hs' : Wy (way ++ (outsL B again).take m) (dst ++ List.replicate ((outsL B again).take m).length 0) 0 s := by rw [hlm]; exact hs
   rcases Wy_app p1 hs' with q | ⟨_, q⟩
   ·exact .inl q
   ·exact .inr (hout s (List.mem_of_mem_take q))

end

section
variable {A B : Elink_Link} {way : List ESeg} {dst : List Int} {S0 S1 T0 T1 n : Int}
theorem PI.more (h : PI n A B way dst S0 S1 T0 T1) : PI (n + 1) A B way dst S0 S1 T0 T1 := by
 obtain ⟨p1, p2, p3, p4, p5, p6, p7, d0, d1⟩ := h
 exact ⟨p1, p2, p3, by omega, by omega, by omega, by omega, d0, d1⟩

theorem send_A (h : PI n A B way dst S0 S1 T0 T1) (hn : n ≤ 60000) : ∃ S', PI (n + 1) (sendL A (numS (S0 + 1))).2 B way dst S' S1 T0 T1 ∧ ((sendL A (numS (S0 + 1))).1 = 0 → S' = S0 + 1) ∧ (¬ (sendL A (numS (S0 + 1))).1 = 0 → S' = S0) := by
 obtain ⟨p1, p2, p3, p4, p5, p6, p7, ⟨H0, M0, d0⟩, d1⟩ := h
 have ok := send_ok d0.ok (numS (S0 + 1))
 unfold sendL at ok ⊢
 rw [if_neg (by rw [numS_size]; decide)] at ok ⊢
 by_cases c : A.q.l.length ≥ 8
 ·rw [if_pos c]
  exact ⟨S0, ⟨p1, p2, p3, by omega, by omega, by show A.boot ≤ n + 1 + 1; omega, by omega, ⟨H0, M0, d0⟩, d1⟩, (fun e => by cases e), fun _ => rfl⟩
 ·rw [if_neg c] at ok ⊢
  exact ⟨S0 + 1, ⟨p1, p2, p3, by omega, by omega, by show A.boot ≤ n + 1 + 1; omega, by omega, ⟨_, M0, d0.send (A' := { A with q := { A.q with l := A.q.l ++ [numS (S0 + 1)] } }) p4.1 ok rfl rfl rfl rfl rfl⟩, d1⟩, fun _ => rfl, fun e => absurd rfl e⟩

theorem send_B (h : PI n A B way dst S0 S1 T0 T1) (hn : n ≤ 60000) : ∃ S', PI (n + 1) A (sendL B (numS (S1 + 1))).2 way dst S0 S' T0 T1 ∧ ((sendL B (numS (S1 + 1))).1 = 0 → S' = S1 + 1) ∧ (¬ (sendL B (numS (S1 + 1))).1 = 0 → S' = S1) := by
 obtain ⟨p1, p2, p3, p4, p5, p6, p7, d0, ⟨H1, M1, d1⟩⟩ := h
 have ok := send_ok d1.ok (numS (S1 + 1))
 unfold sendL at ok ⊢
 rw [if_neg (by rw [numS_size]; decide)] at ok ⊢
 by_cases c : B.q.l.length ≥ 8
 ·rw [if_pos c]
  exact ⟨S1, ⟨p1, p2, p3, by omega, by omega, by omega, by show B.boot ≤ n + 1 + 1; omega, d0, ⟨H1, M1, d1⟩⟩, (fun e => by cases e), fun _ => rfl⟩
 ·rw [if_neg c] at ok ⊢
  exact ⟨S1 + 1, ⟨p1, p2, p3, by omega, by omega, by omega, by show B.boot ≤ n + 1 + 1; omega, d0, ⟨_, M1, d1.send (A' := { B with q := { B.q with l := B.q.l ++ [numS (S1 + 1)] } }) p5.1 ok rfl rfl rfl rfl rfl⟩⟩, fun _ => rfl, fun e => absurd rfl e⟩

theorem boot_of {A : Elink_Link} {S rb : Int} {pr : Elink_side} {T : Int} {W : ESeg → Prop} {H : Hs} {M : Ms} (h : Dir A S rb pr T W H M) : 1 ≤ A.boot := h.ok.boot.1

def newL (b : Int) : Elink_Link := { (default : Elink_Link) with boot := b, stream := 1 }

theorem newL_ok {b : Int} (h : 1 ≤ b ∧ b ≤ 1073741824) : lkOk (newL b) := ⟨h, by show (1 : Int) ≤ 1 ∧ (1 : Int) ≤ 1073741824; omega, .inl (by show (1 : Int) ≤ 1; omega), by show (0 : Int) ≤ 0 ∧ (0 : Int) ≤ 1073741824; omega, by show (0 : Nat) ≤ 8; omega, by show (0 : Int) ≤ 0 ∧ (0 : Int) ≤ 4; omega, by show (0 : Int) ≤ 0 ∧ (0 : Int) ≤ 1073741824; omega, by show (0 : Int) ≤ 0 ∧ (0 : Int) ≤ 1073741824; omega, by show (0 : Int) ≤ 0 ∧ (0 : Int) ≤ 1073741825; omega⟩

theorem link_New {b : Int} (h : 1 ≤ b ∧ b ≤ 1073741824) : F_link_New b = some (some (newL b), 0) := by
 unfold F_link_New
 rw [if_neg (by rw [decide_eq_false (by omega), decide_eq_false (by omega)]; decide)]; rfl

theorem new_A (h : PI n A B way dst S0 S1 T0 T1) (hn : n ≤ 60000) : PI (n + 1) (newL (A.boot + 1)) B way dst S0 S1 0 T1 := by
 obtain ⟨p1, p2, p3, p4, p5, p6, p7, ⟨H0, M0, d0⟩, ⟨H1, M1, d1⟩⟩ := h
 have hb := boot_of d0
 exact ⟨p1, p2, p3, by omega, by omega, by show A.boot + 1 ≤ n + 1 + 1; omega, by omega, ⟨H0, M0, d0.newA (newL_ok (by omega)) rfl rfl rfl rfl rfl⟩, ⟨H1, M1, d1.newB⟩⟩

theorem new_B (h : PI n A B way dst S0 S1 T0 T1) (hn : n ≤ 60000) : PI (n + 1) A (newL (B.boot + 1)) way dst S0 S1 T0 0 := by
 obtain ⟨p1, p2, p3, p4, p5, p6, p7, ⟨H0, M0, d0⟩, ⟨H1, M1, d1⟩⟩ := h
 have hb := boot_of d1
 exact ⟨p1, p2, p3, by omega, by omega, by omega, by show B.boot + 1 ≤ n + 1 + 1; omega, ⟨H0, M0, d0.newB⟩, ⟨H1, M1, d1.newA (newL_ok (by omega)) rfl rfl rfl rfl rfl⟩⟩

theorem dbl_ok (h : PI n A B way dst S0 S1 T0 T1) {k : Nat} (hk : k < way.length) (hw : way.length < 200) : PI n A B (way ++ [way.getD k default]) (dst ++ [dst.getD k default]) S0 S1 T0 T1 := by
 obtain ⟨p1, p2, p3, p4, p5, p6, p7, ⟨H0, M0, d0⟩, ⟨H1, M1, d1⟩⟩ := h
 have key : ∀ {t s}, Wy (way ++ [way.getD k default]) (dst ++ [dst.getD k default]) t s → Wy way dst t s := fun {t s} hs => by
  rcases Wy_app (l := [way.getD k default]) (d := dst.getD k default) p1 hs with q | ⟨q1, q2⟩
  ·exact q
  ·rw [List.mem_singleton] at q2
   exact ⟨k, hk, q1, q2.symm⟩
 refine ⟨by simp [p1], fun i hi => ?_, by rw [List.length_append, List.length_singleton]; omega, p4, p5, p6, p7, ⟨H0, M0, d0.mono fun s hs => .inl (key hs)⟩, ⟨H1, M1, d1.mono fun s hs => .inl (key hs)⟩⟩
 rw [List.length_append, List.length_singleton] at hi
 rw [List.getD_eq_getElem?_getD]
 by_cases c : i < dst.length
 ·rw [List.getElem?_append_left c, ← List.getD_eq_getElem?_getD]; exact p2 i c
 ·rw [List.getElem?_append_right (by omega), show i - dst.length = 0 by omega]
  exact p2 k (by omega)

end
theorem dir0 : Dir (newL 1) 0 1 ⟨0, 0, 0⟩ 0 (Wy [] [] 0) (fun _ _ => []) (fun _ _ => 0) :=
 ⟨newL_ok (by omega), rfl, fun i hi => absurd hi (Nat.not_lt_zero _), fun b s i j _ h => by simp at h, fun b s i h => by simp at h, fun b s b' s' i j _ h => by simp at h, fun _ _ _ => ⟨rfl, rfl⟩, rfl, fun _ _ => by omega, fun _ _ _ _ _ h => by omega, .inl rfl, ⟨Int.le_refl _, .inl rfl⟩, by omega, .inl rfl, fun q => absurd q (Int.lt_irrefl _), fun s ⟨i, hi, _⟩ => by simp at hi⟩

/-- from A to B: what A let go, B told; W: what is on the way from B to A -/
structure Fx (A B : Elink_Link) (W : ESeg → Prop) : Prop where
 f0 : A.peer.boot = 0 → A.q.first = 0
 f1 : A.peer.boot = B.boot → (B.peer.boot = A.boot ∧ B.peer.stream = A.stream ∧ A.q.first ≤ B.peer.next) ∨ (¬ (B.peer.boot = A.boot ∧ B.peer.stream = A.stream) ∧ A.q.first = 0)
 f2 : ∀ s, W s → s.boot = B.boot → s.ackBoot = A.boot → s.ackStream = A.stream → B.peer.boot = A.boot ∧ B.peer.stream = A.stream ∧ s.ackSeq ≤ B.peer.next
 f3 : ∀ s, W s → s.ackBoot = A.boot → s.ackStream ≤ A.stream

section
variable {A B : Elink_Link} {W : ESeg → Prop} {S rb T S' rb' T' : Int} {pr pr' : Elink_side} {Wd Wd' : ESeg → Prop} {H H' : Hs} {M M' : Ms}
theorem Fx.mono {W' : ESeg → Prop} (h : Fx A B W) (hw : ∀ s, W' s → W s) : Fx A B W' := ⟨h.f0, h.f1, fun s hs => h.f2 s (hw s hs), fun s hs => h.f3 s (hw s hs)⟩

theorem Fx.congr {A' B' : Elink_Link} (h : Fx A B W) (e1 : A'.boot = A.boot) (e2 : A'.stream = A.stream) (e3 : A'.q.first = A.q.first) (e4 : A'.peer.boot = A.peer.boot) (e5 : B'.boot = B.boot) (e6 : B'.peer = B.peer) : Fx A' B' W :=
 ⟨by rw [e3, e4]; exact h.f0, by rw [e1, e2, e3, e4, e5, e6]; exact h.f1, by rw [e1, e2, e5, e6]; exact h.f2, by rw [e1, e2]; exact h.f3⟩

/-- B tells more -/
theorem Fx.outB {W' : ESeg → Prop} (h : Fx A B W) (d : Dir A S B.boot B.peer T Wd H M) (hw : ∀ s, W' s → W s ∨ (s.ackBoot = B.peer.boot ∧ s.ackStream = B.peer.stream ∧ s.ackSeq = B.peer.next)) : Fx A B W' := by
 refine ⟨h.f0, h.f1, fun s hs e1 e2 e3 => ?_, fun s hs e2 => ?_⟩
 ·rcases hw s hs with q | ⟨q1, q2, q3⟩
  ·exact h.f2 s q e1 e2 e3
  ·exact ⟨by omega, by omega, by omega⟩
 ·rcases hw s hs with q | ⟨q1, q2, q3⟩
  ·exact h.f3 s q e2
  ·have := d.pk; have := d.ok.boot; omega

theorem ack_le (d : Dir B S A.boot A.peer T W H M) {s : ESeg} (hs : W s) : s.ackBoot ≤ A.boot ∧ s.boot ≤ B.boot := by
 have g := d.segs s hs
 have := d.mle s.boot s.stream
 have := d.rbp
 have := g.cur
 rcases g.ack with q | q <;> omega

theorem Fx.newA (h : Fx A B W) (d' : Dir B S' A.boot A.peer T' W H' M') : Fx (newL (A.boot + 1)) B W := by
 have hb := d'.ok.boot
 refine ⟨fun _ => rfl, fun e => ?_, fun s hs _ e => ?_, fun s hs e => ?_⟩
 ·have e' : (0 : Int) = B.boot := e
  omega
 ·have := (ack_le d' hs).1
  have e' : s.ackBoot = A.boot + 1 := e
  omega
 ·have := (ack_le d' hs).1
  have e' : s.ackBoot = A.boot + 1 := e
  omega

theorem Fx.newB (h : Fx A B W) (d : Dir A S B.boot B.peer T Wd H M) (d' : Dir B S' A.boot A.peer T' W H' M') : Fx A (newL (B.boot + 1)) W := by
 refine ⟨h.f0, fun e => ?_, fun s hs e => ?_, h.f3⟩
 ·have e' : A.peer.boot = B.boot + 1 := e
  have := d.peers; have := d.mle A.boot A.stream; omega
 ·have e' : s.boot = B.boot + 1 := e
  have := (ack_le d' hs).2; omega

-- what comes in
theorem in_shape (A : Elink_Link) {s : ESeg} (hm : mayS s = true) : (s.boot < A.peer.boot ∧ (inL A s).2.2 = A) ∨
  (¬ s.boot < A.peer.boot ∧ (inL A s).2.2.q = (takeL (learnL A s) s).q ∧ (inL A s).2.2.stream = (learnL A s).stream ∧ (inL A s).2.2.boot = A.boot ∧ (inL A s).2.2.peer.boot = s.boot ∧ (inL A s).2.2.peer.stream = (learnS A.peer s).stream ∧ (learnS A.peer s).next ≤ (inL A s).2.2.peer.next) := by
 unfold inL
 rw [if_neg (by rw [hm]; decide)]
 by_cases c : s.boot < A.peer.boot
 ·left; rw [if_pos c]; exact ⟨c, rfl⟩
 right
 rw [if_neg c]
 have lb : (learnL A s).boot = A.boot ∧ (learnL A s).peer = learnS A.peer s := by
  unfold learnL learnS
  by_cases c1 : s.boot > A.peer.boot
  ·rw [if_pos c1, if_pos c1]
   by_cases c2 : A.peer.boot > 0
   ·rw [if_pos c2]; exact ⟨rfl, rfl⟩
   ·rw [if_neg c2]; exact ⟨rfl, rfl⟩
  ·rw [if_neg c1, if_neg c1]
   by_cases c2 : s.stream > A.peer.stream
   ·rw [if_pos c2, if_pos c2]; exact ⟨rfl, rfl⟩
   ·rw [if_neg c2, if_neg c2]; exact ⟨rfl, rfl⟩
 have tb : (takeL (learnL A s) s).boot = A.boot ∧ (takeL (learnL A s) s).peer = learnS A.peer s ∧ (takeL (learnL A s) s).stream = (learnL A s).stream := by
  unfold takeL
  split
  ·exact ⟨lb.1, lb.2, rfl⟩
  ·exact ⟨lb.1, lb.2, rfl⟩
 have hs := learnS_at c
 generalize takeL (learnL A s) s = R at tb
 refine ⟨c, ?_⟩
 unfold tellL
 split
 ·exact ⟨rfl, tb.2.2, tb.1, by show R.peer.boot = _; rw [tb.2.1]; exact hs, by show R.peer.stream = _; rw [tb.2.1], by show _ ≤ R.peer.next; rw [tb.2.1]; exact Int.le_refl _⟩
 ·split
  ·exact ⟨rfl, tb.2.2, tb.1, by show R.peer.boot = _; rw [tb.2.1]; exact hs, by show R.peer.stream = _; rw [tb.2.1], by show _ ≤ R.peer.next + 1; rw [tb.2.1]; omega⟩
  ·exact ⟨rfl, tb.2.2, tb.1, by show R.peer.boot = _; rw [tb.2.1]; exact hs, by show R.peer.stream = _; rw [tb.2.1], by show _ ≤ R.peer.next; rw [tb.2.1]; exact Int.le_refl _⟩

/-- what becomes of the queue -/
theorem in_queue (A : Elink_Link) {s : ESeg} (hm : mayS s = true) (c : ¬ s.boot < A.peer.boot) (hp : 0 ≤ A.peer.boot) :
  ((s.boot > A.peer.boot ∧ A.peer.boot > 0 ∧ (inL A s).2.2.stream = A.stream + 1 ∧ ((s.ackBoot = A.boot ∧ s.ackStream = A.stream + 1) ∨ ((inL A s).2.2.q.first = 0 ∧ (inL A s).2.2.q.l = A.q.l))) ∨
  ((s.boot = A.peer.boot ∨ A.peer.boot = 0) ∧ (inL A s).2.2.stream = A.stream ∧
   ((s.ackBoot = A.boot ∧ s.ackStream = A.stream ∧ (inL A s).2.2.q.first = A.q.first + (uptoK A s.ackSeq : Int) ∧ (inL A s).2.2.q.l = A.q.l.drop (uptoK A s.ackSeq)) ∨ (¬ (s.ackBoot = A.boot ∧ s.ackStream = A.stream) ∧ (inL A s).2.2.q.first = A.q.first ∧ (inL A s).2.2.q.l = A.q.l)))) := by
 rcases in_shape A hm with ⟨q, _⟩ | ⟨_, q1, q2, _, _⟩
 ·exact absurd q c
 rw [q1, q2]
 by_cases c1 : s.boot > A.peer.boot ∧ A.peer.boot > 0
 ·left
  have e : learnL A s = { A with stream := A.stream + 1, q := { A.q with first := 0, told := 0 }, peer := ⟨s.boot, s.stream, 0⟩ } := by unfold learnL; rw [if_pos c1.1, if_pos c1.2]
  rw [e]
  refine ⟨c1.1, c1.2, rfl, ?_⟩
  by_cases c2 : s.ackBoot = A.boot ∧ s.ackStream = A.stream + 1
  ·exact .inl c2
  ·right
   unfold takeL
   rw [if_neg c2]; exact ⟨rfl, rfl⟩
 ·right
  have hst : (learnL A s).stream = A.stream ∧ (learnL A s).q = A.q ∧ (learnL A s).boot = A.boot := by
   unfold learnL
   by_cases c2 : s.boot > A.peer.boot
   ·rw [if_pos c2, if_neg (fun h => c1 ⟨c2, h⟩)]; exact ⟨rfl, rfl, rfl⟩
   ·rw [if_neg c2]
    split
    ·exact ⟨rfl, rfl, rfl⟩
    ·exact ⟨rfl, rfl, rfl⟩
  refine ⟨by omega, hst.1, ?_⟩
  unfold takeL uptoL uptoK
  rw [hst.1, hst.2.2]
  by_cases c2 : s.ackBoot = A.boot ∧ s.ackStream = A.stream
  ·rw [if_pos c2]
   left
   dsimp only
   rw [hst.2.1]
   exact ⟨c2.1, c2.2, rfl, rfl⟩
  ·rw [if_neg c2]
   exact .inr ⟨c2, by rw [hst.2.1], by rw [hst.2.1]⟩

theorem Fx.inA (h : Fx A B W) (d : Dir A S B.boot B.peer T Wd H M) (d' : Dir B S' A.boot A.peer T' W H' M') {s : ESeg} (hs : W s) : Fx (inL A s).2.2 B W := by
 have g := d'.segs s hs
 have hp := d.ok.pboot
 have hb := d'.ok.boot
 have hst := d.ok.stream
 have hf := d.ok.first
 have hpk := d.pk
 have hab := d.ok.boot
 rcases in_shape A g.may with ⟨_, q⟩ | ⟨c, q1, q2, q3, q4, _⟩
 ·rw [q]; exact h
 have hsb : 1 ≤ s.boot := by have := of_decide_eq_true g.may; omega
 have k0 := h.f0
 have k1 := h.f1
 have k2 := h.f2 s hs
 have k3 := h.f3 s hs
 rcases in_queue A g.may c hp.1 with ⟨r1, r2, r3, r4⟩ | ⟨r1, r3, r4⟩
 ·have r5 : (inL A s).2.2.q.first = 0 := by
   rcases r4 with r4 | r4
   ·have := k3 r4.1; omega
   ·exact r4.1
  refine ⟨fun e => r5, fun e => ?_, fun s2 hs2 e1 e2 e3 => ?_, fun s2 hs2 e => ?_⟩
  ·right
   rw [q3, r3, r5]
   refine ⟨fun hh => ?_, rfl⟩
   omega
  ·rw [q3] at e2; rw [r3] at e3
   have := h.f3 s2 hs2 e2; omega
  ·rw [q3] at e; rw [r3]
   have := h.f3 s2 hs2 e; omega
 ·refine ⟨fun e => by rw [q4] at e; omega, fun e => ?_, fun s2 hs2 e1 e2 e3 => ?_, fun s2 hs2 e => ?_⟩
  ·rw [q4] at e
   rw [q3, r3]
   have hn := d.nx
   have hF : (B.peer.boot = A.boot ∧ B.peer.stream = A.stream ∧ A.q.first ≤ B.peer.next) ∨ (¬ (B.peer.boot = A.boot ∧ B.peer.stream = A.stream) ∧ A.q.first = 0) := by
    rcases r1 with r1 | r1
    ·exact k1 (by omega)
    ·have := k0 r1
     by_cases z : B.peer.boot = A.boot ∧ B.peer.stream = A.stream
     ·left; exact ⟨z.1, z.2, by omega⟩
     ·exact .inr ⟨z, this⟩
   rcases r4 with ⟨a1, a2, a3, _⟩ | ⟨a1, a3, _⟩
   ·have k := k2 e a1 a2
    left
    refine ⟨k.1, k.2.1, ?_⟩
    rw [a3]
    rcases hF with z | z
    ·have : (uptoK A s.ackSeq : Int) ≤ max (s.ackSeq - A.q.first) 0 := by unfold uptoK; omega
     omega
    ·exact absurd ⟨k.1, k.2.1⟩ z.1
   ·rw [a3]; exact hF
  ·rw [q3] at e2; rw [r3] at e3
   rw [q3, r3]
   exact h.f2 s2 hs2 e1 e2 e3
  ·rw [q3] at e; rw [r3]
   exact h.f3 s2 hs2 e

theorem Fx.inB (h : Fx A B W) (d : Dir A S B.boot B.peer T Wd H M) {s : ESeg} (hs : Wd s) : Fx A (inL B s).2.2 W := by
 have g := d.segs s hs
 have hn := d.nx.1
 have hpk := d.pk
 have hcur := g.cur
 have hab := d.ok.boot
 rcases in_shape B g.may with ⟨_, q⟩ | ⟨c, _, _, q3, q4, q5, q6⟩
 ·rw [q]; exact h
 have hn' : 0 ≤ (learnS B.peer s).next := by
  unfold learnS
  split
  ·exact Int.le_refl _
  ·split
   ·exact Int.le_refl _
   ·exact hn
 have same : B.peer.boot = A.boot → B.peer.stream = A.stream → learnS B.peer s = B.peer := fun e1 e2 => by
  unfold learnS
  rw [if_neg (by omega), if_neg (by omega)]
 have key : B.peer.boot = A.boot → B.peer.stream = A.stream → (inL B s).2.2.peer.boot = A.boot ∧ (inL B s).2.2.peer.stream = A.stream ∧ B.peer.next ≤ (inL B s).2.2.peer.next := fun e1 e2 => by
  rw [same e1 e2] at q5 q6
  exact ⟨by omega, by omega, q6⟩
 refine ⟨h.f0, fun e => ?_, fun s2 hs2 e1 e2 e3 => ?_, h.f3⟩
 ·rw [q3] at e
  rcases h.f1 e with z | z
  ·have := key z.1 z.2.1
   exact .inl ⟨this.1, this.2.1, by omega⟩
  ·by_cases y : (inL B s).2.2.peer.boot = A.boot ∧ (inL B s).2.2.peer.stream = A.stream
   ·exact .inl ⟨y.1, y.2, by omega⟩
   ·exact .inr ⟨y, z.2⟩
 ·rw [q3] at e1
  have z := h.f2 s2 hs2 e1 e2 e3
  have := key z.1 z.2.1
  exact ⟨this.1, this.2.1, by omega⟩

end

section
variable {A B : Elink_Link} {way : List ESeg} {dst : List Int} {S0 S1 T0 T1 n : Int} {st : Bool}
structure PF (st : Bool) (n : Int) (A B : Elink_Link) (way : List ESeg) (dst : List Int) (S0 S1 T0 T1 : Int) : Prop where
 pi : PI n A B way dst S0 S1 T0 T1
 fa : Fx A B (Wy way dst 0)
 fb : Fx B A (Wy way dst 1)
 ns : st = false → (A.boot = 1 ∧ A.q.first + (A.q.l.length : Int) = S0) ∧ (B.boot = 1 ∧ B.q.first + (B.q.l.length : Int) = S1)

def PS (st : Bool) (n : Int) (p : Elaw22_pair) : Prop := ∃ A B way dst S0 S1 T0 T1, p = mkP A B way dst S0 S1 T0 T1 ∧ PF st n A B way dst S0 S1 T0 T1

theorem PS_mk {p : Elaw22_pair} (e : p = mkP A B way dst S0 S1 T0 T1) (h : PF st n A B way dst S0 S1 T0 T1) : PS st n p := ⟨A, B, way, dst, S0, S1, T0, T1, e, h⟩

theorem PF.weak (h : PF st n A B way dst S0 S1 T0 T1) (b c : Bool) : PF ((st || b) || c) n A B way dst S0 S1 T0 T1 := ⟨h.pi, h.fa, h.fb, fun e => h.ns (by cases st; rfl; simp at e)⟩

theorem PF.more (h : PF st n A B way dst S0 S1 T0 T1) : PF st (n + 1) A B way dst S0 S1 T0 T1 := ⟨h.pi.more, h.fa, h.fb, h.ns⟩

theorem sendL_same (A : Elink_Link) (t : ByteArray) : (sendL A t).2.boot = A.boot ∧ (sendL A t).2.stream = A.stream ∧ (sendL A t).2.q.first = A.q.first ∧ (sendL A t).2.peer = A.peer := by
 unfold sendL
 split
 ·exact ⟨rfl, rfl, rfl, rfl⟩
 ·split
  ·exact ⟨rfl, rfl, rfl, rfl⟩
  ·exact ⟨rfl, rfl, rfl, rfl⟩

theorem sendL_len (A : Elink_Link) (v : Int) : ((sendL A (numS v)).1 = 0 → ((sendL A (numS v)).2.q.l.length : Int) = A.q.l.length + 1) ∧ (¬ (sendL A (numS v)).1 = 0 → (sendL A (numS v)).2.q.l.length = A.q.l.length) := by
 unfold sendL
 rw [if_neg (by rw [numS_size]; decide)]
 by_cases c : A.q.l.length ≥ 8
 ·rw [if_pos c]; exact ⟨(fun e => by cases e), fun _ => rfl⟩
 ·rw [if_neg c]; exact ⟨fun _ => by show ((A.q.l ++ [numS v]).length : Int) = _; rw [List.length_append, List.length_singleton]; omega, fun e => absurd rfl e⟩

theorem PF_send_A (h : PF st n A B way dst S0 S1 T0 T1) (hn : n ≤ 60000) : ∃ S', PF st (n + 1) (sendL A (numS (S0 + 1))).2 B way dst S' S1 T0 T1 ∧ ((sendL A (numS (S0 + 1))).1 = 0 → S' = S0 + 1) ∧ (¬ (sendL A (numS (S0 + 1))).1 = 0 → S' = S0) := by
 obtain ⟨S', g1, g2, g3⟩ := send_A h.pi hn
 obtain ⟨e1, e2, e3, e4⟩ := sendL_same A (numS (S0 + 1))
 have hl := sendL_len A (S0 + 1)
 refine ⟨S', ⟨g1, h.fa.congr e1 e2 e3 (by rw [e4]) rfl rfl, h.fb.congr rfl rfl rfl rfl e1 e4, fun e => ?_⟩, g2, g3⟩
 have := h.ns e
 rw [e1, e3]
 refine ⟨⟨this.1.1, ?_⟩, this.2⟩
 by_cases c : (sendL A (numS (S0 + 1))).1 = 0
 ·rw [g2 c, hl.1 c]; omega
 ·rw [g3 c, hl.2 c]; exact this.1.2

theorem PF_send_B (h : PF st n A B way dst S0 S1 T0 T1) (hn : n ≤ 60000) : ∃ S', PF st (n + 1) A (sendL B (numS (S1 + 1))).2 way dst S0 S' T0 T1 ∧ ((sendL B (numS (S1 + 1))).1 = 0 → S' = S1 + 1) ∧ (¬ (sendL B (numS (S1 + 1))).1 = 0 → S' = S1) := by
 obtain ⟨S', g1, g2, g3⟩ := send_B h.pi hn
 obtain ⟨e1, e2, e3, e4⟩ := sendL_same B (numS (S1 + 1))
 have hl := sendL_len B (S1 + 1)
 refine ⟨S', ⟨g1, h.fa.congr rfl rfl rfl rfl e1 e4, h.fb.congr e1 e2 e3 (by rw [e4]) rfl rfl, fun e => ?_⟩, g2, g3⟩
 have := h.ns e
 rw [e1, e3]
 refine ⟨this.1, ⟨this.2.1, ?_⟩⟩
 by_cases c : (sendL B (numS (S1 + 1))).1 = 0
 ·rw [g2 c, hl.1 c]; omega
 ·rw [g3 c, hl.2 c]; exact this.2.2

theorem PF_new_A (h : PF st n A B way dst S0 S1 T0 T1) (hn : n ≤ 60000) : PF true (n + 1) (newL (A.boot + 1)) B way dst S0 S1 0 T1 := by
 obtain ⟨H0, M0, d0⟩ := h.pi.d0
 obtain ⟨H1, M1, d1⟩ := h.pi.d1
 exact ⟨new_A h.pi hn, h.fa.newA d1, h.fb.newB d1 d0, fun e => by cases e⟩

theorem PF_new_B (h : PF st n A B way dst S0 S1 T0 T1) (hn : n ≤ 60000) : PF true (n + 1) A (newL (B.boot + 1)) way dst S0 S1 T0 0 := by
 obtain ⟨H0, M0, d0⟩ := h.pi.d0
 obtain ⟨H1, M1, d1⟩ := h.pi.d1
 exact ⟨new_B h.pi hn, h.fa.newB d0 d1, h.fb.newA d0, fun e => by cases e⟩

theorem PF_gone (h : PF st n A B way dst S0 S1 T0 T1) {k : Nat} (hk : k < way.length) : PF st n A B (delN way k) (delN dst k) S0 S1 T0 T1 :=
 ⟨(gone_ok h.pi hk).2, h.fa.mono fun s hs => Wy_del hk h.pi.len hs, h.fb.mono fun s hs => Wy_del hk h.pi.len hs, h.ns⟩

theorem PF_dbl (h : PF st n A B way dst S0 S1 T0 T1) {k : Nat} (hk : k < way.length) (hw : way.length < 200) : PF st n A B (way ++ [way.getD k default]) (dst ++ [dst.getD k default]) S0 S1 T0 T1 := by
 have key : ∀ {t s}, Wy (way ++ [way.getD k default]) (dst ++ [dst.getD k default]) t s → Wy way dst t s := fun {t s} hs => by
  rcases Wy_app (l := [way.getD k default]) (d := dst.getD k default) h.pi.len hs with q | ⟨q1, q2⟩
  ·exact q
  ·rw [List.mem_singleton] at q2
   exact ⟨k, hk, q1, q2.symm⟩
 exact ⟨dbl_ok h.pi hk hw, h.fa.mono fun s hs => key hs, h.fb.mono fun s hs => key hs, h.ns⟩

theorem outs_ack (A : Elink_Link) (again : Bool) {s : ESeg} (hs : s ∈ outsL A again) : s.boot = A.boot ∧ s.stream = A.stream ∧ s.ackBoot = A.peer.boot ∧ s.ackStream = A.peer.stream ∧ s.ackSeq = A.peer.next := by
 unfold outsL at hs
 split at hs
 ·rw [List.mem_singleton] at hs; rw [hs]; exact ⟨rfl, rfl, rfl, rfl, rfl⟩
 ·unfold segsL at hs
  obtain ⟨i, hi, rfl⟩ := List.mem_map.1 hs
  exact ⟨rfl, rfl, rfl, rfl, rfl⟩

theorem PF_out0 (h : PF st n A B way dst S0 S1 T0 T1) (again : Bool) {m : Nat} (hm : m ≤ (outsL A again).length) (g : PI n (outL A) B (way ++ (outsL A again).take m) (dst ++ List.replicate m 1) S0 S1 T0 T1) : PF st n (outL A) B (way ++ (outsL A again).take m) (dst ++ List.replicate m 1) S0 S1 T0 T1 := by
 have hlm : ((outsL A again).take m).length = m := by rw [List.length_take]; omega
 obtain ⟨H1, M1, d1⟩ := h.pi.d1
 refine ⟨g, (h.fa.congr (A' := outL A) rfl rfl rfl rfl rfl rfl).mono fun s hs => ?_, (h.fb.outB d1 (W' := Wy (way ++ (outsL A again).take m) (dst ++ List.replicate m 1) 1) fun s hs => ?_).congr rfl rfl rfl rfl rfl rfl, h.ns⟩
 ·have hs' : Wy (way ++ (outsL A again).take m) (dst ++ List.replicate ((outsL A again).take m).length 1) 0 s := by rw [hlm]; exact hs
  rcases Wy_app h.pi.len hs' with q | ⟨q, _⟩
  ·exact q
  ·cases q
 ·have hs' : Wy (way ++ (outsL A again).take m) (dst ++ List.replicate ((outsL A again).take m).length 1) 1 s := by rw [hlm]; exact hs
  rcases Wy_app h.pi.len hs' with q | ⟨_, q⟩
  ·exact .inl q
  ·exact .inr (outs_ack A again (List.mem_of_mem_take q)).2.2

theorem PF_out1 (h : PF st n A B way dst S0 S1 T0 T1) (again : Bool) {m : Nat} (hm : m ≤ (outsL B again).length) (g : PI n A (outL B) (way ++ (outsL B again).take m) (dst ++ List.replicate m 0) S0 S1 T0 T1) : PF st n A (outL B) (way ++ (outsL B again).take m) (dst ++ List.replicate m 0) S0 S1 T0 T1 := by
 have hlm : ((outsL B again).take m).length = m := by rw [List.length_take]; omega
 obtain ⟨H0, M0, d0⟩ := h.pi.d0
 refine ⟨g, (h.fa.outB d0 (W' := Wy (way ++ (outsL B again).take m) (dst ++ List.replicate m 0) 0) fun s hs => ?_).congr rfl rfl rfl rfl rfl rfl, (h.fb.congr (A' := outL B) rfl rfl rfl rfl rfl rfl).mono fun s hs => ?_, h.ns⟩
 ·have hs' : Wy (way ++ (outsL B again).take m) (dst ++ List.replicate ((outsL B again).take m).length 0) 0 s := by rw [hlm]; exact hs
  rcases Wy_app h.pi.len hs' with q | ⟨_, q⟩
  ·exact .inl q
  ·exact .inr (outs_ack B again (List.mem_of_mem_take q)).2.2
 ·have hs' : Wy (way ++ (outsL B again).take m) (dst ++ List.replicate ((outsL B again).take m).length 0) 1 s := by rw [hlm]; exact hs
  rcases Wy_app h.pi.len hs' with q | ⟨q, _⟩
  ·exact q
  ·cases q

theorem in_ns {A : Elink_Link} {s : ESeg} (hm : mayS s = true) (hb : s.boot ≤ 1) (hp : 0 ≤ A.peer.boot) : (inL A s).2.2.q.first + ((inL A s).2.2.q.l.length : Int) = A.q.first + (A.q.l.length : Int) := by
 rcases in_shape A hm with ⟨_, q⟩ | ⟨c, _⟩
 ·rw [q]
 rcases in_queue A hm c hp with ⟨r1, r2, _⟩ | ⟨_, _, r4⟩
 ·omega
 ·rcases r4 with ⟨_, _, a1, a2⟩ | ⟨_, a1, a2⟩
  ·have : uptoK A s.ackSeq ≤ A.q.l.length := by unfold uptoK; omega
   rw [a1, a2, List.length_drop]; omega
  ·rw [a1, a2]

theorem PF_inB {T' : Int} (h : PF st n A B way dst S0 S1 T0 T1) {k : Nat} (hk : k < way.length) (t : dst.getD k default = 1) (hb : (inL B (way.getD k default)).2.2.boot = B.boot) (g : PI n A (inL B (way.getD k default)).2.2 way dst S0 S1 T0 T') : PF st n A (inL B (way.getD k default)).2.2 way dst S0 S1 T0 T' := by
 obtain ⟨H0, M0, d0⟩ := h.pi.d0
 obtain ⟨H1, M1, d1⟩ := h.pi.d1
 have hs : Wy way dst 1 (way.getD k default) := ⟨k, hk, t, rfl⟩
 refine ⟨g, h.fa.inB d0 hs, h.fb.inA d1 d0 hs, fun e => ?_⟩
 have z := h.ns e
 have gs := d0.segs _ hs
 have hc := gs.cur
 rw [hb, in_ns gs.may (by omega) d1.ok.pboot.1]
 exact z

theorem PF_inA {T' : Int} (h : PF st n A B way dst S0 S1 T0 T1) {k : Nat} (hk : k < way.length) (t : dst.getD k default = 0) (hb : (inL A (way.getD k default)).2.2.boot = A.boot) (g : PI n (inL A (way.getD k default)).2.2 B way dst S0 S1 T' T1) : PF st n (inL A (way.getD k default)).2.2 B way dst S0 S1 T' T1 := by
 obtain ⟨H0, M0, d0⟩ := h.pi.d0
 obtain ⟨H1, M1, d1⟩ := h.pi.d1
 have hs : Wy way dst 0 (way.getD k default) := ⟨k, hk, t, rfl⟩
 refine ⟨g, h.fa.inA d0 d1 hs, h.fb.inB d1 hs, fun e => ?_⟩
 have z := h.ns e
 have gs := d1.segs _ hs
 have hc := gs.cur
 rw [hb, in_ns gs.may (by omega) d0.ok.pboot.1]
 exact z

/-- what a step does -/
theorem step_k1 (h : PF st n A B way dst S0 S1 T0 T1) (hn : n ≤ 60000) (s : Elaw22_Step) (hs : inB s.n) (k : Nat) (hk : way.length = 0 ∨ k < way.length) : ∃ p', F_law22_pair_step_k1 (mkP A B way dst S0 S1 T0 T1) s (k : Int) = some p' ∧ PS ((st || decide (s.k > 6)) || decide (s.k < 0)) (n + 1) p' := by
 have hb0 : 1 ≤ A.boot := by obtain ⟨_, _, d⟩ := h.pi.d0; exact boot_of d
 have hb1 : 1 ≤ B.boot := by obtain ⟨_, _, d⟩ := h.pi.d1; exact boot_of d
 have okA : lkOk A := by obtain ⟨_, _, d⟩ := h.pi.d0; exact d.ok
 have okB : lkOk B := by obtain ⟨_, _, d⟩ := h.pi.d1; exact d.ok
 have q0 := h.pi.s0; have q1 := h.pi.s1; have q2 := h.pi.b0; have q3 := h.pi.b1; have q4 := h.pi.len; have q5 := h.pi.wl
 unfold inB at hs
 have m0 := Int.tmod_nonneg (a := s.n) 2 hs.1
 have m1 := Int.tmod_lt_of_pos s.n (show (0 : Int) < 2 by decide)
 have m2 : s.n.tmod 2 = 0 ∨ s.n.tmod 2 = 1 := by omega
 unfold F_law22_pair_step_k1
 by_cases c1 : ((s.k == 0) || (s.k == 1)) = true
 ·rw [if_pos c1]
  rcases m2 with m2 | m2
  ·rw [m2, show ((0 : Int) == 0) = true from rfl, if_pos rfl]
   show ∃ p', chk (inI (S0 + 1)) ((F_law22_number (S0 + 1)).bind fun n0_3 => (F_link_Link_Send A n0_3).bind _) = _ ∧ _
   rw [chk_t (by unfold inI; omega), number_ok (by omega), Option.bind_some, link_Send okA, Option.bind_some]
   obtain ⟨S', g1, g2, g3⟩ := PF_send_A h hn
   have hbo : (sendL A (numS (S0 + 1))).2.boot = A.boot := by unfold sendL; split <;> (try split) <;> rfl
   by_cases c : (sendL A (numS (S0 + 1))).1 = 0
   ·rw [if_pos (by rw [c]; rfl)]
    show ∃ p', chk (inI (S0 + 1)) _ = _ ∧ _
    rw [chk_t (by unfold inI; omega)]
    rw [g2 c] at g1
    exact ⟨_, rfl, PS_mk (by unfold mkP; dsimp only; rw [hbo]; rfl) (g1.weak _ _)⟩
   ·rw [if_neg (by simpa using c)]
    rw [g3 c] at g1
    exact ⟨_, rfl, PS_mk (by unfold mkP; dsimp only; rw [hbo]; rfl) (g1.weak _ _)⟩
  ·rw [m2, show ((1 : Int) == 0) = false from rfl, if_neg (by decide), show ((1 : Int) == 1) = true from rfl, if_pos rfl]
   show ∃ p', chk (inI (S1 + 1)) ((F_law22_number (S1 + 1)).bind fun n0_3 => (F_link_Link_Send B n0_3).bind _) = _ ∧ _
   rw [chk_t (by unfold inI; omega), number_ok (by omega), Option.bind_some, link_Send okB, Option.bind_some]
   obtain ⟨S', g1, g2, g3⟩ := PF_send_B h hn
   have hbo : (sendL B (numS (S1 + 1))).2.boot = B.boot := by unfold sendL; split <;> (try split) <;> rfl
   by_cases c : (sendL B (numS (S1 + 1))).1 = 0
   ·rw [if_pos (by rw [c]; rfl)]
    show ∃ p', chk (inI (S1 + 1)) _ = _ ∧ _
    rw [chk_t (by unfold inI; omega)]
    rw [g2 c] at g1
    exact ⟨_, rfl, PS_mk (by unfold mkP; dsimp only; rw [hbo]; rfl) (g1.weak _ _)⟩
   ·rw [if_neg (by simpa using c)]
    rw [g3 c] at g1
    exact ⟨_, rfl, PS_mk (by unfold mkP; dsimp only; rw [hbo]; rfl) (g1.weak _ _)⟩
 rw [if_neg c1]
 by_cases c2 : (s.k == 2) = true
 ·rw [if_pos c2]
  rcases m2 with m2 | m2
  ·rw [m2]
   obtain ⟨m, hm, _, e, g⟩ := out0_ok hn h.pi s.again
   rw [e]; exact ⟨_, rfl, PS_mk rfl ((PF_out0 h s.again hm g).more.weak _ _)⟩
  ·rw [m2]
   obtain ⟨m, hm, _, e, g⟩ := out1_ok hn h.pi s.again
   rw [e]; exact ⟨_, rfl, PS_mk rfl ((PF_out1 h s.again hm g).more.weak _ _)⟩
 rw [if_neg c2]
 by_cases c3 : (decide (s.k > 6) || decide (s.k < 0)) = true
 ·rw [if_pos c3]
  have c3' : ((st || decide (s.k > 6)) || decide (s.k < 0)) = true := by rw [Bool.or_assoc, c3, Bool.or_true]
  rw [c3']
  rcases m2 with m2 | m2
  ·rw [m2, show ((0 : Int) == 0) = true from rfl, if_pos rfl]
   show ∃ p', chk (inI (A.boot + 1)) ((F_link_New (A.boot + 1)).bind _) = _ ∧ _
   rw [chk_t (by unfold inI; omega), link_New (by omega), Option.bind_some]
   exact ⟨_, rfl, PS_mk rfl (PF_new_A h hn)⟩
  ·rw [m2, show ((1 : Int) == 0) = false from rfl, if_neg (by decide), show ((1 : Int) == 1) = true from rfl, if_pos rfl]
   show ∃ p', chk (inI (B.boot + 1)) ((F_link_New (B.boot + 1)).bind _) = _ ∧ _
   rw [chk_t (by unfold inI; omega), link_New (by omega), Option.bind_some]
   exact ⟨_, rfl, PS_mk rfl (PF_new_B h hn)⟩
 rw [if_neg c3]
 by_cases c4 : way.length = 0
 ·rw [if_pos (by show ((way.length : Int) == 0) = true; rw [c4]; rfl)]
  exact ⟨_, rfl, PS_mk rfl (h.more.weak _ _)⟩
 rw [if_neg (by show ¬ ((way.length : Int) == 0) = true; rw [beq_iff_eq]; omega)]
 have hk' : k < way.length := by omega
 by_cases c5 : (s.k == 5) = true
 ·rw [if_pos c5, (gone_ok h.pi hk').1]
  exact ⟨_, rfl, PS_mk rfl ((PF_gone h hk').more.weak _ _)⟩
 rw [if_neg c5]
 by_cases c6 : (s.k == 6) = true
 ·rw [if_pos c6]
  have ew : (mkP A B way dst S0 S1 T0 T1).way = way := rfl
  have ed : (mkP A B way dst S0 S1 T0 T1).to_ = dst := rfl
  rw [ew, ed, toNat_cast]
  by_cases c7 : way.length < 200
  ·rw [if_pos (decide_eq_true (by omega)), chk_t (by omega), chk_t (by rw [List.length_singleton]; omega), chk_t (by omega), chk_t (by rw [List.length_singleton]; omega)]
   exact ⟨_, rfl, PS_mk rfl ((PF_dbl h hk' c7).more.weak _ _)⟩
  ·rw [if_neg (by rw [decide_eq_false (by omega)]; decide)]
   exact ⟨_, rfl, PS_mk rfl (h.more.weak _ _)⟩
 rw [if_neg c6]
 rcases come_ok hn h.pi hk' with ⟨t, T', e, g, hb, _⟩ | ⟨t, T', e, g, hb, _⟩
 ·rw [e, Option.bind_some, (gone_ok g hk').1]
  exact ⟨_, rfl, PS_mk rfl ((PF_gone (PF_inB h hk' t hb g) hk').more.weak _ _)⟩
 ·rw [e, Option.bind_some, (gone_ok g hk').1]
  exact ⟨_, rfl, PS_mk rfl ((PF_gone (PF_inA h hk' t hb g) hk').more.weak _ _)⟩

end
theorem step_ok {st : Bool} {n : Int} (hn : n ≤ 60000) {p : Elaw22_pair} (h : PS st n p) (s : Elaw22_Step) (hs : inB s.n) : ∃ p', F_law22_pair_step p s = some p' ∧ PS ((st || decide (s.k > 6)) || decide (s.k < 0)) (n + 1) p' := by
 obtain ⟨A, B, way, dst, S0, S1, T0, T1, rfl, h⟩ := h
 have hs' := hs
 unfold inB at hs'
 have ew : (mkP A B way dst S0 S1 T0 T1).way = way := rfl
 unfold F_law22_pair_step
 rw [ew, chk_t (by unfold inI; omega)]
 by_cases c : 0 < way.length
 ·have e1 := Int.tmod_nonneg (a := s.n) (way.length : Int) hs'.1
  have e2 := Int.tmod_lt_of_pos s.n (show (0 : Int) < (way.length : Int) by omega)
  obtain ⟨k, hk⟩ := Int.eq_ofNat_of_zero_le e1
  rw [if_pos (decide_eq_true (by omega)), chk_t (by unfold inI; omega), chk_t (by omega), hk]
  exact step_k1 h hn s hs k (.inr (by omega))
 ·rw [if_neg (by rw [decide_eq_false (by omega)]; decide)]
  exact step_k1 h hn s hs 0 (.inl (by omega))

theorem fx0 : Fx (newL 1) (newL 1) (Wy [] [] 0) := ⟨fun _ => rfl, (fun e => by cases e), (fun s ⟨i, hi, _⟩ => by simp at hi), (fun s ⟨i, hi, _⟩ => by simp at hi)⟩

theorem both_ok : F_law22_both = some (some (mkP (newL 1) (newL 1) [] [] 0 0 0 0)) ∧ PS false 0 (mkP (newL 1) (newL 1) [] [] 0 0 0 0) := by
 refine ⟨?_, PS_mk rfl ⟨⟨rfl, fun i hi => by simp at hi, by simp, by omega, by omega, by show (1 : Int) ≤ 0 + 1; omega, by show (1 : Int) ≤ 0 + 1; omega, ⟨_, _, dir0.mono fun s ⟨i, hi, _⟩ => by simp at hi⟩, ⟨_, _, dir0⟩⟩, fx0, fx0.mono fun s ⟨i, hi, _⟩ => by simp at hi, fun _ => ⟨⟨rfl, rfl⟩, ⟨rfl, rfl⟩⟩⟩⟩
 unfold F_law22_both
 rw [link_New (by omega), Option.bind_some]
 rfl

end Go.Proofs.Ythomnhhjgcabkaa
