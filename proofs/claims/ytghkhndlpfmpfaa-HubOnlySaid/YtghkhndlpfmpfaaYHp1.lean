/- A hub, plain: what a hub's calls come to. -/
import Derived.Test.YtghkhndlpfmpfaaYLinkBy
namespace Go.Proofs.Ytghkhndlpfmpfaa

def updE {α : Type} (f : Nat → α) (j : Nat) (x : α) : Nat → α := fun k => if k = j then x else f k

/-- a hub with these links, of this number -/
def hb (f : Nat → Elink_Link) (i : Nat) : Ehub_Hub := { l := (List.range 4).map (fun j => if j = i then none else some (f j)), made := true }

theorem lt4 {i : Nat} (h : i < 4) : i = 0 ∨ i = 1 ∨ i = 2 ∨ i = 3 := by omega

theorem hub_Send {f : Nat → Elink_Link} {i j : Nat} (hi : i < 4) (hj : j < 4) (hij : j ≠ i) (h : lkOk (f j)) (s : ByteArray) : F_hub_Hub_Send (hb f i) (j : Int) s = some ((sendL (f j) s).1, hb (updE f j (sendL (f j) s).2) i) := by
 have e := link_Send h s
 rcases lt4 hi with rfl | rfl | rfl | rfl <;> rcases lt4 hj with rfl | rfl | rfl | rfl <;> first | exact absurd rfl hij | (simp [F_hub_Hub_Send, F_hub_Hub_with__hub_Hub_Send_1, F_hub_Hub_Send_1, F_hub_Hub_none, hb, updE, optE, e, List.range_succ])

theorem hub_Send_no {f : Nat → Elink_Link} {i : Nat} (hi : i < 4) (n : Int) (hn : n < 0 ∨ n ≥ 4 ∨ n = (i : Int)) (s : ByteArray) : F_hub_Hub_Send (hb f i) n s = some (1, hb f i) := by
 by_cases c : n = (i : Int)
 ·subst c
  rcases lt4 hi with rfl | rfl | rfl | rfl <;> rfl
 ·have hq : n < 0 ∨ n ≥ 4 := by omega
  have h0 : ¬ (n == 0) = true := by rw [beq_iff_eq]; omega
  have h1 : ¬ (n == 1) = true := by rw [beq_iff_eq]; omega
  have h2 : ¬ (n == 2) = true := by rw [beq_iff_eq]; omega
  have h3 : ¬ (n == 3) = true := by rw [beq_iff_eq]; omega
  unfold F_hub_Hub_Send F_hub_Hub_with__hub_Hub_Send_1
  rw [if_neg h0, if_neg h1, if_neg h2, if_neg h3]
  unfold F_hub_Hub_none
  rcases hq with hq | hq
  ·simp [hb, hq, F_hub_Hub_nobody, F_hub_Hub_none, chk]
  ·simp [hb, hq, F_hub_Hub_nobody, F_hub_Hub_none, chk]

theorem hub_Waiting {f : Nat → Elink_Link} {i j : Nat} (hi : i < 4) (hj : j < 4) (hij : j ≠ i) (h : lkOk (f j)) : F_hub_Hub_Waiting (hb f i) (j : Int) = some (((f j).q.l.length : Int), hb f i) := by
 have e : F_link_Link_Waiting (f j) = some ((f j).q.l.length : Int) := by
  unfold F_link_Link_Waiting; rw [none_of h]; rfl
 rcases lt4 hi with rfl | rfl | rfl | rfl <;> rcases lt4 hj with rfl | rfl | rfl | rfl <;> first | exact absurd rfl hij | (simp [F_hub_Hub_Waiting, F_hub_Hub_with__hub_Hub_Waiting_1, F_hub_Hub_Waiting_1, F_hub_Hub_none, hb, optE, e, List.range_succ])

theorem hub_Waiting_no {f : Nat → Elink_Link} {i : Nat} (hi : i < 4) : F_hub_Hub_Waiting (hb f i) (i : Int) = some (0, hb f i) := by
 rcases lt4 hi with rfl | rfl | rfl | rfl <;> rfl

theorem hub_In {f : Nat → Elink_Link} {i j : Nat} (hi : i < 4) (hj : j < 4) (hij : j ≠ i) (h : lkOk (f j)) {t : ByteArray} {s : ESeg} (ht : F_link_Of t = some (s, 0)) : F_hub_Hub_In (hb f i) (j : Int) t = some ((inL (f j) s).1, (inL (f j) s).2.1, hb (updE f j (inL (f j) s).2.2) i) := by
 have e := link_In h s
 rcases lt4 hi with rfl | rfl | rfl | rfl <;> rcases lt4 hj with rfl | rfl | rfl | rfl <;> first | exact absurd rfl hij | (simp [F_hub_Hub_In, F_hub_Hub_with__hub_Hub_In_1, F_hub_Hub_In_1, F_hub_Hub_none, hb, updE, optE, e, ht, List.range_succ])

end Go.Proofs.Ytghkhndlpfmpfaa
