/- A hub, plain: what goes out. -/
import Derived.Test.YtghkhndlpfmpfaaYHp2
namespace Go.Proofs.Ytghkhndlpfmpfaa

def pt (s : ESeg) : ByteArray := (putR s).1

theorem mayS_ok {s : ESeg} (h : mayS s = true) : segOk s ∧ (s.boot ≤ 1073741824 ∧ s.stream ≤ 1073741824 ∧ s.seq ≤ 1073741824 ∧ s.ackBoot ≤ 1073741824 ∧ s.ackStream ≤ 1073741824 ∧ s.ackSeq ≤ 1073741824) := by
 unfold mayS at h
 have h := of_decide_eq_true h
 exact ⟨⟨by omega, by omega, by omega, by omega, by omega, by omega⟩, by omega, by omega, by omega, by omega, by omega, by omega⟩

/-- a segment's bytes, there and back -/
theorem put_of {s : ESeg} (h : mayS s = true) (hs : (s.body.size : Int) ≤ 65536) : F_link_Put s = some (pt s, 0) ∧ F_link_Of (pt s) = some (s, 0) := by
 obtain ⟨h1, m1, m2, m3, m4, m5, m6⟩ := mayS_ok h
 obtain ⟨t, e1, e2⟩ := putR_of h1 hs
 have g1 := h1.boot; have g2 := h1.stream; have g3 := h1.seq; have g4 := h1.ackBoot; have g5 := h1.ackStream; have g6 := h1.ackSeq
 have hb : bdESeg s := ⟨by unfold inI; omega, by unfold inI; omega, by unfold inI; omega, by unfold inI; omega, by unfold inI; omega, by unfold inI; omega, trivial, by unfold bdStr bdM; omega⟩
 have hp : pt s = t := by unfold pt; rw [e1]
 have htz : t.size ≤ maxLen := by
  have := congrArg List.length e2
  rw [bL_len] at this
  have q1 := vputL_len s.boot.toNat; have q2 := vputL_len s.stream.toNat; have q3 := vputL_len s.seq.toNat; have q4 := vputL_len s.ackBoot.toNat; have q5 := vputL_len s.ackStream.toNat; have q6 := vputL_len s.ackSeq.toNat; have q7 := vputL_len s.body.size
  unfold segB at this
  simp only [List.length_append, List.length_cons, bL_len] at this
  unfold maxLen; omega
 rw [hp]
 refine ⟨by rw [link_Put s hb (by omega), e1], ?_⟩
 rw [link_Of t htz, ofR_there h1 hs ⟨m1, m2, m3, m4, m5, m6⟩ e2 htz]

/-- what goes out to one -/
def mo (j : Int) (ss : List ESeg) : List EOut := ss.map fun s => { to_ := j, body := pt s }

theorem out_in {R : Type} {body : (List EOut × Int → Option R) → List EOut × Int → Option R} (ss : List ESeg) (j : Int) (fn : List EOut → Option R)
  (hbody : ∀ rc out x, body rc (out, x) = if (decide (x < (ss.length : Int))) = true then (chk ((0 : Int) ≤ x ∧ x < (ss.length : Int)) ((F_link_Put (ss.getD (x).toNat default)).bind fun p => (if (p.2 == 0) = true then (chk (((out.length + [({ to_ := j, body := p.1 } : EOut)].length : Nat) : Int) * 24 ≤ 140737488355328) (chk (inI (x + 1)) (rc (out ++ [({ to_ := j, body := p.1 } : EOut)], x + 1)))) else (chk (inI (x + 1)) (rc (out, x + 1)))))) else fn out)
  (hs : ss.length ≤ 100) (hp : ∀ s ∈ ss, F_link_Put s = some (pt s, 0)) : ∀ (N k : Nat) (out : List EOut), k ≤ ss.length → ss.length - k < N → out.length ≤ 1000 + k → iter body N (out, (k : Int)) = fn (out ++ mo j (ss.drop k))
 | 0, k, out, _, h, _ => by omega
 | N + 1, k, out, hk, hN, ho => by
  show body (iter body N) (out, (k : Int)) = _
  rw [hbody]
  by_cases c : k < ss.length
  ·have h1 := hp (ss.getD k default) (by rw [getD_lt c]; exact List.getElem_mem c)
   rw [if_pos (decide_eq_true (by omega)), chk_t (by omega), toNat_cast, h1, Option.bind_some, if_pos (by rfl), chk_t (by rw [List.length_cons, List.length_nil]; omega), chk_t (by unfold inI; omega)]
   refine (out_in ss j fn hbody hs hp N (k + 1) _ (by omega) (by omega) (by rw [List.length_append, List.length_cons, List.length_nil]; omega)).trans ?_
   rw [drop_cons (d := default) c, List.append_assoc]; rfl
  ·rw [if_neg (by rw [decide_eq_false (by omega)]; decide), List.drop_eq_nil_of_le (by omega)]
   show _ = fn (out ++ []); rw [List.append_nil]

/-- a link whose segments may be written -/
def WrL (L : Elink_Link) : Prop := lkOk L ∧ ∀ s ∈ outsL L true, F_link_Put s = some (pt s, 0)

section
variable {h : Ehub_Hub} {rc : (List EOut × Option Elink_Link × Option Elink_Link × Option Elink_Link × Option Elink_Link × Int) → Option (List EOut × Ehub_Hub)} {out : List EOut} {x0 x1 x2 x3 : Option Elink_Link} {L : Elink_Link}
theorem nilO : F_link_Link_Out_nil true = some [] := by kernel_rfl

theorem o_0n (ho : out.length ≤ 1000) : F_hub_Hub_Out_l1 h true rc (out, none, x1, x2, x3, 0) = rc (out, none, x1, x2, x3, 1) := by
 refine Eq.trans (b := (F_link_Link_Out_nil true).bind fun n => iter (F_hub_Hub_Out_l2 x1 x2 x3 0 rc n) FU (out, 0)) rfl ?_
 rw [nilO, Option.bind_some]
 refine (out_in [] 0 (fun out => chk (inI ((0 : Int) + 1)) (rc (out, none, x1, x2, x3, (0 : Int) + 1))) (fun _ _ _ => rfl) (by simp) (fun _ h => by cases h) FU 0 out (Nat.zero_le _) (by unfold FU; simp) (by omega)).trans ?_
 rw [chk_t (by unfold inI; omega)]
 show rc (out ++ [], _) = _
 rw [List.append_nil]; rfl

theorem o_1n (ho : out.length ≤ 1000) : F_hub_Hub_Out_l1 h true rc (out, x0, none, x2, x3, 1) = rc (out, x0, none, x2, x3, 2) := by
 refine Eq.trans (b := (F_link_Link_Out_nil true).bind fun n => iter (F_hub_Hub_Out_l6 x0 x2 x3 1 rc n) FU (out, 0)) rfl ?_
 rw [nilO, Option.bind_some]
 refine (out_in [] 1 (fun out => chk (inI ((1 : Int) + 1)) (rc (out, x0, none, x2, x3, (1 : Int) + 1))) (fun _ _ _ => rfl) (by simp) (fun _ h => by cases h) FU 0 out (Nat.zero_le _) (by unfold FU; simp) (by omega)).trans ?_
 rw [chk_t (by unfold inI; omega)]
 show rc (out ++ [], _) = _
 rw [List.append_nil]; rfl

theorem o_2n (ho : out.length ≤ 1000) : F_hub_Hub_Out_l1 h true rc (out, x0, x1, none, x3, 2) = rc (out, x0, x1, none, x3, 3) := by
 refine Eq.trans (b := (F_link_Link_Out_nil true).bind fun n => iter (F_hub_Hub_Out_l10 x0 x1 x3 2 rc n) FU (out, 0)) rfl ?_
 rw [nilO, Option.bind_some]
 refine (out_in [] 2 (fun out => chk (inI ((2 : Int) + 1)) (rc (out, x0, x1, none, x3, (2 : Int) + 1))) (fun _ _ _ => rfl) (by simp) (fun _ h => by cases h) FU 0 out (Nat.zero_le _) (by unfold FU; simp) (by omega)).trans ?_
 rw [chk_t (by unfold inI; omega)]
 show rc (out ++ [], _) = _
 rw [List.append_nil]; rfl

theorem o_3n (ho : out.length ≤ 1000) : F_hub_Hub_Out_l1 h true rc (out, x0, x1, x2, none, 3) = rc (out, x0, x1, x2, none, 4) := by
 refine Eq.trans (b := (F_link_Link_Out_nil true).bind fun n => iter (F_hub_Hub_Out_l14 x0 x1 x2 3 rc n) FU (out, 0)) rfl ?_
 rw [nilO, Option.bind_some]
 refine (out_in [] 3 (fun out => chk (inI ((3 : Int) + 1)) (rc (out, x0, x1, x2, none, (3 : Int) + 1))) (fun _ _ _ => rfl) (by simp) (fun _ h => by cases h) FU 0 out (Nat.zero_le _) (by unfold FU; simp) (by omega)).trans ?_
 rw [chk_t (by unfold inI; omega)]
 show rc (out ++ [], _) = _
 rw [List.append_nil]; rfl

theorem o_0s (hw : WrL L) (ho : out.length ≤ 1000) : F_hub_Hub_Out_l1 h true rc (out, some L, x1, x2, x3, 0) = rc (out ++ mo 0 (outsL L true), some (outL L), x1, x2, x3, 1) := by
 have hl := outs_len hw.1 true
 refine Eq.trans (b := (F_link_Link_Out L true).bind fun o => iter (F_hub_Hub_Out_l4 x1 x2 x3 0 rc o) FU (out, 0)) rfl ?_
 rw [link_Out hw.1, Option.bind_some]
 refine (out_in (outsL L true) 0 (fun out => chk (inI ((0 : Int) + 1)) (rc (out, some (outL L), x1, x2, x3, (0 : Int) + 1))) (fun _ _ _ => rfl) (by omega) hw.2 FU 0 out (Nat.zero_le _) (by unfold FU; omega) (by omega)).trans ?_
 rw [chk_t (by unfold inI; omega)]; rfl

theorem o_1s (hw : WrL L) (ho : out.length ≤ 1000) : F_hub_Hub_Out_l1 h true rc (out, x0, some L, x2, x3, 1) = rc (out ++ mo 1 (outsL L true), x0, some (outL L), x2, x3, 2) := by
 have hl := outs_len hw.1 true
 refine Eq.trans (b := (F_link_Link_Out L true).bind fun o => iter (F_hub_Hub_Out_l8 x0 x2 x3 1 rc o) FU (out, 0)) rfl ?_
 rw [link_Out hw.1, Option.bind_some]
 refine (out_in (outsL L true) 1 (fun out => chk (inI ((1 : Int) + 1)) (rc (out, x0, some (outL L), x2, x3, (1 : Int) + 1))) (fun _ _ _ => rfl) (by omega) hw.2 FU 0 out (Nat.zero_le _) (by unfold FU; omega) (by omega)).trans ?_
 rw [chk_t (by unfold inI; omega)]; rfl

theorem o_2s (hw : WrL L) (ho : out.length ≤ 1000) : F_hub_Hub_Out_l1 h true rc (out, x0, x1, some L, x3, 2) = rc (out ++ mo 2 (outsL L true), x0, x1, some (outL L), x3, 3) := by
 have hl := outs_len hw.1 true
 refine Eq.trans (b := (F_link_Link_Out L true).bind fun o => iter (F_hub_Hub_Out_l12 x0 x1 x3 2 rc o) FU (out, 0)) rfl ?_
 rw [link_Out hw.1, Option.bind_some]
 refine (out_in (outsL L true) 2 (fun out => chk (inI ((2 : Int) + 1)) (rc (out, x0, x1, some (outL L), x3, (2 : Int) + 1))) (fun _ _ _ => rfl) (by omega) hw.2 FU 0 out (Nat.zero_le _) (by unfold FU; omega) (by omega)).trans ?_
 rw [chk_t (by unfold inI; omega)]; rfl

theorem o_3s (hw : WrL L) (ho : out.length ≤ 1000) : F_hub_Hub_Out_l1 h true rc (out, x0, x1, x2, some L, 3) = rc (out ++ mo 3 (outsL L true), x0, x1, x2, some (outL L), 4) := by
 have hl := outs_len hw.1 true
 refine Eq.trans (b := (F_link_Link_Out L true).bind fun o => iter (F_hub_Hub_Out_l16 x0 x1 x2 3 rc o) FU (out, 0)) rfl ?_
 rw [link_Out hw.1, Option.bind_some]
 refine (out_in (outsL L true) 3 (fun out => chk (inI ((3 : Int) + 1)) (rc (out, x0, x1, x2, some (outL L), (3 : Int) + 1))) (fun _ _ _ => rfl) (by omega) hw.2 FU 0 out (Nat.zero_le _) (by unfold FU; omega) (by omega)).trans ?_
 rw [chk_t (by unfold inI; omega)]; rfl

theorem o_4 : F_hub_Hub_Out_l1 h true rc (out, x0, x1, x2, x3, 4) = some (out, { h with l := [x0, x1, x2, x3] }) := rfl

end
theorem iter_5 {σ R : Type} (body : (σ → Option R) → σ → Option R) : ∃ rc, iter body FU = body (body (body (body (body rc)))) := ⟨iter body 18446744073709551611, by unfold FU; rfl⟩

/-- what goes out of a hub -/
def ents (f : Nat → Elink_Link) (i : Nat) : List EOut := if i = 0 then [] ++ mo 1 (outsL (f 1) true) ++ mo 2 (outsL (f 2) true) ++ mo 3 (outsL (f 3) true) else if i = 1 then [] ++ mo 0 (outsL (f 0) true) ++ mo 2 (outsL (f 2) true) ++ mo 3 (outsL (f 3) true) else if i = 2 then [] ++ mo 0 (outsL (f 0) true) ++ mo 1 (outsL (f 1) true) ++ mo 3 (outsL (f 3) true) else [] ++ mo 0 (outsL (f 0) true) ++ mo 1 (outsL (f 1) true) ++ mo 2 (outsL (f 2) true)

theorem mo_len (j : Int) (ss : List ESeg) : (mo j ss).length = ss.length := List.length_map _

theorem hub_Out {f : Nat → Elink_Link} {i : Nat} (hi : i < 4) (hw : ∀ j, j < 4 → j ≠ i → WrL (f j)) : F_hub_Hub_Out (hb f i) true = some (ents f i, hb (fun j => outL (f j)) i) := by
 have hl : ∀ j, j < 4 → j ≠ i → ∀ z : Int, (mo z (outsL (f j) true)).length ≤ 4 := fun j h1 h2 z => by rw [mo_len]; exact outs_len (hw j h1 h2).1 true
 have e : ∀ g k, F_hub_Hub_Out (hb g k) true = iter (F_hub_Hub_Out_l1 (hb g k) true) FU ([], (hb g k).l.getD 0 none, (hb g k).l.getD 1 none, (hb g k).l.getD 2 none, (hb g k).l.getD 3 none, 0) := fun _ _ => rfl
 rw [e]
 obtain ⟨rc, hrc⟩ := iter_5 (F_hub_Hub_Out_l1 (hb f i) true)
 rw [hrc]
 rcases lt4 hi with rfl | rfl | rfl | rfl
 ·have l1 := hl 1 (by omega) (by omega) 1; have l2 := hl 2 (by omega) (by omega) 2
  refine (o_0n (by simp)).trans ((o_1s (hw 1 (by omega) (by omega)) (by simp)).trans ((o_2s (hw 2 (by omega) (by omega)) (by simp only [List.length_append, List.length_nil]; omega)).trans ((o_3s (hw 3 (by omega) (by omega)) (by simp only [List.length_append, List.length_nil]; omega)).trans ?_)))
  rfl
 ·have l1 := hl 0 (by omega) (by omega) 0; have l2 := hl 2 (by omega) (by omega) 2
  refine (o_0s (hw 0 (by omega) (by omega)) (by simp)).trans ((o_1n (by simp only [List.length_append, List.length_nil]; omega)).trans ((o_2s (hw 2 (by omega) (by omega)) (by simp only [List.length_append, List.length_nil]; omega)).trans ((o_3s (hw 3 (by omega) (by omega)) (by simp only [List.length_append, List.length_nil]; omega)).trans ?_)))
  rfl
 ·have l1 := hl 0 (by omega) (by omega) 0; have l2 := hl 1 (by omega) (by omega) 1
  refine (o_0s (hw 0 (by omega) (by omega)) (by simp)).trans ((o_1s (hw 1 (by omega) (by omega)) (by simp only [List.length_append, List.length_nil]; omega)).trans ((o_2n (by simp only [List.length_append, List.length_nil]; omega)).trans ((o_3s (hw 3 (by omega) (by omega)) (by simp only [List.length_append, List.length_nil]; omega)).trans ?_)))
  rfl
 ·have l1 := hl 0 (by omega) (by omega) 0; have l2 := hl 1 (by omega) (by omega) 1; have l3 := hl 2 (by omega) (by omega) 2
  refine (o_0s (hw 0 (by omega) (by omega)) (by simp)).trans ((o_1s (hw 1 (by omega) (by omega)) (by simp only [List.length_append, List.length_nil]; omega)).trans ((o_2s (hw 2 (by omega) (by omega)) (by simp only [List.length_append, List.length_nil]; omega)).trans ((o_3n (by simp only [List.length_append, List.length_nil]; omega)).trans ?_)))
  rfl

end Go.Proofs.Ytghkhndlpfmpfaa
