/- Messages: their bytes. -/
import Derived.Test.YthmjkcdpbbcdgaaYMs1
import Derived.Test.YthmjkcdpbbcdgaaYMsP
namespace Go.Proofs.Ythmjkcdpbbcdgaa

theorem rng_ok {n : Int} (h : rng n = 0) : 0 ≤ n ∧ n ≤ 1073741824 := by
 unfold rng at h; split at h
 ·cases h
 ·omega

theorem firstBad_ok {α : Type} {f : α → Int} : ∀ {l : List α}, firstBad f l = 0 → ∀ a ∈ l, f a = 0
 | [], _, a, h => by cases h
 | b :: l, h, a, ha => by
  rw [firstBad] at h
  by_cases hb : f b ≠ 0
  ·rw [if_pos hb] at h; exact absurd h hb
  ·rw [if_neg hb] at h
   rcases List.mem_cons.1 ha with rfl | ha
   ·exact Decidable.not_not.1 hb
   ·exact firstBad_ok h a ha

theorem conf_Put1 (c : EConf) (hb : bdEConf c) (h : confCheck c = 0) : ∃ p, F_conf_Put c = some p ∧ bL p.1 = confB c := by
 obtain ⟨s, h1, h2⟩ := conf_Put c hb h; exact ⟨(s, 0), h2, h1⟩

theorem ops_Put1 (b : EBatch) (h : batchCheck b = 0) : ∃ p, F_ops_Put b = some p ∧ bL p.1 = batchB b := by
 obtain ⟨s, h1, h2⟩ := ops_Put b h; exact ⟨(s, 0), h2, h1⟩

theorem item_Put1 (e : EEntry) (ht : inU e.ts) (h : batchCheck e.batch = 0) : ∃ p, F_item_Put e = some p ∧ bL p.1 = entryB e := by
 obtain ⟨s, hb, h2⟩ := ops_Put e.batch h
 have hsz : s.size ≤ 187 := by have := batchB_len h; rw [← hb, bL_len] at this; exact this
 have hv := vputL_len e.ts.toNat
 obtain ⟨y1, e1, w1⟩ := wW_big (x := default) (z := e.ts) Wt.w0 ht (by simp)
 obtain ⟨y2, e2, w2⟩ := wW_text s w1 (by simp only [List.nil_append]; omega)
 obtain ⟨t, e3, w3⟩ := wW_done w2
 refine ⟨(t, 0), ?_, ?_⟩
 ·unfold F_item_Put
  rw [h2, Option.bind_some, if_neg (show ¬ ((0 : Int) != 0) = true by decide), F_wire_New, Option.bind_some, e1, Option.bind_some, e2, Option.bind_some, e3]; rfl
 ·show bL t = _
  rw [w3, entryB, ← hb, bL_len]; rfl

def innerE (e : EEntry) : List Nat := vputL (entryB e).length ++ entryB e

def bigB (x : Int) : List Nat := vputL x.toNat

def pairB (p : EPair) : List Nat := textB p.key ++ textB p.val

def letB (m : EMsg) : Nat → List Nat
 | 101 => vputL m.epoch.toNat | 115 => vputL m.serial.toNat | 114 => vputL m.req.toNat | 110 => vputL m.n.toNat | 109 => vputL m.m.toNat | 112 => vputL m.p.toNat
 | 120 => vputL m.e.toNat | 97 => vputL m.at_.toNat | 108 => vputL m.last.toNat | 102 => flagB m.flag
 | 107 => textB m.key | 116 => textB m.to_
 | 67 => vputL (confB m.conf).length ++ confB m.conf
 | 66 => vputL (batchB m.batch).length ++ batchB m.batch
 | 69 => vputL m.entries.length ++ m.entries.flatMap innerE
 | 83 => vputL m.stamps.length ++ m.stamps.flatMap bigB
 | 82 => vputL m.pairs.length ++ m.pairs.flatMap pairB
 | _ => []

theorem pair_ok {p : EPair} (h : pairBad p = 0) : p.key.size ≤ 8 ∧ p.val.size ≤ 8 := by
 unfold pairBad at h
 by_cases h1 : p.key.size < 1 ∨ p.key.size > 8
 ·rw [if_pos h1] at h; cases h
 rw [if_neg h1] at h
 by_cases h2 : p.val.size > 8
 ·rw [if_pos h2] at h; cases h
 omega

theorem pairB_len {p : EPair} (h : pairBad p = 0) : (pairB p).length ≤ 34 := by
 have := pair_ok h; have := textB_len p.key; have := textB_len p.val
 unfold pairB; rw [List.length_append]; omega

theorem innerE_len {e : EEntry} (h : batchCheck e.batch = 0) : (innerE e).length ≤ 214 := by
 have := entryB_len h; have := vputL_len (entryB e).length
 unfold innerE; rw [List.length_append]; omega

theorem bigB_len (x : Int) : (bigB x).length ≤ 9 := vputL_len _

/-- what a part without a fault holds -/
theorem part69 {m : EMsg} (h : wrongC m 69 = 0) : m.entries.length ≤ 4 ∧ ∀ e ∈ m.entries, batchCheck e.batch = 0 := by
 change (if m.entries.length > 4 then (6 : Int) else firstBad (fun e => batchCheck e.batch) m.entries) = 0 at h
 by_cases h4 : m.entries.length > 4
 ·rw [if_pos h4] at h; cases h
 ·rw [if_neg h4] at h; exact ⟨by omega, firstBad_ok h⟩

theorem part83 {m : EMsg} (h : wrongC m 83 = 0) : m.stamps.length ≤ 8 := by
 change (if m.stamps.length > 8 then (6 : Int) else 0) = 0 at h
 by_cases h4 : m.stamps.length > 8
 ·rw [if_pos h4] at h; cases h
 ·omega

theorem part82 {m : EMsg} (h : wrongC m 82 = 0) : m.pairs.length ≤ 32 ∧ ∀ p ∈ m.pairs, pairBad p = 0 := by
 change (if m.pairs.length > 32 then (6 : Int) else firstBad pairBad m.pairs) = 0 at h
 by_cases h4 : m.pairs.length > 32
 ·rw [if_pos h4] at h; cases h
 ·rw [if_neg h4] at h; exact ⟨by omega, firstBad_ok h⟩

theorem part120 {m : EMsg} (h : wrongC m 120 = 0) : 0 ≤ m.e ∧ m.e ≤ 21 := by
 change (if m.e < 0 ∨ m.e > 21 then (1 : Int) else 0) = 0 at h
 by_cases h4 : m.e < 0 ∨ m.e > 21
 ·rw [if_pos h4] at h; cases h
 ·omega

theorem part107 {m : EMsg} (h : wrongC m 107 = 0) : m.key.size ≤ 8 := by
 change (if m.key.size > 8 then (3 : Int) else 0) = 0 at h
 by_cases h4 : m.key.size > 8
 ·rw [if_pos h4] at h; cases h
 ·omega

theorem part116 {m : EMsg} (h : wrongC m 116 = 0) : m.to_.size ≤ 8 := by
 change (if m.to_.size > 8 then (3 : Int) else 0) = 0 at h
 by_cases h4 : m.to_.size > 8
 ·rw [if_pos h4] at h; cases h
 ·omega

theorem letB_len {m : EMsg} {c : Nat} (hc : c ∈ okL) (h : wrongC m c = 0) : (letB m c).length ≤ 2000 := by
 refine okL_cases (P := fun c => wrongC m c = 0 → (letB m c).length ≤ 2000) hc ?_ ?_ ?_ ?_ ?_ ?_ ?_ ?_ ?_ ?_ ?_ ?_ ?_ ?_ ?_ ?_ ?_ h <;> intro h
 ·exact Nat.le_trans (vputL_len _) (by decide)
 ·exact Nat.le_trans (vputL_len _) (by decide)
 ·exact Nat.le_trans (vputL_len _) (by decide)
 ·exact Nat.le_trans (vputL_len _) (by decide)
 ·exact Nat.le_trans (vputL_len _) (by decide)
 ·exact Nat.le_trans (vputL_len _) (by decide)
 ·exact Nat.le_trans (vputL_len _) (by decide)
 ·exact Nat.le_trans (vputL_len _) (by decide)
 ·exact Nat.le_trans (vputL_len _) (by decide)
 ·exact Nat.le_trans (Nat.le_of_eq (flagB_len _)) (by decide)
 ·have := part107 h; have := textB_len m.key; show (textB m.key).length ≤ 2000; omega
 ·have := part116 h; have := textB_len m.to_; show (textB m.to_).length ≤ 2000; omega
 ·have hk : confCheck m.conf = 0 := h
  have := confB_len (confCheck_ok hk).2.2.2.1; have := vputL_len (confB m.conf).length
  show (vputL (confB m.conf).length ++ confB m.conf).length ≤ 2000
  rw [List.length_append]; omega
 ·have hk : batchCheck m.batch = 0 := h
  have := batchB_len hk; have := vputL_len (batchB m.batch).length
  show (vputL (batchB m.batch).length ++ batchB m.batch).length ≤ 2000
  rw [List.length_append]; omega
 ·obtain ⟨h1, h2⟩ := part69 h
  have := flatB_len innerE 214 m.entries fun a ha => innerE_len (h2 a ha); have := vputL_len m.entries.length
  show (vputL m.entries.length ++ m.entries.flatMap innerE).length ≤ 2000
  rw [List.length_append]; omega
 ·have h1 := part83 h
  have := flatB_len bigB 9 m.stamps fun a _ => bigB_len a; have := vputL_len m.stamps.length
  show (vputL m.stamps.length ++ m.stamps.flatMap bigB).length ≤ 2000
  rw [List.length_append]; omega
 ·obtain ⟨h1, h2⟩ := part82 h
  have := flatB_len pairB 34 m.pairs fun a ha => pairB_len (h2 a ha); have := vputL_len m.pairs.length
  show (vputL m.pairs.length ++ m.pairs.flatMap pairB).length ≤ 2000
  rw [List.length_append]; omega

-- lists written
theorem wLoopE {α : Type} [Inhabited α] {body : (Int × Ewire_Writer → Option Ewire_Writer) → Int × Ewire_Writer → Option Ewire_Writer} (l : List α) (hl : l.length ≤ bdM) (B : α → List Nat) (pre : List Nat)
  (h1 : ∀ rc (k : Nat) (y : Ewire_Writer), k < l.length → Wt (toWw y) (pre ++ (l.take k).flatMap B) → ∃ y', Wt (toWw y') ((pre ++ (l.take k).flatMap B) ++ B (l.getD k default)) ∧ body rc ((k : Int), y) = rc ((k : Int) + 1, y'))
  (h2 : ∀ rc (y : Ewire_Writer), body rc ((l.length : Int), y) = some y) (y : Ewire_Writer) (hy : Wt (toWw y) pre) : ∃ r, iter body FU (0, y) = some r ∧ Wt (toWw r) (pre ++ l.flatMap B) := by
 refine iter_ex (fun s : Int × Ewire_Writer => l.length - s.1.toNat) (fun s : Int × Ewire_Writer => 0 ≤ s.1 ∧ s.1 ≤ (l.length : Int) ∧ Wt (toWw s.2) (pre ++ (l.take s.1.toNat).flatMap B)) _ (fun rc ⟨i, y⟩ ⟨a1, a2, a3⟩ => ?_) FU (0, y) ⟨by simp, by simp, by simpa using hy⟩ (lt_FU (by simpa using hl))
 simp only at a1 a2 a3
 obtain ⟨k, rfl⟩ := Int.eq_ofNat_of_zero_le a1
 rw [Int.toNat_natCast] at a3
 by_cases hk : k < l.length
 ·obtain ⟨y', b1, b2⟩ := h1 rc k y hk a3
  refine .inl ⟨((k : Int) + 1, y'), ⟨by simp only; omega, by simp only; omega, ?_⟩, by simp only [Int.toNat_natCast]; omega, b2⟩
  rw [show ((k : Int) + 1).toNat = k + 1 by omega, take_snoc (d := default) hk, List.flatMap_append, ← List.append_assoc]
  simpa using b1
 ·have : k = l.length := by omega
  subst this
  exact .inr ⟨y, h2 rc y, by rw [List.take_length] at a3; exact a3⟩

section
variable {m : EMsg} {l : List Nat} (hl : l.length ≤ 100000)
include hl
theorem mess_write_num {w : Ewire_Writer} (hw : Wt (toWw w) l) {c : Int} {o : Nat} {x : Int} (h9 : F_mess_write w m c = (F_mess_plain w m c).bind fun p => some p) (h : F_mess_number c = some (some o)) (hs : selI [(1, m.epoch), (2, m.req), (3, m.serial), (7, m.n), (8, m.m), (9, m.p)] (some o) = some x) (hx : rng x = 0) : ∃ y, F_mess_write w m c = some y ∧ Wt (toWw y) (l ++ vputL x.toNat) := by
 have hr := rng_ok hx
 obtain ⟨y, e, hy⟩ := wW_num (z := x) hw (by omega) (by unfold inI; omega) (by omega)
 refine ⟨y, ?_, hy⟩
 rw [h9, F_mess_plain, h, Option.bind_some, if_pos (show (!(some o).isNone) = true from rfl), chk_t (show (some o).isSome = true from rfl), hs, Option.bind_some, e]; rfl

theorem mess_write_text {w : Ewire_Writer} (hw : Wt (toWw w) l) (t : ByteArray) (ht : t.size ≤ 1000) : ∃ y, F_mess_plain_k1 w t = some y ∧ Wt (toWw y) (l ++ (vputL t.size ++ bL t)) := by
 obtain ⟨y, e, hy⟩ := wW_text t hw (by omega)
 exact ⟨y, by rw [F_mess_plain_k1, e]; rfl, hy⟩

theorem mess_write {w : Ewire_Writer} (hw : Wt (toWw w) l) (hb : bdEMsg m) {c : Nat} (hc : c ∈ okL) (h : wrongC m c = 0) : ∃ y, F_mess_write w m (c : Int) = some y ∧ Wt (toWw y) (l ++ letB m c) := by
 refine okL_cases (P := fun c => wrongC m c = 0 → ∃ y, F_mess_write w m (c : Int) = some y ∧ Wt (toWw y) (l ++ letB m c)) hc ?_ ?_ ?_ ?_ ?_ ?_ ?_ ?_ ?_ ?_ ?_ ?_ ?_ ?_ ?_ ?_ ?_ h <;> intro h
 ·exact mess_write_num hl hw (c := 101) (o := 1) rfl rfl rfl h
 ·exact mess_write_num hl hw (c := 115) (o := 3) rfl rfl rfl h
 ·exact mess_write_num hl hw (c := 114) (o := 2) rfl rfl rfl h
 ·exact mess_write_num hl hw (c := 110) (o := 7) rfl rfl rfl h
 ·exact mess_write_num hl hw (c := 109) (o := 8) rfl rfl rfl h
 ·exact mess_write_num hl hw (c := 112) (o := 9) rfl rfl rfl h
 ·have := part120 h
  obtain ⟨y, e, hy⟩ := wW_num (z := m.e) hw (by omega) (by unfold inI; omega) (by omega)
  refine ⟨y, ?_, hy⟩
  show ((F_wire_Writer_Num w m.e).bind fun n0_3 => some n0_3).bind (fun p => some p) = _
  rw [e]; rfl
 ·obtain ⟨y, e, hy⟩ := wW_big (z := m.at_) hw hb.at_ (by omega)
  refine ⟨y, ?_, hy⟩
  show ((F_wire_Writer_Big w m.at_).bind fun n0_3 => some n0_3).bind (fun p => some p) = _
  rw [e]; rfl
 ·obtain ⟨y, e, hy⟩ := wW_big (z := m.last) hw hb.last (by omega)
  refine ⟨y, ?_, hy⟩
  show ((F_wire_Writer_Big w m.last).bind fun n0_3 => some n0_3).bind (fun p => some p) = _
  rw [e]; rfl
 ·obtain ⟨y, e, hy⟩ := wW_flag m.flag hw (by omega)
  refine ⟨y, ?_, hy⟩
  show ((F_wire_Writer_Flag w m.flag).bind fun n0_3 => some n0_3).bind (fun p => some p) = _
  rw [e]; rfl
 ·obtain ⟨y, e, hy⟩ := mess_write_text hl hw m.key (by have := part107 h; omega)
  refine ⟨y, ?_, hy⟩
  show (F_mess_plain_k1 w m.key).bind (fun p => some p) = _
  rw [e]; rfl
 ·obtain ⟨y, e, hy⟩ := mess_write_text hl hw m.to_ (by have := part116 h; omega)
  refine ⟨y, ?_, hy⟩
  show (F_mess_plain_k1 w m.to_).bind (fun p => some p) = _
  rw [e]; rfl
 ·have hk : confCheck m.conf = 0 := h
  obtain ⟨p, p1, p5⟩ := conf_Put1 m.conf hb.conf hk
  have hs : p.1.size = (confB m.conf).length := by rw [← bL_len, p5]
  obtain ⟨y, e, hy⟩ := mess_write_text hl hw p.1 (by have := confB_len (confCheck_ok hk).2.2.2.1; omega)
  refine ⟨y, ?_, by rw [hs, p5] at hy; exact hy⟩
  show (((F_conf_Put m.conf).bind fun p => F_mess_plain_k1 w p.1).bind fun p => some p) = _
  rw [p1, Option.bind_some, e]; rfl
 ·have hk : batchCheck m.batch = 0 := h
  obtain ⟨p, p1, p5⟩ := ops_Put1 m.batch hk
  have hs : p.1.size = (batchB m.batch).length := by rw [← bL_len, p5]
  obtain ⟨y, e, hy⟩ := mess_write_text hl hw p.1 (by have := batchB_len hk; omega)
  refine ⟨y, ?_, by rw [hs, p5] at hy; exact hy⟩
  show (((F_ops_Put m.batch).bind fun p => F_mess_plain_k1 w p.1).bind fun p => some p) = _
  rw [p1, Option.bind_some, e]; rfl
 ·obtain ⟨h1, h2⟩ := part69 h
  obtain ⟨y, e, hy⟩ := wW_num (z := (m.entries.length : Int)) hw (by omega) (by unfold inI; omega) (by omega)
  show ∃ z, ((F_wire_Writer_Num w (m.entries.length : Int)).bind fun n0 => iter (F_mess_write_l1 m) FU (0, n0)) = some z ∧ Wt (toWw z) (l ++ (vputL m.entries.length ++ m.entries.flatMap innerE))
  rw [e, Option.bind_some, ← List.append_assoc]
  have hv := vputL_len m.entries.length
  refine wLoopE m.entries (by unfold bdM; omega) innerE _ (fun rc k z hk hz => ?_) (fun rc z => ?_) y hy
  ·have hm := h2 (m.entries.getD k default) (by rw [getD_lt hk]; exact List.getElem_mem hk)
   have ht : inU (m.entries.getD k default).ts := (hb.entries.2 k hk).ts
   have hml := flatB_len innerE 214 (m.entries.take k) fun a ha => innerE_len (h2 a (List.mem_of_mem_take ha))
   rw [List.length_take] at hml
   obtain ⟨p, p1, p5⟩ := item_Put1 (m.entries.getD k default) ht hm
   have hs : p.1.size = (entryB (m.entries.getD k default)).length := by rw [← bL_len, p5]
   obtain ⟨z', f, hz'⟩ := wW_text p.1 hz (by have := entryB_len hm; simp only [List.length_append, toNat_cast]; omega)
   refine ⟨z', by rw [hs, p5] at hz'; exact hz', ?_⟩
   simp only [F_mess_write_l1, decide_eq_true_eq, toNat_cast]
   rw [if_pos (by omega), chk_t (by omega), p1, Option.bind_some, f, Option.bind_some, chk_t (by unfold inI; omega)]
  ·simp only [F_mess_write_l1, decide_eq_true_eq]
   rw [if_neg (by omega)]
 ·have h1 := part83 h
  obtain ⟨y, e, hy⟩ := wW_num (z := (m.stamps.length : Int)) hw (by omega) (by unfold inI; omega) (by omega)
  show ∃ z, ((F_wire_Writer_Num w (m.stamps.length : Int)).bind fun n0 => iter (F_mess_write_l2 m) FU (0, n0)) = some z ∧ Wt (toWw z) (l ++ (vputL m.stamps.length ++ m.stamps.flatMap bigB))
  rw [e, Option.bind_some, ← List.append_assoc]
  have hv := vputL_len m.stamps.length
  refine wLoopE m.stamps (by unfold bdM; omega) bigB _ (fun rc k z hk hz => ?_) (fun rc z => ?_) y hy
  ·have ht : inU (m.stamps.getD k default) := hb.stamps.2 k hk
   have hml := flatB_len bigB 9 (m.stamps.take k) fun a _ => bigB_len a
   rw [List.length_take] at hml
   obtain ⟨z', f, hz'⟩ := wW_big hz ht (by simp only [List.length_append, toNat_cast]; omega)
   refine ⟨z', hz', ?_⟩
   simp only [F_mess_write_l2, decide_eq_true_eq, toNat_cast]
   rw [if_pos (by omega), chk_t (by omega), f, Option.bind_some, chk_t (by unfold inI; omega)]
  ·simp only [F_mess_write_l2, decide_eq_true_eq]
   rw [if_neg (by omega)]
 ·obtain ⟨h1, h2⟩ := part82 h
  obtain ⟨y, e, hy⟩ := wW_num (z := (m.pairs.length : Int)) hw (by omega) (by unfold inI; omega) (by omega)
  show ∃ z, ((F_wire_Writer_Num w (m.pairs.length : Int)).bind fun n0 => iter (F_mess_write_l3 m) FU (0, n0)) = some z ∧ Wt (toWw z) (l ++ (vputL m.pairs.length ++ m.pairs.flatMap pairB))
  rw [e, Option.bind_some, ← List.append_assoc]
  have hv := vputL_len m.pairs.length
  refine wLoopE m.pairs (by unfold bdM; omega) pairB _ (fun rc k z hk hz => ?_) (fun rc z => ?_) y hy
  ·have hm := h2 (m.pairs.getD k default) (by rw [getD_lt hk]; exact List.getElem_mem hk)
   obtain ⟨k1, k2⟩ := pair_ok hm
   have hml := flatB_len pairB 34 (m.pairs.take k) fun a ha => pairB_len (h2 a (List.mem_of_mem_take ha))
   rw [List.length_take] at hml
   obtain ⟨z1, f1, hz1⟩ := wW_text (m.pairs.getD k default).key hz (by simp only [List.length_append, toNat_cast]; omega)
   obtain ⟨z2, f2, hz2⟩ := wW_text (m.pairs.getD k default).val hz1 (by have := textB_len (m.pairs.getD k default).key; unfold textB at this; simp only [List.length_append, toNat_cast] at this ⊢; omega)
   refine ⟨z2, by rw [List.append_assoc] at hz2; exact hz2, ?_⟩
   simp only [F_mess_write_l3, decide_eq_true_eq, toNat_cast]
   rw [if_pos (by omega), chk_t (by omega), f1, Option.bind_some, f2, Option.bind_some, chk_t (by unfold inI; omega)]
  ·simp only [F_mess_write_l3, decide_eq_true_eq]
   rw [if_neg (by omega)]

end
def msgB (m : EMsg) : List Nat := vputL m.k.toNat ++ (lettersK m.k).flatMap (letB m)

theorem msgCheck_ok {m : EMsg} (h : msgCheck m = 0) : (1 ≤ m.k ∧ m.k ≤ 15) ∧ ∀ c ∈ lettersK m.k, wrongC m c = 0 := by
 unfold msgCheck at h
 by_cases hk : 1 ≤ m.k ∧ m.k ≤ 15
 ·rw [if_pos hk] at h; exact ⟨hk, firstBad_ok h⟩
 ·rw [if_neg hk] at h; cases h

theorem letters_len {m : EMsg} {L : List Nat} (hL : ∀ c ∈ L, c ∈ okL) (h : ∀ c ∈ L, wrongC m c = 0) (h7 : L.length ≤ 7) (k : Nat) : ((L.take k).flatMap (letB m)).length ≤ 14000 := by
 have := flatB_len (letB m) 2000 (L.take k) fun a ha => letB_len (hL a (List.mem_of_mem_take ha)) (h a (List.mem_of_mem_take ha))
 rw [List.length_take] at this
 omega

theorem mess_Put (m : EMsg) (hb : bdEMsg m) (h0 : msgCheck m = 0) : ∃ s, F_mess_Put m = some (s, 0) ∧ bL s = msgB m := by
 obtain ⟨hk, hw⟩ := msgCheck_ok h0
 obtain ⟨p, e1, _, _, ⟨h4, h5, h6⟩, h7⟩ := parts_yes hk
 obtain ⟨y, e, hy⟩ := wW_num (x := default) (z := m.k) Wt.w0 (by omega) (by unfold inI; omega) (by simp)
 rw [List.nil_append] at hy
 have hv := vputL_len m.k.toNat
 unfold F_mess_Put msgB
 rw [mess_Check m hb.entries.1 hb.pairs.1, h0, Option.bind_some, if_neg (by decide), e1, Option.bind_some, F_wire_New, Option.bind_some, e, Option.bind_some]
 generalize lettersK m.k = L at *
 have := iter_ex (body := F_mess_Put_l1 m (p, true)) (fun s : Ewire_Writer × Nat => L.length - s.2) (fun s : Ewire_Writer × Nat => s.2 ≤ L.length ∧ Wt (toWw s.1) (vputL m.k.toNat ++ (L.take s.2).flatMap (letB m))) (fun r => r.2 = 0 ∧ bL r.1 = vputL m.k.toNat ++ L.flatMap (letB m)) (fun rc ⟨z, k⟩ ⟨a1, a2⟩ => by
  simp only at a1 a2
  simp only [F_mess_Put_l1, decide_eq_true_eq, h4]
  by_cases hk1 : k < L.length
  ·obtain ⟨f1, f2, f3⟩ := h6 k hk1
   have hm : L.getD k 0 ∈ L := by rw [getD_lt hk1]; exact List.getElem_mem _
   obtain ⟨z', g, hz⟩ := mess_write (m := m) (by have := letters_len (m := m) h7 hw h5 k; rw [List.length_append]; omega) a2 hb (h7 _ hm) (hw _ hm)
   refine .inl ⟨(z', k + 1), ⟨by simp only; omega, ?_⟩, by simp only; omega, ?_⟩
   ·simp only; rw [take_snoc (d := 0) hk1, List.flatMap_append, ← List.append_assoc]; simpa using hz
   ·rw [if_pos hk1, chk_t hk1, f1, g, Option.bind_some, f2]
  ·have : k = L.length := by omega
   subst this
   rw [List.take_length] at a2
   obtain ⟨s, g, hs⟩ := wW_done a2
   exact .inr ⟨(s, 0), by rw [if_neg (by omega), g]; rfl, rfl, hs⟩) FU (y, 0) ⟨by simp, by simpa using hy⟩ (lt_FU (by unfold bdM; simp only; omega))
 obtain ⟨⟨s, er⟩, g1, g2, g3⟩ := this
 simp only at g2 g3
 subst g2
 exact ⟨s, g1, g3⟩

theorem mess_PutA (m : EMsg) (hb : bdEMsg m) : ∃ p, F_mess_Put m = some p ∧ p.2 = msgCheck m ∧ (msgCheck m = 0 → bL p.1 = msgB m) := by
 by_cases h : msgCheck m = 0
 ·obtain ⟨s, h2, h1⟩ := mess_Put m hb h
  exact ⟨(s, 0), h2, h.symm, fun _ => h1⟩
 ·have h1 : (msgCheck m != 0) = true := bne_iff_ne.2 h
  exact ⟨(⟨#[]⟩, msgCheck m), by unfold F_mess_Put; rw [mess_Check m hb.entries.1 hb.pairs.1, Option.bind_some, if_pos h1], rfl, fun x => absurd x h⟩

end Go.Proofs.Ythmjkcdpbbcdgaa
