/- What a replica answers: plain. -/
import Derived.Test.YtaknkbbjimielaaYMLR
import Derived.Test.YtaknkbbjimielaaYMsR
import Derived.Test.YtaknkbbjimielaaYSvW
namespace Go.Proofs.Ytaknkbbjimielaa
structure bdElaw31_Put (x : Elaw31_Put) : Prop where
 t : inU x.t
 ops : (bdSl bdEOp) x.ops

structure bdElaw31_View (x : Elaw31_View) : Prop where
 mark : inU x.mark
 horizon : inU x.horizon
 epoch : inI x.epoch
 head : inI x.head

theorem few31 (l : List Elaw31_Put) : ∃ b, F_law31_few l = some b := by
 unfold F_law31_few
 obtain ⟨r, h, _⟩ := iter_ex (body := F_law31_few_l1 l) (fun s : Int => 41 - s.toNat) (fun s : Int => 0 ≤ s ∧ s ≤ 40) (fun _ => True) (fun rc i ⟨a1, a2⟩ => by
  obtain ⟨k, rfl⟩ := Int.eq_ofNat_of_zero_le a1
  simp only [F_law31_few_l1, toNat_cast]
  by_cases c : k < l.length ∧ k < 40
  ·rw [if_pos (by simp only [Bool.and_eq_true, decide_eq_true_eq]; omega), chk_t (by omega)]
   by_cases d : decide (((l.getD k default).ops.length : Int) > 20) = true
   ·rw [if_pos d]; exact .inr ⟨false, rfl, trivial⟩
   ·rw [if_neg d, chk_t (by unfold inI; omega)]
    exact .inl ⟨(k : Int) + 1, ⟨by omega, by omega⟩, by omega, rfl⟩
  ·rw [if_neg (by simp only [Bool.and_eq_true, decide_eq_true_eq]; omega)]
   exact .inr ⟨true, rfl, trivial⟩) FU 0 ⟨by decide, by decide⟩ (lt_FU (by unfold bdM; omega))
 exact ⟨r, h⟩

def bndC (t mark hor : Int) : Int := if t > mark then 12 else if t < hor then 13 else 0

theorem sv_bound (t mark hor : Int) : F_bound_Check t mark hor = some (bndC t mark hor) := by
 unfold F_bound_Check F_bound_span_check bndC
 by_cases h1 : t > mark
 ·rw [if_pos (decide_eq_true h1), if_pos h1]; rfl
 ·rw [if_neg (by simpa using h1), if_neg h1]
  by_cases h2 : t < hor
  ·rw [if_pos (decide_eq_true h2), if_pos h2]; rfl
  ·rw [if_neg (by simpa using h2), if_neg h2]; rfl

def noV (v : Eserve_View) (req e : Int) : EMsg := { (default : EMsg) with k := 7, epoch := v.epoch, req := req, n := v.head, e := e }

def rowsM (x : EMsg) (ps : List EPair) (fl : Bool) : EMsg := { (default : EMsg) with k := 10, req := x.req, flag := fl, at_ := x.at_, key := x.key, pairs := ps }

def getP (rows : List Rw) (x : EMsg) : List EPair := if (atL (gR x.key rows) x.at_).2 = true then [⟨x.key, (atL (gR x.key rows) x.at_).1⟩] else []

def getA (rows : List Rw) (v : Eserve_View) (x : EMsg) : EMsg := if bndC x.at_ v.mark v.horizon ≠ 0 then noV v x.req (bndC x.at_ v.mark v.horizon) else rowsM x (getP rows x) false

def scanA (rows : List Rw) (v : Eserve_View) (x : EMsg) : EMsg := if bndC x.at_ v.mark v.horizon ≠ 0 then noV v x.req (bndC x.at_ v.mark v.horizon) else rowsM x ((viewR x.key x.to_ x.at_ rows).take (min x.n 32).toNat) (decide ((min x.n 32).toNat < (viewR x.key x.to_ x.at_ rows).length))

def ansA (rows : List Rw) (v : Eserve_View) (x : EMsg) : EMsg × Bool := if msgCheck x ≠ 0 then (default, false) else if x.k = 8 then (getA rows v x, true) else if x.k = 9 then (scanA rows v x, true) else (default, false)

section
variable {s : Emvcc_Store} {T : Etree_Tree_api_Cell} {rows : List Rw} (h : mvOk s T rows) (hz : cellsR rows < big)
include h hz
theorem sv_Get (v : Eserve_View) (x : EMsg) : F_serve_Get s v x = some (getA rows v x, s) := by
 unfold F_serve_Get F_serve_read__serve_Get_1 F_serve_Get_1 getA getP
 rw [sv_bound, Option.bind_some]
 by_cases c : bndC x.at_ v.mark v.horizon ≠ 0
 ·rw [if_pos (bne_iff_ne.2 c), if_pos c]; rfl
 ·rw [if_neg (fun e => c (bne_iff_ne.1 e)), if_neg c, mv_Get h hz, Option.bind_some]
  dsimp only
  cases (atL (gR x.key rows) x.at_).2 <;> rfl

theorem sv_Scan (v : Eserve_View) (x : EMsg) : F_serve_Scan s v x = some (scanA rows v x, s) := by
 unfold F_serve_Scan F_serve_read__serve_Scan_1 F_serve_Scan_1 scanA
 rw [sv_bound, Option.bind_some]
 by_cases c : bndC x.at_ v.mark v.horizon ≠ 0
 ·rw [if_pos (bne_iff_ne.2 c), if_pos c]; rfl
 ·rw [if_neg (fun e => c (bne_iff_ne.1 e)), if_neg c, mv_Scan h hz, Option.bind_some]; rfl

theorem sv_Answer (v : Eserve_View) {x : EMsg} (hx : bdEMsg x) : F_serve_Answer s v x = some ((ansA rows v x).1, (ansA rows v x).2, s) := by
 unfold F_serve_Answer ansA
 rw [mess_Check x hx.entries.1 hx.pairs.1, Option.bind_some]
 by_cases c : msgCheck x ≠ 0
 ·rw [if_pos (bne_iff_ne.2 c), if_pos c]
 rw [if_neg (fun e => c (bne_iff_ne.1 e)), if_neg c]
 by_cases c8 : x.k = 8
 ·rw [if_pos (beq_iff_eq.2 c8), if_pos c8, sv_Get h hz]; rfl
 rw [if_neg (fun e => c8 (beq_iff_eq.1 e)), if_neg c8]
 by_cases c9 : x.k = 9
 ·rw [if_pos (beq_iff_eq.2 c9), if_pos c9, sv_Scan h hz]; rfl
 rw [if_neg (fun e => c9 (beq_iff_eq.1 e)), if_neg c9]

omit h hz in
theorem bdS_get (v : Eserve_View) (x : EMsg) : bdS (getA rows v x) := by
 unfold getA getP noV rowsM
 (repeat' split) <;> refine ⟨Nat.zero_le _, Nat.zero_le _, Nat.zero_le _, fun k hk => absurd hk (Nat.not_lt_zero _), Nat.zero_le _, ?_⟩ <;> first | exact Nat.zero_le _ | (show 1 ≤ bdM; decide)

theorem bdS_scan (v : Eserve_View) (x : EMsg) : bdS (scanA rows v x) := by
 have hl := rows_cells h.r
 have hv := view_len x.key x.to_ x.at_ rows
 unfold scanA noV rowsM
 split
 ·exact ⟨Nat.zero_le _, Nat.zero_le _, Nat.zero_le _, fun k hk => absurd hk (Nat.not_lt_zero _), Nat.zero_le _, Nat.zero_le _⟩
 ·refine ⟨Nat.zero_le _, Nat.zero_le _, Nat.zero_le _, fun k hk => absurd hk (Nat.not_lt_zero _), Nat.zero_le _, ?_⟩
  show ((viewR x.key x.to_ x.at_ rows).take (min x.n 32).toNat).length ≤ bdM
  rw [List.length_take]; unfold big at hz; unfold bdM; omega

theorem bdS_ans (v : Eserve_View) (x : EMsg) : bdS (ansA rows v x).1 := by
 have hd : bdS default := ⟨Nat.zero_le _, Nat.zero_le _, Nat.zero_le _, fun j hj => absurd hj (Nat.not_lt_zero _), Nat.zero_le _, Nat.zero_le _⟩
 unfold ansA
 (repeat' split)
 ·exact hd
 ·exact bdS_get v x
 ·exact bdS_scan h hz v x
 ·exact hd

end
theorem stores_ok {l : List Elaw31_Put} (hb : bdSl bdElaw31_Put l) : ∃ s T rows, F_law31_stores l = some (s, ⟨rows, s.last⟩) ∧ mvOk s T rows ∧ cellsR rows ≤ 120 := by
 unfold F_law31_stores
 rw [mvNew, Option.bind_some]
 obtain ⟨r, hr, s, T, rows, e, h1, h2⟩ := iter_ex (body := F_law31_stores_l1 l) (fun s : Int × Emvcc_Store × Eref16_Store => 31 - s.1.toNat)
  (fun s : Int × Emvcc_Store × Eref16_Store => 0 ≤ s.1 ∧ s.1 ≤ 30 ∧ ∃ T rows, mvOk s.2.1 T rows ∧ s.2.2 = ⟨rows, s.2.1.last⟩ ∧ cellsR rows ≤ 4 * s.1.toNat)
  (fun r : Emvcc_Store × Eref16_Store => ∃ s T rows, r = (s, ⟨rows, s.last⟩) ∧ mvOk s T rows ∧ cellsR rows ≤ 120) (fun rc ⟨i, s, y⟩ ⟨a1, a2, T, rows, h, hy, hc⟩ => by
  simp only at a1 a2 h hy hc
  obtain ⟨k, rfl⟩ := Int.eq_ofNat_of_zero_le a1
  rw [Int.toNat_natCast] at hc
  subst hy
  simp only [F_law31_stores_l1, toNat_cast]
  have hz : cellsR rows + 4 < big := by unfold big; omega
  by_cases c : k < l.length ∧ k < 30
  ·rw [if_pos (by simp only [Bool.and_eq_true, decide_eq_true_eq]; omega), chk_t (by omega), chk_t (by omega)]
   have hb1 : bdElaw31_Put (l.getD k default) := hb.2 k c.1
   obtain ⟨e, s', T', e1, e5, e2, e3, e4⟩ := mv_Put h (l.getD k default).t hb1.t.1 (l.getD k default).ops hz
   rw [e1, Option.bind_some, chk_t (by omega), chk_t (by omega), ref_Put16 h _ _ hz, Option.bind_some, ← e5, chk_t (by unfold inI; omega)]
   dsimp only
   by_cases q : e = 0
   ·obtain ⟨_, u2, _⟩ := e4 q
    have hpc := put_cells (l.getD k default).t (l.getD k default).ops rows
    rw [if_pos q] at e2 e3
    rw [if_pos q]
    refine .inl ⟨_, ⟨by simp only; omega, by simp only; omega, T', _, e2, by rw [e3], by simp only; omega⟩, by simp only; omega, rfl⟩
   ·rw [if_neg q] at e2 e3
    rw [if_neg q]
    refine .inl ⟨_, ⟨by simp only; omega, by simp only; omega, T', _, e2, by rw [e3], by simp only; omega⟩, by simp only; omega, rfl⟩
  ·rw [if_neg (by simp only [Bool.and_eq_true, decide_eq_true_eq]; omega)]
   exact .inr ⟨_, rfl, s, T, rows, rfl, h, by omega⟩) FU (0, newS, default) ⟨by simp, by simp, newT, [], mvNew_ok, rfl, Nat.zero_le _⟩ (lt_FU (by unfold bdM; simp only; omega))
 subst e
 exact ⟨s, T, rows, hr, h1, h2⟩

end Go.Proofs.Ytaknkbbjimielaa
