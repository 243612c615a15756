/- Messages: their own parts, and whether two are the same. -/
import Derived.Test.YthmjkcdpbbcdgaaYMsP
namespace Go.Proofs.Ythmjkcdpbbcdgaa

-- their own parts
def layC (x m : EMsg) : Nat → EMsg
 | 101 => { x with epoch := m.epoch } | 115 => { x with serial := m.serial } | 114 => { x with req := m.req } | 110 => { x with n := m.n } | 109 => { x with m := m.m } | 112 => { x with p := m.p }
 | 120 => { x with e := m.e } | 97 => { x with at_ := m.at_ } | 108 => { x with last := m.last } | 102 => { x with flag := m.flag }
 | 107 => { x with key := m.key } | 116 => { x with to_ := m.to_ } | 67 => { x with conf := m.conf } | 66 => { x with batch := m.batch }
 | 69 => { x with entries := m.entries } | 83 => { x with stamps := m.stamps } | 82 => { x with pairs := m.pairs }
 | _ => x

theorem ref09_part (x m : EMsg) {c : Nat} (h : c ∈ okL) : F_ref09_part x m (c : Int) = some (layC x m c) :=
 okL_cases (P := fun c => F_ref09_part x m (c : Int) = some (layC x m c)) h rfl rfl rfl rfl rfl rfl rfl rfl rfl rfl rfl rfl rfl rfl rfl rfl rfl

def cleanM (m : EMsg) : EMsg := if 1 ≤ m.k ∧ m.k ≤ 15 then (lettersK m.k).foldl (fun x c => layC x m c) { (default : EMsg) with k := m.k } else default

theorem ref09_Clean (m : EMsg) : F_ref09_Clean m = some (cleanM m) := by
 unfold F_ref09_Clean cleanM
 by_cases hk : 1 ≤ m.k ∧ m.k ≤ 15
 ·obtain ⟨p, _, h1, h2, ⟨h4, h5, h6⟩, h7⟩ := parts_yes hk
  rw [h1, if_pos hk, Option.bind_some, if_neg (by rw [h2]; decide)]
  generalize lettersK m.k = L at *
  refine (iter_up2 L.length (fun k (s : Int × Int × Int × Int × Bool × Int × Int × Int × Int × Int × Int × ByteArray × ByteArray × Int × (List EMember) × Int × Int × Int × (List EOp) × (List EEntry) × (List Int) × (List EPair)) => some ((L.drop k).foldl (fun x c => layC x m c) (match s with | (x_k, x_epoch, x_req, x_serial, x_flag, x_at_, x_last, x_n, x_m, x_p, x_e, x_key, x_to_, x_conf_epoch, x_conf_members, x_conf_floor, x_batch_client, x_batch_req, x_batch_ops, x_entries, x_stamps, x_pairs) => ({ k := x_k, epoch := x_epoch, req := x_req, serial := x_serial, flag := x_flag, at_ := x_at_, last := x_last, n := x_n, m := x_m, p := x_p, e := x_e, key := x_key, to_ := x_to_, conf := ({ epoch := x_conf_epoch, members := x_conf_members, floor := x_conf_floor } : EConf), batch := ({ client := x_batch_client, req := x_batch_req, ops := x_batch_ops } : EBatch), entries := x_entries, stamps := x_stamps, pairs := x_pairs } : EMsg)))) (fun _ _ => True) (by unfold bdM; omega) trivial fun rc k s hk _ hrc => ?_).trans rfl
  obtain ⟨x_k, x_epoch, x_req, x_serial, x_flag, x_at_, x_last, x_n, x_m, x_p, x_e, x_key, x_to_, x_conf_epoch, x_conf_members, x_conf_floor, x_batch_client, x_batch_req, x_batch_ops, x_entries, x_stamps, x_pairs⟩ := s
  simp only [F_ref09_Clean_l1, decide_eq_true_eq, h4, toNat_cast]
  by_cases hk1 : k < L.length
  ·obtain ⟨e1, e2, e3⟩ := h6 k hk1
   have hm : L.getD k 0 ∈ okL := h7 _ (by rw [getD_lt hk1]; exact List.getElem_mem _)
   rw [if_pos (by omega), chk_t (by omega), e3, ref09_part _ _ hm, Option.bind_some, chk_t (by unfold inI; omega), hrc _ hk1 trivial, drop_cons (d := 0) hk1, List.foldl_cons]
  ·rw [if_neg (by omega), List.drop_eq_nil_of_le (by omega)]; rfl
 ·rw [(parts_no hk).2, if_neg hk, Option.bind_some, if_pos (by kernel_rfl)]

-- the same
def allEq {α : Type} (eq : α → α → Bool) : List α → List α → Bool
 | a :: l, b :: r => eq a b && allEq eq l r
 | _, _ => true

def sameL {α : Type} (eq : α → α → Bool) (a b : List α) : Bool := decide (a.length = b.length) && allEq eq a b

theorem allEq_self {α : Type} {eq : α → α → Bool} (h : ∀ a, eq a a = true) : ∀ l : List α, allEq eq l l = true
 | [] => rfl
 | a :: l => by rw [allEq, h, allEq_self h l]; rfl

theorem sameL_self {α : Type} {eq : α → α → Bool} (h : ∀ a, eq a a = true) (l : List α) : sameL eq l l = true := by rw [sameL, allEq_self h]; simp

theorem eqLoop {α : Type} [Inhabited α] (eq : α → α → Bool) (l1 l2 : List α) (hl : l1.length = l2.length) (hb : l1.length ≤ bdM) {body : (Int → Option Bool) → Int → Option Bool}
  (h : ∀ rc (k : Nat), body rc (k : Int) = if k < l1.length then (if (!eq (l1.getD k default) (l2.getD k default)) = true then some false else rc ((k : Int) + 1)) else some true) : iter body FU 0 = some (allEq eq l1 l2) := by
 refine (iter_up l1.length (fun k => some (allEq eq (l1.drop k) (l2.drop k))) hb fun rc k hk hrc => ?_).trans (by simp only [List.drop_zero])
 rw [h]
 split
 ·rename_i h1
  rw [drop_cons (d := default) h1, drop_cons (d := default) (l := l2) (by omega), allEq]
  cases he : eq (l1.getD k default) (l2.getD k default)
  ·rfl
  ·rw [if_neg (by decide), hrc h1]; rfl
 ·rw [List.drop_eq_nil_of_le (by omega), List.drop_eq_nil_of_le (by omega)]; rfl

theorem eqLen {α : Type} {eq : α → α → Bool} {a b : List α} {x : Option Bool} (h : a.length = b.length → x = some (allEq eq a b)) : (if ((a.length : Int) != (b.length : Int)) = true then some false else x) = some (sameL eq a b) := by
 unfold sameL
 by_cases e : a.length = b.length
 ·rw [if_neg (by simp [e]), h e, decide_eq_true e]; rfl
 ·rw [if_pos (by simp only [bne_iff_ne]; omega), decide_eq_false e]; rfl

theorem both_lt {x n m : Nat} (h : n = m) : ((decide ((x : Int) < (n : Int)) && decide ((x : Int) < (m : Int))) = true) = (x < n) := by
 subst h; simp

theorem ref08_SameAll (a b : List EEntry) (hb : a.length ≤ bdM) (ho : ∀ k, k < a.length → (a.getD k default).batch.ops.length ≤ bdM) : F_ref08_SameAll a b = some (sameL sameEntry a b) := by
 unfold F_ref08_SameAll
 refine eqLen fun hl => eqLoop _ _ _ hl hb fun rc k => ?_
 simp only [F_ref08_SameAll_l1, both_lt hl, toNat_cast]
 unfold bdM at hb
 by_cases hk : k < a.length
 ·rw [if_pos hk, if_pos hk, chk_t (by omega), chk_t (by omega), chk_t (by unfold inI; omega), ref08_Same _ _ (ho k hk), Option.bind_some]
 ·rw [if_neg hk, if_neg hk]

theorem ref09_sameStamps (a b : List Int) (hb : a.length ≤ bdM) : F_ref09_sameStamps a b = some (sameL (· == ·) a b) := by
 unfold F_ref09_sameStamps
 refine eqLen fun hl => eqLoop _ _ _ hl hb fun rc k => ?_
 simp only [F_ref09_sameStamps_l1, both_lt hl, toNat_cast]
 unfold bdM at hb
 by_cases hk : k < a.length
 ·rw [if_pos hk, if_pos hk, chk_t (by omega), chk_t (by omega), chk_t (by unfold inI; omega)]; rfl
 ·rw [if_neg hk, if_neg hk]

theorem ref06_SamePairs (a b : List EPair) (hb : a.length ≤ bdM) : F_ref06_SamePairs a b = some (sameL eqEPair a b) := by
 unfold F_ref06_SamePairs
 refine eqLen fun hl => eqLoop _ _ _ hl hb fun rc k => ?_
 simp only [F_ref06_SamePairs_l1, both_lt hl, toNat_cast]
 unfold bdM at hb
 by_cases hk : k < a.length
 ·rw [if_pos hk, if_pos hk, chk_t (by omega), chk_t (by omega), chk_t (by unfold inI; omega)]
 ·rw [if_neg hk, if_neg hk]

def numSame (a0 b : EMsg) : Bool := (((((((((((((a0.k == b.k) && (a0.epoch == b.epoch)) && (a0.req == b.req)) && (a0.serial == b.serial)) && (a0.flag == b.flag)) && (a0.at_ == b.at_)) && (a0.last == b.last)) && (a0.n == b.n)) && (a0.m == b.m)) && (a0.p == b.p)) && (a0.e == b.e)) && (seqB a0.key b.key)) && (seqB a0.to_ b.to_))

def sameMsg (a b : EMsg) : Bool := ((((numSame a b && sameConf a.conf b.conf) && sameBatch a.batch b.batch) && sameL sameEntry a.entries b.entries) && sameL (· == ·) a.stamps b.stamps) && sameL eqEPair a.pairs b.pairs

theorem seqB_self (s : ByteArray) : seqB s s = true := seqB_iff.2 rfl

theorem sameMsg_self (a : EMsg) : sameMsg a a = true := by
 unfold sameMsg numSame
 rw [sameConf_self, sameBatch_self, sameL_self sameEntry_self, sameL_self (fun a => by simp), sameL_self (fun a => eqEPair_iff.2 rfl), seqB_self, seqB_self]
 simp

theorem and_ifM (p x : Bool) : (p && (if p = true then x else default)) = (p && x) := by cases p <;> rfl

structure bdS (a : EMsg) : Prop where
 c : a.conf.members.length ≤ bdM
 o : a.batch.ops.length ≤ bdM
 e : a.entries.length ≤ bdM
 eo : ∀ k, k < a.entries.length → (a.entries.getD k default).batch.ops.length ≤ bdM
 s : a.stamps.length ≤ bdM
 p : a.pairs.length ≤ bdM

theorem bdEMsg.s {a : EMsg} (h : bdEMsg a) : bdS a := ⟨h.conf.members.1, h.batch.ops.1, h.entries.1, fun k hk => (h.entries.2 k hk).batch.ops.1, h.stamps.1, h.pairs.1⟩

theorem ref09_Same (a b : EMsg) (h : bdS a) : F_ref09_Same a b = some (sameMsg a b) := by
 unfold F_ref09_Same
 rw [ref07_Same _ _ h.c, gif_some, Option.bind_some, ref06_Same _ _ h.o, gif_some, Option.bind_some, ref08_SameAll _ _ h.e h.eo, gif_some, Option.bind_some, ref09_sameStamps _ _ h.s, gif_some, Option.bind_some, ref06_SamePairs _ _ h.p, gif_some, Option.bind_some]
 simp only [and_ifM]
 rfl

end Go.Proofs.Ythmjkcdpbbcdgaa
