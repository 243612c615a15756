/- WireWrites and WireBack: the plain laws, where all that comes in is small. -/
import Derived.Test.YtlgejpompnbfoaaYWireP1
namespace Go.Proofs.Ytlgejpompnbfoaa

def wtPart (p : Elaw02_Part) : Nat := p.s.size

def wtParts (l : List Elaw02_Part) : Nat := (l.map wtPart).sum

theorem wtParts_take : ∀ (l : List Elaw02_Part) (k : Nat), wtParts (l.take k) ≤ wtParts l
 | [], k => by rw [List.take_nil]; exact Nat.le_refl _
 | p :: l, 0 => Nat.zero_le _
 | p :: l, k + 1 => by
  have := wtParts_take l k
  unfold wtParts at this ⊢
  simp only [List.take_succ_cons, List.map_cons, List.sum_cons]; omega

theorem wtParts_get (l : List Elaw02_Part) (k : Nat) (hk : k < l.length) : wtParts (l.take k) + wtPart (l.getD k default) ≤ wtParts l := by
 have := wtParts_take l (k + 1)
 rw [take_snoc (d := default) hk] at this
 unfold wtParts at this ⊢
 rw [List.map_append, List.sum_append] at this
 simpa using this

-- WireWrites: both writers go side by side
theorem vput9 (n : Nat) : (vput n).size ≤ 9 := vput_le n

theorem wPut_size (d : DWriterR) (t : ByteArray) : (wPut d t).s.size ≤ d.s.size + t.size := by
 unfold wPut
 split
 ·show (d.s ++ t).size ≤ _; rw [ByteArray.size_append]; omega
 ·omega

theorem wNum_size (d : DWriterR) (z : Int) : (wNum d z).s.size ≤ d.s.size + 9 := by
 unfold wNum
 split
 ·show d.s.size ≤ _; omega
 ·have := wPut_size d (vput z.toNat); have := vput9 z.toNat; omega

theorem WireWrites_k2 (i : Int) (hi : inI (i + 1)) (rc : (Int × Ewire_Writer × ByteArray × Int) → Option Bool) (d : DWriterR) : F_law02_WireWrites_k2 i rc (ofWw d) (ofW2 d).s (ofW2 d).e = rc (i + 1, ofWw d, d.s, d.e) := by
 unfold F_law02_WireWrites_k2
 rw [chk_t hi]; rfl

theorem both_num (d : DWriterR) (z : Int) (hz : inI z) (hs : d.s.size + 9 ≤ 140737488355328) : F_wire_Writer_Num (ofWw d) z = some (ofWw (wNum d z)) ∧ F_ref02_Writer_Num ({ s := d.s, e := d.e } : Eref02_Writer) z = some (ofW2 (wNum d z)) :=
 ⟨chk_t ⟨hz, fun _ => hs⟩, chk_t ⟨hz, by unfold maxLen; show d.s.size + 9 ≤ _; omega⟩⟩

theorem both_big (d : DWriterR) (z : Int) (hz : inU z) (hs : d.s.size + 9 ≤ 140737488355328) : F_wire_Writer_Big (ofWw d) z = some (ofWw (wPut d (vput z.toNat))) ∧ F_ref02_Writer_Big ({ s := d.s, e := d.e } : Eref02_Writer) z = some (ofW2 (wPut d (vput z.toNat))) :=
 ⟨chk_t ⟨hz, fun _ => hs⟩, chk_t ⟨hz, by unfold maxLen; show d.s.size + 9 ≤ _; omega⟩⟩

theorem both_text (d : DWriterR) (t : ByteArray) (hs : d.s.size + (9 + t.size) ≤ 140737488355328) : F_wire_Writer_Text (ofWw d) t = some (ofWw (wText d t)) ∧ F_ref02_Writer_Text ({ s := d.s, e := d.e } : Eref02_Writer) t = some (ofW2 (wText d t)) :=
 ⟨chk_t ⟨by unfold maxLen; omega, fun _ => hs⟩, chk_t ⟨by unfold maxLen; omega, by unfold maxLen; show d.s.size + 9 + t.size ≤ _; omega⟩⟩

theorem both_flag (d : DWriterR) (f : Bool) (hs : d.s.size + 9 ≤ 140737488355328) : F_wire_Writer_Flag (ofWw d) f = some (ofWw (wFlag d f)) ∧ F_ref02_Writer_Flag ({ s := d.s, e := d.e } : Eref02_Writer) f = some (ofW2 (wFlag d f)) :=
 ⟨chk_t (fun _ => by show d.s.size + 1 ≤ _; omega), chk_t (by unfold maxLen; show d.s.size + 9 ≤ _; omega)⟩

theorem pure_WireWrites (l : List Elaw02_Part) (hl : bdSl bdElaw02_Part l) (hw : wtParts l ≤ 1048576) : F_law02_WireWrites l = some true := by
 unfold F_law02_WireWrites
 rw [F_wire_New, Option.bind_some]
 refine iter_up2 (σ := Ewire_Writer × ByteArray × Int) l.length (fun _ _ => some true) (fun k st => ∃ d : DWriterR, st = (ofWw d, d.s, d.e) ∧ k ≤ 40 ∧ d.s.size ≤ 9 * k + wtParts (l.take k)) hl.1 ⟨⟨ByteArray.empty, 0⟩, rfl, by omega, Nat.zero_le _⟩ fun rc k st hk hp hrc => ?_
 obtain ⟨d, rfl, hk4, hd⟩ := hp
 unfold F_law02_WireWrites_l1
 simp only [Bool.and_eq_true, decide_eq_true_eq, toNat_cast, beq_iff_eq]
 by_cases h1 : (k : Int) < (l.length : Int) ∧ (k : Int) < 40
 ·rw [if_pos h1]
  have hk' : k < l.length := by omega
  have hb := hl.2 k hk'
  have hi : inI ((k : Int) + 1) := by unfold inI; omega
  have c1 : (0 : Int) ≤ (k : Int) ∧ (k : Int) < (l.length : Int) := by omega
  have ht := wtParts_take l k
  have hg := wtParts_get l k hk'
  have hsn : wtParts (l.take (k + 1)) = wtParts (l.take k) + wtPart (l.getD k default) := by
   rw [take_snoc (d := default) hk']
   unfold wtParts
   rw [List.map_append, List.sum_append]; simp
  simp only [chk_t c1]
  have s9 : d.s.size + 9 ≤ 140737488355328 := by omega
  have st : d.s.size + (9 + (l.getD k default).s.size) ≤ 140737488355328 := by unfold wtPart at hg; omega
  by_cases q0 : (l.getD k default).k = 0
  ·obtain ⟨e1, e2⟩ := both_num d _ hb.n s9
   rw [if_pos q0, e1, Option.bind_some, e2, Option.bind_some, WireWrites_k2 _ hi]
   refine hrc _ hk' ⟨_, rfl, by omega, ?_⟩
   have := wNum_size d (l.getD k default).n; omega
  rw [if_neg q0]
  by_cases q1 : (l.getD k default).k = 1
  ·obtain ⟨e1, e2⟩ := both_big d _ hb.b s9
   rw [if_pos q1, e1, Option.bind_some, e2, Option.bind_some, WireWrites_k2 _ hi]
   refine hrc _ hk' ⟨_, rfl, by omega, ?_⟩
   have := wPut_size d (vput (l.getD k default).b.toNat); have := vput9 (l.getD k default).b.toNat; omega
  rw [if_neg q1]
  by_cases q2 : (l.getD k default).k = 2
  ·obtain ⟨e1, e2⟩ := both_text d _ st
   rw [if_pos q2, e1, Option.bind_some, e2, Option.bind_some, WireWrites_k2 _ hi]
   refine hrc _ hk' ⟨_, rfl, by omega, ?_⟩
   have h3 := wPut_size d (vput (l.getD k default).s.size ++ (l.getD k default).s); have := vput9 (l.getD k default).s.size
   rw [ByteArray.size_append] at h3
   unfold wText wtPart at *; omega
  ·obtain ⟨e1, e2⟩ := both_flag d (l.getD k default).f s9
   rw [if_neg q2, e1, Option.bind_some, e2, Option.bind_some, WireWrites_k2 _ hi]
   refine hrc _ hk' ⟨_, rfl, by omega, ?_⟩
   have := wPut_size d (vput (if (l.getD k default).f then 1 else 0)); have := vput9 (if (l.getD k default).f then 1 else 0)
   unfold wFlag; omega
 ·rw [if_neg h1]
  have e1 : F_wire_Writer_Done (ofWw d) = some (wDone d, d.e) := rfl
  have e2 : F_ref02_Writer_Done ({ s := d.s, e := d.e } : Eref02_Writer) = some (wDone d, d.e) := rfl
  rw [e1, Option.bind_some, e2, Option.bind_some, awake02]
  have e3 : seqB (wDone d) (wDone d) = true := seqB_iff.2 rfl
  simp only [e3, beq_self_eq_true, Bool.and_self, gif_true, Option.bind_some]

-- WireBack
end Go.Proofs.Ytlgejpompnbfoaa
