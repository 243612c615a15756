/- WireReads: the plain law. -/
import Derived.Test.YtlgejpompnbfoaaYW4
import Derived.Test.YtlgejpompnbfoaaYWP
namespace Go.Proofs.Ytlgejpompnbfoaa
structure bdElaw02_Part (x : Elaw02_Part) : Prop where
  k : inI x.k
  n : inI x.n
  b : inU x.b
  s : bdStr x.s
  f : bdT x.f

theorem awake02 : F_law02_awake = some true := by kernel_rfl

theorem rText_ok {r : DReaderR} {most : Int} (h : rdOk r) : rdOk (rText r most) := by
  have h1 := rBig_ok h
  unfold rText
  split; · exact h1
  split; · exact ⟨h1.1, h1.2.1, h1.2.2.1, (by decide : (0 : Int) ≤ 3), (by decide : (3 : Int) ≤ 21)⟩
  split; · exact ⟨h1.1, h1.2.1, h1.2.2.1, (by decide : (0 : Int) ≤ 2), (by decide : (2 : Int) ≤ 21)⟩
  obtain ⟨a, b, c, d, e⟩ := h1
  exact ⟨by show 0 ≤ (rBig r).at_ + (rBigV r : Int); omega, by show (rBig r).at_ + (rBigV r : Int) ≤ ((rBig r).s.size : Int); omega, c, d, e⟩

theorem rFlag_ok {r : DReaderR} (h : rdOk r) : rdOk (rFlag r) := by
  obtain ⟨a, b, c, d, e⟩ := h
  unfold rFlag
  split; · exact ⟨a, b, c, d, e⟩
  split; · exact ⟨a, b, c, (by decide : (0 : Int) ≤ 2), (by decide : (2 : Int) ≤ 21)⟩
  split; · exact ⟨a, b, c, (by decide : (0 : Int) ≤ 4), (by decide : (4 : Int) ≤ 21)⟩
  exact ⟨by show 0 ≤ r.at_ + 1; omega, by show r.at_ + 1 ≤ (r.s.size : Int); omega, c, d, e⟩

theorem WireReads_k2 (i : Int) (hi : inI (i + 1)) (rc : (Int × ByteArray × Int × Int × Bool × ByteArray × Int × Int) → Option Bool) (r : DReaderR) (h : rdOk r) : F_law02_WireReads_k2 i rc true r.s r.at_ r.e true r.s r.at_ r.e = rc (i + 1, r.s, r.at_, r.e, true, r.s, r.at_, r.e) := by
  unfold F_law02_WireReads_k2
  rw [show (({ s := r.s, at_ := r.at_, e := r.e, made := true } : Ewire_Reader)) = ofRw r from rfl, show (({ s := r.s, at_ := r.at_, e := r.e } : Eref02_Reader)) = ofR2 r from rfl, wR_err, wR_left h, r2_left h, wR_end h, r2_end h]
  simp only [Bool.not_true, Bool.not_false, gif_true, Option.bind_some, Bool.false_or, bne_self_eq_false, Bool.false_eq_true, if_false]
  rw [chk_t hi]

theorem pure_WireReads (s : ByteArray) (l : List Elaw02_Part) (hs : bdStr s) (hl : bdSl bdElaw02_Part l) : F_law02_WireReads s l = some true := by
  unfold F_law02_WireReads
  have hm : s.size ≤ maxLen := by unfold bdStr bdM at hs; unfold maxLen; omega
  rw [wR_open s hm, Option.bind_some]
  refine iter_up2 (σ := ByteArray × Int × Int × Bool × ByteArray × Int × Int) l.length (fun _ _ => some true) (fun _ st => ∃ r : DReaderR, rdOk r ∧ st = (r.s, r.at_, r.e, true, r.s, r.at_, r.e)) hl.1 ⟨⟨s, 0, 0⟩, start_ok s hm, rfl⟩ fun rc k st hk hp hrc => ?_
  obtain ⟨r, hr, rfl⟩ := hp
  simp only [F_law02_WireReads_l1, Bool.and_eq_true, decide_eq_true_eq, toNat_cast, beq_iff_eq]
  split
  · rename_i h1
    have hk' : k < l.length := by omega
    have hb := hl.2 k hk'
    have hn : inI (l.getD k default).n := hb.n
    have hi : inI ((k : Int) + 1) := by unfold inI; omega
    have c1 : (0 : Int) ≤ (k : Int) ∧ (k : Int) < (l.length : Int) := by omega
    rw [show (({ s := r.s, at_ := r.at_, e := r.e, made := true } : Ewire_Reader)) = ofRw r from rfl, show (({ s := r.s, at_ := r.at_, e := r.e } : Eref02_Reader)) = ofR2 r from rfl]
    simp only [chk_t c1, wR_num hr hn, r2_num hr hn, wR_big hr, r2_big hr, wR_text hr hn, r2_text hr hn, wR_flag hr, r2_flag hr, Option.bind_some, beq_self_eq_true, seqB_iff.2]
    split
    · exact (WireReads_k2 _ hi rc _ (rNum_ok hr)).trans (hrc _ hk' ⟨_, rNum_ok hr, rfl⟩)
    split
    · exact (WireReads_k2 _ hi rc _ (rBig_ok hr)).trans (hrc _ hk' ⟨_, rBig_ok hr, rfl⟩)
    split
    · exact (WireReads_k2 _ hi rc _ (rText_ok hr)).trans (hrc _ hk' ⟨_, rText_ok hr, rfl⟩)
    · exact (WireReads_k2 _ hi rc _ (rFlag_ok hr)).trans (hrc _ hk' ⟨_, rFlag_ok hr, rfl⟩)
  · rw [awake02]; rfl

end Go.Proofs.Ytlgejpompnbfoaa
