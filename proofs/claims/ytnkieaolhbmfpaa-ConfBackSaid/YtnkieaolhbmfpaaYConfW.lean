/- ConfPuts, ConfReads, ConfBack: the plain laws. -/
import Derived.Test.YtnkieaolhbmfpaaYConfV
namespace Go.Proofs.Ytnkieaolhbmfpaa

theorem seqB_self (s : ByteArray) : seqB s s = true := seqB_iff.2 rfl

theorem maxLen_of {s : ByteArray} (h : bdStr s) : s.size ≤ maxLen := by unfold bdStr bdM at h; unfold maxLen; omega

theorem confOf_bd (s : ByteArray) (hs : s.size ≤ maxLen) (h : (confOf s).2 = 0) : bdEConf (confOf s).1 := by
  obtain ⟨h1, _, h3⟩ := confOf_back s hs h
  obtain ⟨c1, c2, c3, c4, cm, _⟩ := confCheck_ok h1
  refine ⟨by unfold inI; omega, ⟨by unfold bdM; omega, fun k hk => ?_⟩, h3⟩
  have := cm ((confOf s).1.members.getD k default) (by rw [getD_lt hk]; exact List.getElem_mem hk)
  exact ⟨by unfold inI; omega, by unfold inI; omega⟩

theorem pure_ConfBack_k1 (s : ByteArray) (hs : s.size ≤ maxLen) : F_law07_ConfBack_k1 s = some true := by
  unfold F_law07_ConfBack_k1
  rw [conf_Of s hs, Option.bind_some]
  by_cases h : (confOf s).2 = 0
  · rw [if_neg (by rw [h]; decide)]
    obtain ⟨h1, h2, h3⟩ := confOf_back s hs h
    obtain ⟨t, h4, h5⟩ := conf_Put _ (confOf_bd s hs h) h1
    have : t = s := bL_inj (h4.trans h2.symm)
    rw [h5, Option.bind_some, this]
    simp only [seqB_self, beq_self_eq_true, Bool.and_self, gif_true, awake07, Option.bind_some]
  · rw [if_pos (bne_iff_ne.2 h), confOf_err s h, ref07_Same _ _ (Nat.zero_le _), Option.bind_some, sameConf_self, gif_true, awake07]; rfl

theorem pure_ConfBack (a : EConf) (s : ByteArray) (ha : bdEConf a) (hs : bdStr s) : F_law07_ConfBack a s = some true := by
  unfold F_law07_ConfBack
  simp only [Bool.or_eq_true, decide_eq_true_eq]
  split
  · rw [awake07]; rfl
  obtain ⟨p, h1, _, h3, h4⟩ := put_both a ha
  rw [h1, Option.bind_some]
  simp only [beq_iff_eq]
  split
  · rename_i h0
    rw [h3] at h0
    have hb := h4 h0
    have hsz : p.1.size ≤ maxLen := by
      have := confB_len (confCheck_ok h0).2.2.2.1
      rw [← hb, bL_len] at this; unfold maxLen; omega
    rw [conf_Of _ hsz, Option.bind_some, confOf_there a p.1 h0 ha.floor hb]
    simp only [bne_self_eq_false, Bool.not_false, gif_true, ref07_Same a _ ha.members.1, Option.bind_some, sameConf_self, Bool.not_true, Bool.or_self, Bool.false_eq_true, if_false]
    exact pure_ConfBack_k1 s (maxLen_of hs)
  · exact pure_ConfBack_k1 s (maxLen_of hs)

end Go.Proofs.Ytnkieaolhbmfpaa
