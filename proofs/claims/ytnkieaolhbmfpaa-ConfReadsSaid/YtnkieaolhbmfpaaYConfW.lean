/- ConfPuts, ConfReads, ConfBack: the plain laws. -/
import Derived.Test.YtnkieaolhbmfpaaYConfV
namespace Go.Proofs.Ytnkieaolhbmfpaa

theorem maxLen_of {s : ByteArray} (h : bdStr s) : s.size ≤ maxLen := by unfold bdStr bdM at h; unfold maxLen; omega

theorem confOf_len (s : ByteArray) (hs : s.size ≤ maxLen) : (confOf s).1.members.length ≤ bdM := by
  by_cases h : (confOf s).2 = 0
  · have := (confCheck_ok (confOf_back s hs h).1).2.2.2.1; unfold bdM; omega
  · rw [confOf_err s h]; exact Nat.zero_le _

theorem pure_ConfReads (s : ByteArray) (hs : bdStr s) : F_law07_ConfReads s = some true := by
  unfold F_law07_ConfReads
  simp only [decide_eq_true_eq]
  split
  · rw [awake07]; rfl
  have hm := maxLen_of hs
  rw [conf_Of s hm, ref07_Of s hm, Option.bind_some, Option.bind_some, ref07_Same _ _ (confOf_len s hm), Option.bind_some]
  simp only [sameConf_self, beq_self_eq_true, Bool.and_self, gif_true, awake07, Option.bind_some]

end Go.Proofs.Ytnkieaolhbmfpaa
