/- ConfPuts, ConfReads, ConfBack: the plain laws. -/
import Derived.Test.YtnkieaolhbmfpaaYConfV
namespace Go.Proofs.Ytnkieaolhbmfpaa

theorem seqB_self (s : ByteArray) : seqB s s = true := seqB_iff.2 rfl

theorem pure_ConfPuts (a b : EConf) (m : EMember) (ha : bdEConf a) (_ : bdEConf b) (_ : bdEMember m) : F_law07_ConfPuts a b m = some true := by
  unfold F_law07_ConfPuts
  simp only [Bool.or_eq_true, decide_eq_true_eq]
  split
  · rw [awake07]; rfl
  rename_i h0
  have hla : a.members.length ≤ bdM := ha.members.1
  obtain ⟨p, h1, h2, h3, _⟩ := put_both a ha
  rw [h1, Option.bind_some, h2, Option.bind_some]
  simp only [seqB_self, beq_self_eq_true, Bool.and_self, gif_true, conf_Check, ref07_Check, Option.bind_some, conf_Same a _ hla, ref07_Same a _ hla, sameConf_self, conf_Place a m hla, ref07_Place a m hla, conf_Ahead a m hla, ref07_Ahead a m hla, conf_Behind a m hla, ref07_Behind a m hla, conf_Head, ref07_Head, conf_Tail a hla, ref07_Tail a hla, awake07]

end Go.Proofs.Ytnkieaolhbmfpaa
