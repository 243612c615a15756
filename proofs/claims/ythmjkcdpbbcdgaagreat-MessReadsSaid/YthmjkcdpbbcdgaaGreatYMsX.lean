/- Messages read: the plain law. -/
import Derived.Test.YthmjkcdpbbcdgaaGreatYMsU
import Derived.Test.YthmjkcdpbbcdgaaGreatYMsWR
namespace Go.Proofs.YthmjkcdpbbcdgaaGreat

theorem pure_MessReads (s : ByteArray) (hs : bdStr s) : F_law09_MessReads s = some true := by
 have hm : s.size ≤ maxLen := by unfold bdStr bdM at hs; unfold maxLen; omega
 unfold F_law09_MessReads
 by_cases c : (decide ((s.size : Int) > 3000)) = true
 ·rw [if_pos c, awakeR]; rfl
 ·rw [if_neg c, mess_Of s hm, Option.bind_some, ref09_Of s hm, Option.bind_some, ref09_Same _ _ (msgOf_S s hm), Option.bind_some, sameMsg_self]
  rw [show (true && ((msgOf s).2 == (msgOf s).2)) = true by simp, gif_true, awakeR]; rfl

end Go.Proofs.YthmjkcdpbbcdgaaGreat
