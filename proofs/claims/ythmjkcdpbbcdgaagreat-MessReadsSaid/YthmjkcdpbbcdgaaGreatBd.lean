/- What the reach of an argument bounds: how long its lists and strings are. No program is named here. -/
import Derived.Test.YthmjkcdpbbcdgaaGreatData
namespace Go.Proofs.YthmjkcdpbbcdgaaGreat

def bdM : Nat := 140737488355328

def bdStr (s : ByteArray) : Prop := s.size ≤ bdM

end Go.Proofs.YthmjkcdpbbcdgaaGreat
