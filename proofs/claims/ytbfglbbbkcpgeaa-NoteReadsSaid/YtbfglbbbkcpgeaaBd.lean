/- What the reach of an argument bounds: how long its lists and strings are. No program is named here. -/
import Derived.Test.YtbfglbbbkcpgeaaData
namespace Go.Proofs.Ytbfglbbbkcpgeaa

def bdM : Nat := 140737488355328

def bdStr (s : ByteArray) : Prop := s.size ≤ bdM

end Go.Proofs.Ytbfglbbbkcpgeaa
