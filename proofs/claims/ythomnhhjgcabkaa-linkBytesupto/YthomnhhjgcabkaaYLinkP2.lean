/- Links: what comes in; LinkPlays. -/
import Derived.Test.YthomnhhjgcabkaaYLinkP
namespace Go.Proofs.Ythomnhhjgcabkaa
def numsS (s : ESeg) : List Int := [s.boot, s.stream, s.seq, s.ackBoot, s.ackStream, s.ackSeq]

-- the same
-- any calls
end Go.Proofs.Ythomnhhjgcabkaa
