/- Links: what both sides come to; LinkPlays, LinkZero. -/
import Derived.Test.YthomnhhjgcabkaaYLinkD
import Derived.Test.YthomnhhjgcabkaaYO
import Derived.Test.YthomnhhjgcabkaaYWP
namespace Go.Proofs.Ythomnhhjgcabkaa

structure bdESeg (x : ESeg) : Prop where
 boot : inI x.boot
 stream : inI x.stream
 seq : inI x.seq
 ackBoot : inI x.ackBoot
 ackStream : inI x.ackStream
 ackSeq : inI x.ackSeq
 has : bdT x.has
 body : bdStr x.body

theorem awake22 : F_law22_awake = some true := by kernel_rfl

-- sending
-- what goes out
-- what comes in
end Go.Proofs.Ythomnhhjgcabkaa
