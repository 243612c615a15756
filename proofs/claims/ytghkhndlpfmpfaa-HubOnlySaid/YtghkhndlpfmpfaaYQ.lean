/- Regions that draw their order, whose effects stand in no one order: a stage is the set of those that are done. No program is named here. -/
import Derived.Test.YtghkhndlpfmpfaaYB
namespace Go.Proofs.Ytghkhndlpfmpfaa

-- jumps back to a label
section
variable {P : Program} {Q : Exit → Act → World → Prop} {a : Act} {w : World}
end
end Go.Proofs.Ytghkhndlpfmpfaa
