/- Rows of dustcartlaw12: what stands ahead of them. -/
import Derived.Test.YtgcofabdialaaaaGreatHpM
import Derived.Test.YtgcofabdialaaaaGreatFrame
import Derived.Test.YtgcofabdialaaaaGreatRows
namespace Go.Proofs.YtgcofabdialaaaaGreat
set_option linter.unusedSimpArgs false
set_option linter.unusedVariables false
open Go.ChangeShapes Go.WideShapes Go.ChangeAt Go.RowKit Go.Deep
theorem Tryz.own : ownKnob Tryz.prog.godebug = none := by kernel_rfl
theorem Tryz.laidOut : laidOutB Tryz.prog = true := by kernel_rfl
end Go.Proofs.YtgcofabdialaaaaGreat
