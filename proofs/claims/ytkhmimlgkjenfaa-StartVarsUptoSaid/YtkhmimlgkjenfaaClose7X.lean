/- Close7: what every closing of this chapter needs. No condition. -/
import Derived.Test.YtkhmimlgkjenfaaRows
import Derived.Test.YtkhmimlgkjenfaaCloseGX
import Derived.JoinedOf
import Derived.Handed
namespace Go.Proofs.Ytkhmimlgkjenfaa.HL
open Go
set_option linter.unusedVariables false
theorem laidOut : laidOutB Try.prog = true := by kernel_rfl
theorem own0 : ownKnob Try.prog.godebug = none := by kernel_rfl
end Go.Proofs.Ytkhmimlgkjenfaa.HL
