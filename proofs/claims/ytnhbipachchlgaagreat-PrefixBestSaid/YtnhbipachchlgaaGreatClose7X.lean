/- Close7: what every closing of this chapter needs. No condition. -/
import Derived.Test.YtnhbipachchlgaaGreatRows
import Derived.Test.YtnhbipachchlgaaGreatCloseGX
import Derived.JoinedOf
import Derived.Handed
namespace Go.Proofs.YtnhbipachchlgaaGreat.HL
open Go
set_option linter.unusedVariables false
theorem laidOut : laidOutB Tryz.prog = true := by kernel_rfl
theorem own0 : ownKnob Tryz.prog.godebug = none := by kernel_rfl
end Go.Proofs.YtnhbipachchlgaaGreat.HL
