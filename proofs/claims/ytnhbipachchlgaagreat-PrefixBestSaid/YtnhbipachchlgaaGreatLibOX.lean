/- LibO: arguments opened: slices of structs or arrays, rows of integers. No condition. -/
import Derived.Test.YtnhbipachchlgaaGreatCloseGX
import Derived.ChangeArms
import Derived.OpenShut
namespace Go.Proofs.YtnhbipachchlgaaGreat.HL
open Go
set_option linter.unusedVariables false
open Go.ChangeShapes Go.WideShapes Go.ChangeAt Go.RowKit
open Go.ChangeMaps (open_string shut_string)

section
variable {H : Type} {enc : TypeId × Value → H} {P : Program} {W : World}
end
end Go.Proofs.YtnhbipachchlgaaGreat.HL
