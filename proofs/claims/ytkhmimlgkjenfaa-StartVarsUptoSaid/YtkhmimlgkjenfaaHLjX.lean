/- HLj: the library's strings.Builder: addresses seen as unsafe ones, bytes as a string, over a partial heap. No condition. -/
import Derived.Test.YtkhmimlgkjenfaaHLhX
import Derived.Test.YtkhmimlgkjenfaaHLiX
import Derived.Lib.UnsafeStr
namespace Go.Proofs.Ytkhmimlgkjenfaa.HL
open Go
set_option linter.unusedVariables false
set_option linter.unusedSimpArgs false
section
variable {P : Program} {l : Ents} {H : Hp} {K : Value → Hp → Prop}

end
end Go.Proofs.Ytkhmimlgkjenfaa.HL
