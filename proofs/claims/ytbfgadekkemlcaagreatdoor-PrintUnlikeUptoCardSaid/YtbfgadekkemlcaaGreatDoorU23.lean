/- My texts for this claim, in one file: part 23. -/
import Derived.Test.YtbfgadekkemlcaaGreatDoorU22
namespace Go.Kx
open Go
set_option linter.unusedVariables false
set_option linter.unusedSimpArgs false
end Go.Kx
