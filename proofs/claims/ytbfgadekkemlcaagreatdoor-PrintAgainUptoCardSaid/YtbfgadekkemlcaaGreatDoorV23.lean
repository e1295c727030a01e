/- My texts for this claim, in one file: part 23. -/
import Derived.Test.YtbfgadekkemlcaaGreatDoorV22
set_option linter.unusedVariables false
set_option linter.unusedSimpArgs false
namespace Go.Kx
open Go
end Go.Kx
