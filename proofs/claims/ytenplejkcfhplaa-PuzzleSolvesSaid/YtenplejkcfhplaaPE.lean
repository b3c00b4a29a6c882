/- The mathematics of layouts, part E: the reference's ranks. -/
import Derived.Test.YtenplejkcfhplaaPD
set_option linter.unusedVariables false
set_option linter.unusedSimpArgs false
namespace Go.Taq
open Go
section
variable {n k : Nat} (h1 : 1 ≤ k) (h2 : k ≤ n) (h3 : n ≤ 12)
include h1 h2 h3
end
end Go.Taq
