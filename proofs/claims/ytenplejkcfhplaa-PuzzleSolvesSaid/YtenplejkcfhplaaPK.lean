/- The mathematics of the puzzle, part K: the reference's table. -/
import Derived.Test.YtenplejkcfhplaaPJ
set_option linter.unusedVariables false
set_option linter.unusedSimpArgs false
namespace Go.Taq
open Go
section
variable {f : ApiFloor} {r : List Int} {n k : Nat} (h1 : 1 ≤ k) (h2 : k ≤ n) (h3 : n ≤ 12)
include h1 h2 h3
end
end Go.Taq
