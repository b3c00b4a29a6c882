/- The mathematics of layouts, part F: the reference's layouts and shifts; right layouts. -/
import Derived.Test.YtenplejkcfhplaaPE
set_option linter.unusedVariables false
set_option linter.unusedSimpArgs false
namespace Go.Taq
open Go
section
variable {n k : Nat} (h1 : 1 ≤ k) (h2 : k ≤ n) (h3 : n ≤ 12)
include h1 h2 h3
end
end Go.Taq
