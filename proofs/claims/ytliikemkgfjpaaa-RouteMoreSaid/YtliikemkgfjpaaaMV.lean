/- The mathematics, part V: the reference of the route: a step, and whether a walk is good. -/
import Derived.Test.YtliikemkgfjpaaaMU
set_option linter.unusedVariables false
namespace Go.Taq
open Go

section
variable {s : ApiSite} {a b tick : Int} {taken : List ApiTaken} {avoid : List Int}
end
end Go.Taq
