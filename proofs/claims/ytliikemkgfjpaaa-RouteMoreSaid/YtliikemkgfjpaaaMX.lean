/- The mathematics, part X: the reference of the route finds the least of the fastest walks, too. -/
import Derived.Test.YtliikemkgfjpaaaMW
set_option linter.unusedVariables false
namespace Go.Taq
open Go
section
variable {s : ApiSite} {a b tick : Int} {taken : List ApiTaken} {avoid : List Int}
end
end Go.Taq
