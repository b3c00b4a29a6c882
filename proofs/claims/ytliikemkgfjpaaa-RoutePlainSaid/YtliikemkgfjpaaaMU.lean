/- The mathematics, part U: a good walk and Check; the best walk. -/
import Derived.Test.YtliikemkgfjpaaaMT
set_option linter.unusedVariables false
namespace Go.Taq
open Go
section
variable {s : ApiSite} {a b tick : Int} {taken : List ApiTaken} {avoid : List Int}
end
end Go.Taq
