/- The mathematics, part EK: BatchInTime (chapter 43). -/
import Derived.Test.YtghoacejnmgldaaEJ
set_option linter.unusedVariables false
set_option linter.unusedSimpArgs false
set_option maxRecDepth 100000
set_option maxHeartbeats 1000000
namespace Go.Taq
open Go

section

end
end Go.Taq
