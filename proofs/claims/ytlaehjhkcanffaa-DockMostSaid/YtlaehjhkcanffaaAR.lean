/- The mathematics, several parts in one text. -/
import Derived.Test.YtlaehjhkcanffaaAB
import Derived.Test.YtlaehjhkcanffaaMS
import Derived.Test.YtlaehjhkcanffaaDC
import Derived.Test.YtlaehjhkcanffaaVc
import Derived.IntWalk
/- The mathematics, part AC: what a fault does (arena.Happen and its reference). -/
set_option linter.unusedVariables false
set_option linter.unusedSimpArgs false
namespace Go.Taq
open Go

section

end
end Go.Taq

/- The mathematics, part AD: what happens, and what robots do, leaves a state right. -/
set_option linter.unusedVariables false
set_option linter.unusedSimpArgs false
namespace Go.Taq
open Go

section

end
end Go.Taq

/- The mathematics, part AE: the end of a tick; a whole tick (arena.Step and its reference). -/
set_option linter.unusedVariables false
set_option linter.unusedSimpArgs false
namespace Go.Taq
open Go

section

/-! ## lengths -/
end
end Go.Taq

/- The mathematics, part AF: right states and right sites by the program's own functions; the bounds of the statements of chapter 16. -/
set_option linter.unusedVariables false
set_option linter.unusedSimpArgs false
namespace Go.Taq
open Go

section

/-! ## a bare site is right -/
/-! ## bounds -/
end
end Go.Taq

/- The mathematics, part BB: ways home (bank.Way). -/
set_option linter.unusedVariables false
set_option linter.unusedSimpArgs false
namespace Go.Taq
open Go

end Go.Taq

/- The mathematics, part AR: slices.Repeat of one number. -/
set_option linter.unusedVariables false
set_option linter.unusedSimpArgs false
namespace Go.Taq
open Go

end Go.Taq
