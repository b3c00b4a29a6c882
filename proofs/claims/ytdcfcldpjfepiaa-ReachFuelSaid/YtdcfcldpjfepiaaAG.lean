/- The mathematics, several parts in one text. -/
import Derived.Test.YtdcfcldpjfepiaaAD
import Derived.Test.YtdcfcldpjfepiaaNB
import Derived.Test.YtdcfcldpjfepiaaVc
import Derived.IntWalk
/- The mathematics, part AE: the end of a tick; a whole tick (arena.Step and its reference). -/
set_option linter.unusedVariables false
set_option linter.unusedSimpArgs false
namespace Go.Taq
open Go

section

/-! ## lengths -/
end
end Go.Taq

/- The mathematics, part AF: right states and right sites by the program's own functions; the bounds of the statements of chapter 16. -/
set_option linter.unusedVariables false
set_option linter.unusedSimpArgs false
namespace Go.Taq
open Go

section

/-! ## a bare site is right -/
/-! ## bounds -/
end
end Go.Taq

/- The mathematics, part AR: slices.Repeat of one number. -/
set_option linter.unusedVariables false
set_option linter.unusedSimpArgs false
namespace Go.Taq
open Go

end Go.Taq

/- The mathematics, part AG: the examples of chapter 16; ArenaTells. -/
set_option linter.unusedVariables false
set_option linter.unusedSimpArgs false
namespace Go.Taq
open Go

end Go.Taq
