/- The mathematics, several parts in one text. -/
import Derived.Test.YtpckofngkabgbaaGreatAA
import Derived.Test.YtpckofngkabgbaaGreatBA
import Derived.Test.YtpckofngkabgbaaGreatNG
import Derived.Test.YtpckofngkabgbaaGreatVc
import Derived.IntWalk
/- The mathematics, part AB: faults: which can happen, and what they do (arena.Possible, Happen and their references). -/
set_option linter.unusedVariables false
set_option linter.unusedSimpArgs false
namespace Go.Taq
open Go
def k0 (f:ApiFloor) (c:Int):Int:=if isC f c=true then kd f c else 0
section
/-! ## what happens -/
end
end Go.Taq
/- The mathematics, part AC: what a fault does (arena.Happen and its reference). -/
set_option linter.unusedVariables false
set_option linter.unusedSimpArgs false
namespace Go.Taq
open Go
section
end
end Go.Taq
/- The mathematics, part AD: what happens, and what robots do, leaves a state right. -/
set_option linter.unusedVariables false
set_option linter.unusedSimpArgs false
namespace Go.Taq
open Go
section
end
end Go.Taq
/- The mathematics, part AE: the end of a tick; a whole tick (arena.Step and its reference). -/
set_option linter.unusedVariables false
set_option linter.unusedSimpArgs false
namespace Go.Taq
open Go
section
/-! ## lengths -/
end
end Go.Taq
/- The mathematics, part AF: right states and right sites by the program's own functions; the bounds of the statements of chapter 16. -/
set_option linter.unusedVariables false
set_option linter.unusedSimpArgs false
namespace Go.Taq
open Go
section
/-! ## a bare site is right -/
/-! ## bounds -/
end
end Go.Taq
/- The mathematics, part BB: ways home (bank.Way). -/
set_option linter.unusedVariables false
set_option linter.unusedSimpArgs false
namespace Go.Taq
open Go
end Go.Taq
/- The mathematics, part AR: slices.Repeat of one number. -/
set_option linter.unusedVariables false
set_option linter.unusedSimpArgs false
namespace Go.Taq
open Go
theorem wu64 {x:Int} (h0:0≤x) (h1:x<18446744073709551616):IntKind.wrap .u64 x=x:=by
 show x % 18446744073709551616=x;omega
end Go.Taq
/- The mathematics, part AG: the examples of chapter 16; ArenaTells. -/
set_option linter.unusedVariables false
set_option linter.unusedSimpArgs false
namespace Go.Taq
open Go
end Go.Taq
