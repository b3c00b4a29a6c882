/- The mathematics, several parts in one text. -/
import Derived.Test.YtlaehjhkcanffaaGreatBK
import Derived.Test.YtlaehjhkcanffaaGreatGA
/- The mathematics, part BL: the reference's Check (taquinref21.Check). -/
set_option linter.unusedVariables false
set_option linter.unusedSimpArgs false
namespace Go.Taq
open Go
section
end
end Go.Taq
/- The mathematics, part BM: right homes exactly, in the program and in the reference. -/
set_option linter.unusedVariables false
set_option linter.unusedSimpArgs false
namespace Go.Taq
open Go
section
end
end Go.Taq
/- The mathematics, part BO: right sites are found right (survey.Right). -/
set_option linter.unusedVariables false
set_option linter.unusedSimpArgs false
namespace Go.Taq
open Go
section
end
end Go.Taq
/- The mathematics, part BP: BankFewer. -/
set_option linter.unusedVariables false
set_option linter.unusedSimpArgs false
namespace Go.Taq
open Go
section
variable {s:ApiSite}
/-! ## what is right stays right -/
theorem Zf.fl {s s':ApiSite} (e:s.Floor=s'.Floor) {b:List ApiZone} {z:ApiZone} (h:Zf s b z):Zf s' b z:=
 ⟨h.named,h.name,h.ne,h.sp,h.keep,h.spans,fun c hc=>by rw [←e];exact h.cell c hc,h.asc⟩
end
end Go.Taq
/- The mathematics, part AH: what acts one after the other do to a robot and to a shelf; ArenaHinders. -/
set_option linter.unusedVariables false
set_option linter.unusedSimpArgs false
namespace Go.Taq
open Go
section
end
end Go.Taq
/- The mathematics, part AI: when two states are the same; ArenaFaults. -/
set_option linter.unusedVariables false
set_option linter.unusedSimpArgs false
namespace Go.Taq
open Go
section
end
end Go.Taq
