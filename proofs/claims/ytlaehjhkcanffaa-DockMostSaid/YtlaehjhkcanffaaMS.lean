/- The mathematics, several parts in one text. -/
import Derived.Test.YtlaehjhkcanffaaVc
import Derived.Test.YtlaehjhkcanffaaMA
import Derived.Test.YtlaehjhkcanffaaDC
/- The mathematics, part B: right floors, and the cells beside a cell. -/
set_option linter.unusedVariables false
namespace Go.Taq
open Go

end Go.Taq

/- The mathematics, part R: right sites. -/
set_option linter.unusedVariables false
namespace Go.Taq
open Go

theorem S_ref07_Has {l : List Int} (hm : l.length ≤ maxLen) {n : Int} {post : Bool → Prop} (hp : post (l.contains n)) : V_taquinref07_Has l n post := by
  unfold V_taquinref07_Has
  exact V_any hm (p := fun x => x == n) (by rw [any_beq]; exact hp)
end Go.Taq

/- The mathematics, part Z: distances by breadth first search (floor.spread). -/
set_option linter.unusedVariables false
namespace Go.Taq
open Go
section

end
end Go.Taq

/- The mathematics, part BA: floor.Back, floor.Path. -/
set_option linter.unusedVariables false
set_option linter.unusedSimpArgs false
namespace Go.Taq
open Go

section

end
end Go.Taq

/- The mathematics, part D: zones, what is open, what is taken; a step of a walk. -/
set_option linter.unusedVariables false
namespace Go.Taq
open Go

/-! ## what is taken -/
end Go.Taq

/- The mathematics, part S: right sites, whole. -/
set_option linter.unusedVariables false
namespace Go.Taq
open Go

end Go.Taq
