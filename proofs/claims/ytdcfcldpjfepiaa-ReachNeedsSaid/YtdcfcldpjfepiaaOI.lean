/- The mathematics, several parts in one text. -/
import Derived.Test.YtdcfcldpjfepiaaOE
/- The mathematics, part OF: actions keep what they need; examples; ActTells. -/
set_option linter.unusedVariables false
set_option linter.unusedSimpArgs false
namespace Go.Taq
open Go

section

end
/-! ## the example -/
theorem S_ref07_SameL {a : List Int} (hm : a.length ≤ maxLen) {post : Bool → Prop} (hp : post true) : V_taquinref07_Same a a post := S_ref07_Same' hm (fun _ => hp) rfl
end Go.Taq

/- The mathematics, part OG: ActAlone. -/
set_option linter.unusedVariables false
set_option linter.unusedSimpArgs false
namespace Go.Taq
open Go

section

end
end Go.Taq

/- The mathematics, part OH: ActLifts. -/
set_option linter.unusedVariables false
set_option linter.unusedSimpArgs false
namespace Go.Taq
open Go

section

end
end Go.Taq

/- The mathematics, part OI: ActRefuses. -/
set_option linter.unusedVariables false
set_option linter.unusedSimpArgs false
namespace Go.Taq
open Go

section

end
end Go.Taq
