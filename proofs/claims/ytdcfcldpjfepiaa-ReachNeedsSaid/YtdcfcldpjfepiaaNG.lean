/- The mathematics, several parts in one text. -/
import Derived.Test.YtdcfcldpjfepiaaNC
/- The mathematics, part ND: what is near, which shelves disturb each other, dropping (rules). -/
set_option linter.unusedVariables false
set_option linter.unusedSimpArgs false
namespace Go.Taq
open Go

section

end
end Go.Taq

/- The mathematics, part NE: dropping; the rules' statements: bounds, examples. -/
set_option linter.unusedVariables false
set_option linter.unusedSimpArgs false
namespace Go.Taq
open Go

section

end

/-! ## the examples -/
theorem ok_ml {α : Type} {X : α → Prop} {xs : List α} (h1 : xs.length ≤ 1000) (h2 : ∀ x, x ∈ xs → X x) : OkL X xs := ⟨Nat.le_trans h1 (by decide), h2⟩
theorem i64_of {x : Int} (h : -1000000 ≤ x ∧ x ≤ 1000000) : I64 x := by constructor <;> omega
end Go.Taq

/- The mathematics, part NF: the rules' statements: examples, RulesApart. -/
set_option linter.unusedVariables false
set_option linter.unusedSimpArgs false
namespace Go.Taq
open Go

end Go.Taq

/- The mathematics, part NG: being near is symmetric; zones are apart; what changes where a shelf is put. -/
set_option linter.unusedVariables false
set_option linter.unusedSimpArgs false
namespace Go.Taq
open Go

section

end
end Go.Taq
