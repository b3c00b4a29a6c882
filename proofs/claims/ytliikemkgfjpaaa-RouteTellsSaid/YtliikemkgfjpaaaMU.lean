/- The mathematics, part U: a good walk and Check; the best walk. -/
import Derived.Test.YtliikemkgfjpaaaMT
set_option linter.unusedVariables false
namespace Go.Taq
open Go
section
variable {s : ApiSite} {a b tick : Int} {taken : List ApiTaken} {avoid : List Int}
theorem foreign_iff {v : List Int} : v.any foreignA = false ↔ ∀ x, x ∈ v → 0 ≤ x ∧ x < 7 := by
  rw [List.any_eq_false]
  constructor
  · intro h x hx; have := h x hx; simp [foreignA] at this; omega
  · intro h x hx; have := h x hx; simp [foreignA]; omega
end
end Go.Taq
