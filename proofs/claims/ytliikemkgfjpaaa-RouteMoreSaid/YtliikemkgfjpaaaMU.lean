/- The mathematics, part U: a good walk and Check; the best walk. -/
import Derived.Test.YtliikemkgfjpaaaMT
set_option linter.unusedVariables false
namespace Go.Taq
open Go
section
variable {s : ApiSite} {a b tick : Int} {taken : List ApiTaken} {avoid : List Int}
theorem foreign_iff {v : List Int} : v.any foreignA = false ↔ ∀ x, x ∈ v → 0 ≤ x ∧ x < 7 := by
  rw [List.any_eq_false]
  constructor
  · intro h x hx; have := h x hx; simp [foreignA] at this; omega
  · intro h x hx; have := h x hx; simp [foreignA]; omega
theorem check_iff (hr : rightR s a b tick = true) (v : List Int) : checkF s a b tick taken avoid v = 0 ↔ GoodW s a b tick taken avoid v := by
  unfold checkF GoodW Goal
  constructor
  · intro h
    split at h
    · simp at h
    · rename_i h1
      split at h
      · rename_i h2; exact absurd h h2
      · rename_i h2
        split at h
        · simp at h
        · rename_i h3
          split at h
          · simp at h
          · rename_i h4
            simp only [not_or, Bool.not_eq_true] at h1 h3
            simp only [ne_eq, Classical.not_not] at h2 h4
            exact ⟨foreign_iff.1 h1.2, h2, h4, by rw [← h4]; exact h3⟩
  · rintro ⟨h1, h2, h3, h4⟩
    rw [if_neg (by rw [hr, foreign_iff.2 h1]; decide), if_neg (by simp [h2]), h3, if_neg (by simp [h4]), if_neg (by simp)]
end
end Go.Taq
