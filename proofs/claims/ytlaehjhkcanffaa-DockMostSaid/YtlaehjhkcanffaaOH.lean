/- The mathematics, several parts in one text. -/
import Derived.Test.YtlaehjhkcanffaaMS
import Derived.Test.YtlaehjhkcanffaaOC
/- The mathematics, part NW: a step in the floor's reference. -/
set_option linter.unusedVariables false
namespace Go.Taq
open Go

end Go.Taq

/- The mathematics, part OD: which actions are legal, and what they do. -/
set_option linter.unusedVariables false
set_option linter.unusedSimpArgs false
namespace Go.Taq
open Go

section

end
end Go.Taq

/- The mathematics, part OE: what actions do, in both; equal states. -/
set_option linter.unusedVariables false
set_option linter.unusedSimpArgs false
namespace Go.Taq
open Go

section

theorem S_clone {α : Type} {xs : List α} (hl : xs.length ≤ 1099511627776) {post : List α → Prop} (hp : post xs) : ∀ hb5 : Bool, (hb5 = true → xs = []) → Ite (hb5 == true) (post []) ((([] : List α).length + xs.length ≤ 1099511627776) ∧ post (([] : List α) ++ xs)) := by
  intro b hb
  refine Ite.mk (fun h => ?_) (fun h => ⟨by simp; omega, by rw [List.nil_append]; exact hp⟩)
  rw [hb (by simpa using h)] at hp; exact hp
theorem S_clone_i {xs : List Int} (hl : xs.length ≤ 1000) {post : List Int → Prop} (hp : post xs) : V_slices_Clone_int_int xs post := by
  unfold V_slices_Clone_int_int; exact S_clone (by omega) hp
end
end Go.Taq

/- The mathematics, part OF: actions keep what they need; examples; ActTells. -/
set_option linter.unusedVariables false
set_option linter.unusedSimpArgs false
namespace Go.Taq
open Go

section

end
/-! ## the example -/
theorem S_ref07_SameL {a : List Int} (hm : a.length ≤ maxLen) {post : Bool → Prop} (hp : post true) : V_taquinref07_Same a a post := S_ref07_Same' hm (fun _ => hp) rfl
end Go.Taq

/- The mathematics, part OG: ActAlone. -/
set_option linter.unusedVariables false
set_option linter.unusedSimpArgs false
namespace Go.Taq
open Go

section

end
end Go.Taq

/- The mathematics, part OH: ActLifts. -/
set_option linter.unusedVariables false
set_option linter.unusedSimpArgs false
namespace Go.Taq
open Go

section

end
end Go.Taq
