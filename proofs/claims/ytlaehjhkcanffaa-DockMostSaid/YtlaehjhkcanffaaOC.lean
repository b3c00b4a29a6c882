/- The mathematics, several parts in one text. -/
import Derived.Test.YtlaehjhkcanffaaNF
import Derived.Test.YtlaehjhkcanffaaMS
/- The mathematics, part NG: being near is symmetric; zones are apart; what changes where a shelf is put. -/
set_option linter.unusedVariables false
set_option linter.unusedSimpArgs false
namespace Go.Taq
open Go

section

end
end Go.Taq

/- The mathematics, part NV: zones in the reference. -/
set_option linter.unusedVariables false
namespace Go.Taq
open Go

end Go.Taq

/- The mathematics, part NJ: the reference of the rules; RulesTell. -/
set_option linter.unusedVariables false
set_option linter.unusedSimpArgs false
namespace Go.Taq
open Go
section

end
theorem S_ref07_Same' {a b : List Int} (hm : a.length ≤ maxLen) {post : Bool → Prop} (hp : a = b → post true) (hab : a = b) : V_taquinref07_Same a b post := by
  subst hab
  unfold V_taquinref07_Same
  refine Ite.f (by simp) ?_
  refine Jn.mk (fun _ => True) (V_loopc hm (fun t => t) (fun _ _ => True) rfl trivial (fun n x t hx ht _ => ⟨x, by rw [ht]; exact idx_of rfl hx, Ite.f (by simp) ⟨by rw [ht], trivial⟩⟩) (fun _ _ => trivial)) (fun _ _ => hp rfl)
end Go.Taq

/- The mathematics, part OA: batteries, and the slots of a state. -/
set_option linter.unusedVariables false
set_option linter.unusedSimpArgs false
namespace Go.Taq
open Go

end Go.Taq

/- The mathematics, part OB: the slots of a state, in both; who carries. -/
set_option linter.unusedVariables false
set_option linter.unusedSimpArgs false
namespace Go.Taq
open Go

def low (c : Int) : Int := w64 (2 * c)
def high (c : Int) : Int := w64 (w64 (2 * c) + 1)
section

end
end Go.Taq

/- The mathematics, part OC: right states (taquinref14.Right, Few); the bounds of the statements about actions. -/
set_option linter.unusedVariables false
set_option linter.unusedSimpArgs false
namespace Go.Taq
open Go

section

end
end Go.Taq
