/- The mathematics, several parts in one text. -/
import Derived.Test.YtbekicmmgohfbaaGreatNF
import Derived.Test.YtbekicmmgohfbaaGreatMT
/- The mathematics, part NG: being near is symmetric; zones are apart; what changes where a shelf is put. -/
set_option linter.unusedVariables false
set_option linter.unusedSimpArgs false
namespace Go.Taq
open Go

theorem p_cellF {f : ApiFloor} (hf : RF f) {x y z : Int} (h : 0 ≤ x ∧ x < f.W ∧ 0 ≤ y ∧ y < f.H ∧ 0 ≤ z ∧ z < f.D) : pX f (cellF f x y z) = x ∧ pY f (cellF f x y z) = y ∧ pZ f (cellF f x y z) = z := by
  have e : cellF f x y z = (z * f.H + y) * f.W + x := by unfold cellF; rw [if_pos h]
  have w := hf.W1; have hh := hf.H1
  have d1 : ((z * f.H + y) * f.W + x) / f.W = z * f.H + y := by
    rw [Int.add_comm, Int.add_mul_ediv_right _ _ (by omega), Int.ediv_eq_zero_of_lt h.1 h.2.1]; omega
  have d2 : (z * f.H + y) / f.H = z := by
    rw [Int.add_comm, Int.add_mul_ediv_right _ _ (by omega), Int.ediv_eq_zero_of_lt h.2.2.1 h.2.2.2.1]; omega
  unfold pX pY pZ
  rw [e, d1, d2]
  refine ⟨?_, ?_, rfl⟩
  · rw [Int.add_comm, Int.add_mul_emod_self_right, Int.emod_eq_of_lt h.1 h.2.1]
  · rw [Int.add_comm, Int.add_mul_emod_self_right, Int.emod_eq_of_lt h.2.2.1 h.2.2.2.1]
section

end
end Go.Taq

/- The mathematics, part NV: zones in the reference. -/
set_option linter.unusedVariables false
namespace Go.Taq
open Go

end Go.Taq

/- The mathematics, part NJ: the reference of the rules; RulesTell. -/
set_option linter.unusedVariables false
set_option linter.unusedSimpArgs false
namespace Go.Taq
open Go
section

end
end Go.Taq

/- The mathematics, part NW: a step in the floor's reference. -/
set_option linter.unusedVariables false
namespace Go.Taq
open Go

end Go.Taq
