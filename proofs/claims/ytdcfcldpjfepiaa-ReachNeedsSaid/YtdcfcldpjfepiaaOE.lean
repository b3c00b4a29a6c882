/- The mathematics, several parts in one text. -/
import Derived.Test.YtdcfcldpjfepiaaOA
/- The mathematics, part OB: the slots of a state, in both; who carries. -/
set_option linter.unusedVariables false
set_option linter.unusedSimpArgs false
namespace Go.Taq
open Go

def low (c : Int) : Int := w64 (2 * c)
def high (c : Int) : Int := w64 (w64 (2 * c) + 1)
section

end
end Go.Taq

/- The mathematics, part OC: right states (taquinref14.Right, Few); the bounds of the statements about actions. -/
set_option linter.unusedVariables false
set_option linter.unusedSimpArgs false
namespace Go.Taq
open Go

def kx (f : ApiFloor) (c : Int) : Int := if isC f c = true then kd f c else -1
section

end
end Go.Taq

/- The mathematics, part OD: which actions are legal, and what they do. -/
set_option linter.unusedVariables false
set_option linter.unusedSimpArgs false
namespace Go.Taq
open Go

section

end
end Go.Taq

/- The mathematics, part OE: what actions do, in both; equal states. -/
set_option linter.unusedVariables false
set_option linter.unusedSimpArgs false
namespace Go.Taq
open Go

section

theorem S_clone {α : Type} {xs : List α} (hl : xs.length ≤ 1099511627776) {post : List α → Prop} (hp : post xs) : ∀ hb5 : Bool, (hb5 = true → xs = []) → Ite (hb5 == true) (post []) ((([] : List α).length + xs.length ≤ 1099511627776) ∧ post (([] : List α) ++ xs)) := by
  intro b hb
  refine Ite.mk (fun h => ?_) (fun h => ⟨by simp; omega, by rw [List.nil_append]; exact hp⟩)
  rw [hb (by simpa using h)] at hp; exact hp
theorem S_clone_i {xs : List Int} (hl : xs.length ≤ 1000) {post : List Int → Prop} (hp : post xs) : V_slices_Clone_int_int xs post := by
  unfold V_slices_Clone_int_int; exact S_clone (by omega) hp
end
end Go.Taq
