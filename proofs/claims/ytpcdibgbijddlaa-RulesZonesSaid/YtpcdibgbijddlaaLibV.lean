/- The library of the generated walks, part V: append of an element of the frame's own to a row of such elements. -/
import Derived.Test.YtpcdibgbijddlaaLibU
set_option linter.unusedVariables false
namespace Go.Taq
open Go

section
variable {P : Program} {B : Base} {tb : Tab} {Γ : Env} {H : Heap} {nl : Nat} {o : Oper} {X : Act → World → Prop}

end
end Go.Taq
namespace Go.Taq
theorem lk_cases {κ α : Type} [DecidableEq κ] (xs : List (κ × α)) (k : κ) : (∃ y, lk xs k = some y) ∨ lk xs k = none := by
  cases h : lk xs k with
  | none => exact .inr rfl
  | some y => exact .inl ⟨y, rfl⟩
end Go.Taq
