/- The library of the generated walks, part Q: deleting from a map, ranging over a map. -/
import Derived.Test.YthbeknnkokooiaaLibP
set_option linter.unusedVariables false
namespace Go.Taq
open Go
open Go.ChangeMaps (setBlock)

section
variable {κ α : Type} [DecidableEq κ]
end

section
variable {P : Program} {B : Base} {tb : Tab} {Γ : Env} {H : Heap} {nl : Nat} {o : Oper} {κ α : Type} [DecidableEq κ]

end
end Go.Taq
