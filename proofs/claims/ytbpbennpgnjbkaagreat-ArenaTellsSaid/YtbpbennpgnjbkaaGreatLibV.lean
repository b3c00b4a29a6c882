/- The library of the generated walks, part V: append of an element of the frame's own to a row of such elements. -/
import Derived.Test.YtbpbennpgnjbkaaGreatLibU
set_option linter.unusedVariables false
namespace Go.Taq
open Go
section
variable {P:Program} {B:Base} {tb:Tab} {Γ:Env} {H:Heap} {nl:Nat} {o:Oper} {X:Act→World→Prop}
end
end Go.Taq
namespace Go.Taq
end Go.Taq
