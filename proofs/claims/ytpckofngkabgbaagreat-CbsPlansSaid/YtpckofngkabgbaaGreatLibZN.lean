/- A range over a map that is nil: an iterator that yields nothing. -/
import Derived.Test.YtpckofngkabgbaaGreatLibZ
import Derived.Test.YtpckofngkabgbaaGreatLibQ
set_option linter.unusedVariables false
set_option linter.unusedSimpArgs false
namespace Go.Taq
open Go
section
variable {P:Program} {B:Base} {tb:Tab} {Γ:Env} {H:Heap} {nl:Nat} {o:Oper}
end
end Go.Taq
