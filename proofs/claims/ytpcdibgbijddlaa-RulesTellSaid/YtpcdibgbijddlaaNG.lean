/- The mathematics, part NG: being near is symmetric; zones are apart; what changes where a shelf is put. -/
import Derived.Test.YtpcdibgbijddlaaNF
set_option linter.unusedVariables false
set_option linter.unusedSimpArgs false
namespace Go.Taq
open Go

section
variable {s : ApiSite} {st : ApiState} {shelf c : Int}
end
theorem mem_getD {l : List Int} {i : Nat} (h : i < l.length) : l.getD i 0 ∈ l := by rw [List.getD_eq_getElem?_getD, List.getElem?_eq_getElem h]; exact List.getElem_mem h

end Go.Taq
