/- The mathematics, several parts in one text. -/
import Derived.Test.YtdcfcldpjfepiaaGreatOF
/- The mathematics, part OG: ActAlone. -/
set_option linter.unusedVariables false
set_option linter.unusedSimpArgs false
namespace Go.Taq
open Go
section
end
end Go.Taq
/- The mathematics, part OH: ActLifts. -/
set_option linter.unusedVariables false
set_option linter.unusedSimpArgs false
namespace Go.Taq
open Go
section
end
end Go.Taq
/- The mathematics, part OI: ActRefuses. -/
set_option linter.unusedVariables false
set_option linter.unusedSimpArgs false
namespace Go.Taq
open Go
section
end
end Go.Taq
/- The mathematics, part OJ: legal actions keep states right, and shelves apart. -/
set_option linter.unusedVariables false
set_option linter.unusedSimpArgs false
namespace Go.Taq
open Go
section
variable {s:ApiSite} {st:ApiState}
theorem Q4B {st:ApiState} {j:Nat} {a:Q0} (hj:st.Robots[j]?=some a) (h0:0≤a.Load) (hu:∀(k:Nat) z,st.Robots[k]?=some z→z.Load=a.Load→k=j):carr st a.Load=j:=by
 unfold carr
 rw [if_neg (by omega)]
 rcases XP (fun z:Q0=>z.Load == a.Load) st.Robots with ⟨i,x,hi,e,hp,_⟩ | ⟨_,hb⟩
 ·rw [e,hu i x hi (by simpa using hp)]
 ·have:=hb a (List.mem_of_getElem? hj);simp at this
theorem RSt.uniq (h:RSt s st) {j k:Nat} {a z:Q0} (hj:st.Robots[j]?=some a) (hk:st.Robots[k]?=some z) (h0:0≤a.Load) (e:z.Load=a.Load):k=j:=by
 have h1:=((h.rob j a hj).own h0).1
 have h2:=((h.rob k z hk).own (by omega)).1
 rw [e,h1] at h2;omega
end
end Go.Taq
