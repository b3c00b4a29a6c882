/- The mathematics, several parts in one text. -/
import Derived.Test.YtlaehjhkcanffaaGreatOI
/- The mathematics, part OJ: legal actions keep states right, and shelves apart. -/
set_option linter.unusedVariables false
set_option linter.unusedSimpArgs false
namespace Go.Taq
open Go
section
variable {s:ApiSite} {st:ApiState}
theorem RSt.uniq (h:RSt s st) {j k:Nat} {a z:Qz} (hj:st.Robots[j]?=some a) (hk:st.Robots[k]?=some z) (h0:0≤a.Load) (e:z.Load=a.Load):k=j:=by
 have h1:=((h.rob j a hj).own h0).1
 have h2:=((h.rob k z hk).own (by omega)).1
 rw [e,h1] at h2;omega
end
end Go.Taq
/- The mathematics, part OK: what legal actions keep, one by one. -/
set_option linter.unusedVariables false
set_option linter.unusedSimpArgs false
namespace Go.Taq
open Go
section
end
end Go.Taq
/- The mathematics, part OM: right states in the program; ActKeeps. -/
set_option linter.unusedVariables false
set_option linter.unusedSimpArgs false
namespace Go.Taq
open Go
section
end
end Go.Taq
/- The mathematics, part AA: what moves, whether slots clash, whether acts may be begun (arena.Check and its reference). -/
set_option linter.unusedVariables false
set_option linter.unusedSimpArgs false
namespace Go.Taq
open Go
section
/-! ## clashes -/
/-! ## Check -/
open Classical in
end
end Go.Taq
/- The mathematics, part AB: faults: which can happen, and what they do (arena.Possible, Happen and their references). -/
set_option linter.unusedVariables false
set_option linter.unusedSimpArgs false
namespace Go.Taq
open Go
def k0 (f:ApiFloor) (c:Int):Int:=if isC f c=true then kd f c else 0
def Q3d (st:ApiState) (i:Int):Bool:=decide (0≤i)&&decide (i<st.Robots.length)&&!(st.Robots.getD i.toNat default).Dead
section
/-! ## what happens -/
end
end Go.Taq
/- The mathematics, part AC: what a fault does (arena.Happen and its reference). -/
set_option linter.unusedVariables false
set_option linter.unusedSimpArgs false
namespace Go.Taq
open Go
section
end
end Go.Taq
