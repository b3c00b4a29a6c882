/- The mathematics, several parts in one text. -/
import Derived.Test.YtdcfcldpjfepiaaGreatBL
import Derived.Test.YtdcfcldpjfepiaaGreatAR
import Derived.Test.YtdcfcldpjfepiaaGreatMZ
/- The mathematics, part BM: right homes exactly, in the program and in the reference. -/
set_option linter.unusedVariables false
set_option linter.unusedSimpArgs false
namespace Go.Taq
open Go
section
end
end Go.Taq
/- The mathematics, part BO: right sites are found right (survey.Right). -/
set_option linter.unusedVariables false
set_option linter.unusedSimpArgs false
namespace Go.Taq
open Go
section
end
end Go.Taq
/- The mathematics, part BP: BankFewer. -/
set_option linter.unusedVariables false
set_option linter.unusedSimpArgs false
namespace Go.Taq
open Go
section
variable {s:ApiSite}
/-! ## what is right stays right -/
theorem Q1T.fl {s s':ApiSite} (e:s.Floor=s'.Floor) {b:List Qk} {z:Qk} (h:Q1T s b z):Q1T s' b z:=
 ⟨h.named,h.name,h.ne,h.sp,h.keep,h.spans,fun c hc=>by rw [←e];exact h.cell c hc,h.asc⟩
end
end Go.Taq
/- The mathematics, part AH: what acts one after the other do to a robot and to a shelf; ArenaHinders. -/
set_option linter.unusedVariables false
set_option linter.unusedSimpArgs false
namespace Go.Taq
open Go
section
variable {s:ApiSite} {st:ApiState}
theorem Q84 {i:Nat} {r:ApiRobot} (hx:st.Robots[i]?=some r) (a:Int):∃b,(b=a∨b=0)∧(legS s st i a=0→b=a)∧legR s st r b=0∧doA s st i a=doR s st i r b:=by
 have hi:=(List.getElem?_eq_some_iff.1 hx).1
 have hl:=legA (s:=s) hi a
 refine⟨if legS s st i a=0 then a else 0,by split <;> simp,fun h=>if_pos h,?_,by unfold doA;exact Q7h rfl hx⟩
 generalize (if legS s st i a=0 then a else 0)=b at *
 rw [Q42 rfl hx] at hl;exact hl
theorem Q8Z {r:ApiRobot} {a:Int} (h:mvB a=true):lod st r a=r.Load:=by
 have:=XI.1 h
 unfold lod;rw [if_neg (by omega),if_neg (by omega)]
end
end Go.Taq
/- The mathematics, part AI: when two states are the same; ArenaFaults. -/
set_option linter.unusedVariables false
set_option linter.unusedSimpArgs false
namespace Go.Taq
open Go
section
end
end Go.Taq
/- The mathematics, part AK: acts that stay; ArenaStays. -/
set_option linter.unusedVariables false
set_option linter.unusedSimpArgs false
namespace Go.Taq
open Go
section
end
end Go.Taq
