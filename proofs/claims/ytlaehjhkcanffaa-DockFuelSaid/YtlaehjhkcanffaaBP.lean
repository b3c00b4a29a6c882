/- The mathematics, several parts in one text. -/
import Derived.Test.YtlaehjhkcanffaaBI
import Derived.Test.YtlaehjhkcanffaaAR
/- The mathematics, part BJ: the reference's Way (taquinref21.Way). -/
set_option linter.unusedVariables false
set_option linter.unusedSimpArgs false
namespace Go.Taq
open Go
theorem WayL.congr {f:ApiFloor} {a b:Int} {l l':List Int} {k:Nat} {p:List Int} (h:WayL f l a b k p) (hm:∀c,c∈l↔c∈l'):WayL f l' a b k p where
 len:=h.len
 hd:=h.hd
 lst:=h.lst
 st:=h.st
 ok:=fun x hx=>⟨(h.ok x hx).1,(h.ok x hx).2.1,fun hh=>(h.ok x hx).2.2 ((hm x).2 hh)⟩
 pb:=fun j x hx=>(PB.congr hm).1 (h.pb j x hx)
 kb:=h.kb
 ft:=fun j hj=>by
  obtain⟨x,y,d,g1,g2,g3,g4,g5,g6,g7⟩:=h.ft j hj
  exact⟨x,y,d,g1,g2,g3,g4,g5,(Dm.congr hm).1 g6,fun d' e0 e1 hc=>g7 d' e0 e1 ⟨hc.1,(Dm.congr hm).2 hc.2⟩⟩
section
end
end Go.Taq
/- The mathematics, part BK: the reference's Safe (taquinref21.Safe, alive). -/
set_option linter.unusedVariables false
set_option linter.unusedSimpArgs false
namespace Go.Taq
open Go
section
end
end Go.Taq
/- The mathematics, part BL: the reference's Check (taquinref21.Check). -/
set_option linter.unusedVariables false
set_option linter.unusedSimpArgs false
namespace Go.Taq
open Go
section
end
end Go.Taq
/- The mathematics, part BM: right homes exactly, in the program and in the reference. -/
set_option linter.unusedVariables false
set_option linter.unusedSimpArgs false
namespace Go.Taq
open Go
section
end
end Go.Taq
/- The mathematics, part BO: right sites are found right (survey.Right). -/
set_option linter.unusedVariables false
set_option linter.unusedSimpArgs false
namespace Go.Taq
open Go
section
end
end Go.Taq
/- The mathematics, part BP: BankFewer. -/
set_option linter.unusedVariables false
set_option linter.unusedSimpArgs false
namespace Go.Taq
open Go
section
variable {s:ApiSite}
/-! ## what is right stays right -/
theorem WS.fl {s s':ApiSite} (e:s.Floor=s'.Floor) {b:List ApiZone} {z:ApiZone} (h:WS s b z):WS s' b z:=
 ⟨h.named,h.name,h.ne,h.sp,h.keep,h.spans,fun c hc=>by rw [←e];exact h.cell c hc,h.asc⟩
end
end Go.Taq
