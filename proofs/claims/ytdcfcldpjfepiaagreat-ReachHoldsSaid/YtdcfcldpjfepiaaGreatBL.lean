/- The mathematics, several parts in one text. -/
import Derived.Test.YtdcfcldpjfepiaaGreatGO
import Derived.Test.YtdcfcldpjfepiaaGreatGI
import Derived.Test.YtdcfcldpjfepiaaGreatOG
/- The mathematics, part GP: a move never costs more than its price; short walks where the floor is fast (chapter 33). -/
set_option linter.unusedVariables false
set_option linter.unusedSimpArgs false
namespace Go.Taq
open Go
theorem Q6Z (a:Int) (l:Bool):0≤bas a l∧bas a l≤bas a true:=by
 unfold bas
 cases l <;> simp <;> split <;> (try split) <;> (try split) <;> (try split) <;> (try split) <;> omega
theorem Q09 (t a:Int) (l:Bool):0≤cst t a l∧cst t a l≤cst 20000 a true:=by
 have h1:=Q6Z a l
 have h2:=Q4y t
 have h3:agT 20000=20:=by decide
 unfold cst
 rw [h3]
 have h4:bas a l*(10+agT t)≤bas a true*(10+20):=Int.mul_le_mul h1.2 (by omega) (by omega) (by omega)
 have h5:0≤bas a l*(10+agT t):=Int.mul_nonneg h1.1 (by omega)
 omega
theorem Q74 (t:Int) (l:Bool):0≤cst t 0 l∧cst t 0 l≤3:=by
 have:=Q09 t 0 l
 have e:cst 20000 0 true=3:=by decide
 omega
end Go.Taq
/- The mathematics, part BH: the reference's search over floors (taquinref07.spread, Path). -/
set_option linter.unusedVariables false
set_option linter.unusedSimpArgs false
namespace Go.Taq
open Go
end Go.Taq
/- The mathematics, part BI: the reference's Path and Way (taquinref07.Path, taquinref21.Way). -/
set_option linter.unusedVariables false
set_option linter.unusedSimpArgs false
namespace Go.Taq
open Go
section
end
end Go.Taq
/- The mathematics, part BJ: the reference's Way (taquinref21.Way). -/
set_option linter.unusedVariables false
set_option linter.unusedSimpArgs false
namespace Go.Taq
open Go
theorem WayL.congr {f:ApiFloor} {a b:Int} {l l':List Int} {k:Nat} {p:List Int} (h:WayL f l a b k p) (hm:∀c,c∈l↔c∈l'):WayL f l' a b k p where
 len:=h.len
 hd:=h.hd
 lst:=h.lst
 st:=h.st
 ok:=fun x hx=>⟨(h.ok x hx).1,(h.ok x hx).2.1,fun hh=>(h.ok x hx).2.2 ((hm x).2 hh)⟩
 pb:=fun j x hx=>(PB.congr hm).1 (h.pb j x hx)
 kb:=h.kb
 ft:=fun j hj=>by
  obtain⟨x,y,d,g1,g2,g3,g4,g5,g6,g7⟩:=h.ft j hj
  exact⟨x,y,d,g1,g2,g3,g4,g5,(Dm.congr hm).1 g6,fun d' e0 e1 hc=>g7 d' e0 e1 ⟨hc.1,(Dm.congr hm).2 hc.2⟩⟩
section
end
end Go.Taq
/- The mathematics, part BK: the reference's Safe (taquinref21.Safe, alive). -/
set_option linter.unusedVariables false
set_option linter.unusedSimpArgs false
namespace Go.Taq
open Go
section
end
end Go.Taq
/- The mathematics, part BL: the reference's Check (taquinref21.Check). -/
set_option linter.unusedVariables false
set_option linter.unusedSimpArgs false
namespace Go.Taq
open Go
section
end
end Go.Taq
