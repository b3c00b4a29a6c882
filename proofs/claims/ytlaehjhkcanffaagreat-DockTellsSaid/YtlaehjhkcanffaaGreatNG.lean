/- The mathematics, several parts in one text. -/
import Derived.Test.YtlaehjhkcanffaaGreatNA
/- The mathematics, part NB: survey.Right. -/
set_option linter.unusedVariables false
namespace Go.Taq
open Go
section
abbrev T17 (α:Type):=Int×Int×Int×List Int×List Int×List ApiZone×List ApiApart×List ApiShelf×List ApiStart×List (Int×Int)×List (Int×Bool)×List (Int×Bool)×List (ByteArray×Int)×List (Int×Bool)×List Int×List Int×α
def lst {α:Type} (t:T17 α):α:=t.2.2.2.2.2.2.2.2.2.2.2.2.2.2.2.2
end
end Go.Taq
/- The mathematics, part NC: what may stand where (rules): cells, classes, who is carried, what stands at a cell, rooms. -/
set_option linter.unusedVariables false
set_option linter.unusedSimpArgs false
namespace Go.Taq
open Go
def carr (st:ApiState) (i:Int):Int:=if i<0 then -1 else fidx (fun r:Qz=>r.Load == i) st.Robots
def carB (st:ApiState) (i:Int):Bool:=decide (0≤carr st i)
theorem Q3s {st:ApiState} {i:Int} (h:0≤i):carB st i=st.Robots.any fun r=>r.Load == i:=by
 unfold carB carr
 rw [if_neg (by omega)]
 have:=Zm (p:=fun r:Qz=>r.Load == i) (xs:=st.Robots)
 rw [←this]
section
end
end Go.Taq
/- The mathematics, part ND: what is near, which shelves disturb each other, dropping (rules). -/
set_option linter.unusedVariables false
set_option linter.unusedSimpArgs false
namespace Go.Taq
open Go
section
end
end Go.Taq
/- The mathematics, part NE: dropping; the rules' statements: bounds, examples. -/
set_option linter.unusedVariables false
set_option linter.unusedSimpArgs false
namespace Go.Taq
open Go
section
end
structure FitS (s:ApiSite) (st:ApiState):Prop where
 r:Y6 s
 few:FewS s 60 20
 rob:st.Robots.length≤20
 len:st.Shelves.length=s.Shelves.length
 cell:∀c,c∈st.Shelves→isC s.Floor c=true
theorem FitS.sl {s:ApiSite} {st:ApiState} (h:FitS s st):st.Shelves.length≤20:=by have:=h.few.shelves;have:=h.len;omega
/-! ## the examples -/
end Go.Taq
/- The mathematics, part NF: the rules' statements: examples, RulesApart. -/
set_option linter.unusedVariables false
set_option linter.unusedSimpArgs false
namespace Go.Taq
open Go
end Go.Taq
/- The mathematics, part NG: being near is symmetric; zones are apart; what changes where a shelf is put. -/
set_option linter.unusedVariables false
set_option linter.unusedSimpArgs false
namespace Go.Taq
open Go
theorem Q3J {f:ApiFloor} (hf:RF f) {x y z:Int} (h:0≤x∧x<f.W∧0≤y∧y<f.H∧0≤z∧z<f.D):pX f (Xr f x y z)=x∧pY f (Xr f x y z)=y∧pZ f (Xr f x y z)=z:=by
 have e:Xr f x y z=(z*f.H+y)*f.W+x:=by unfold Xr;rw [if_pos h]
 have w:=hf.W1;have hh:=hf.H1
 have d1:((z*f.H+y)*f.W+x) / f.W=z*f.H+y:=by
  rw [Int.add_comm,Int.add_mul_ediv_right _ _ (by omega),Int.ediv_eq_zero_of_lt h.1 h.2.1];omega
 have d2:(z*f.H+y) / f.H=z:=by
  rw [Int.add_comm,Int.add_mul_ediv_right _ _ (by omega),Int.ediv_eq_zero_of_lt h.2.2.1 h.2.2.2.1];omega
 unfold pX pY pZ
 rw [e,d1,d2]
 refine⟨?_,?_,rfl⟩
 ·rw [Int.add_comm,Int.add_mul_emod_self_right,Int.emod_eq_of_lt h.1 h.2.1]
 ·rw [Int.add_comm,Int.add_mul_emod_self_right,Int.emod_eq_of_lt h.2.2.1 h.2.2.2.1]
section
end
end Go.Taq
