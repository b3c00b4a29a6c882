/- The mathematics, several parts in one text. -/
import Derived.Test.YtlaehjhkcanffaaLibZR
import Derived.Test.YtlaehjhkcanffaaMS
/- The mathematics, part QA: loops whose state has a counter and more; ranges over lists; lists of places. -/
set_option linter.unusedVariables false
set_option linter.unusedSimpArgs false
namespace Go.Taq
open Go
theorem Yk {α τ:Type} {xs:List α} (hm:xs.length≤maxLen) (ix:τ→Int) (I:Nat→τ→Prop) {t0:τ} (hi0:ix t0=0) (h0:I 0 t0) {R:α→τ→(τ→Prop)→Prop} {E:τ→Prop}
  (hs:∀(i:Nat) x t,xs[i]?=some x→ix t=(i:Int)→I i t→R x t (fun t'=>ix t'=w64 ((i:Int)+1)∧I (i+1) t'))
  (he:∀t,I xs.length t→E t):
  Loop (fun t Y=>Ite (decide (ix t<(xs.length:Int))) (∃x,idx xs (ix t)=some x∧R x t Y) (E t)) t0:=by
 refine Loop.inv xs.length (fun i t=>ix t=(i:Int)∧I i t) ⟨by simpa using hi0,h0⟩ (fun i t hi h=>?_) (fun t h=>?_)
 ·have hx:xs[i]?=some (xs[i]'hi):=List.getElem?_eq_getElem hi
  refine Ite.lt (by omega) ⟨_,by rw [h.1];exact QM rfl hx,?_⟩
  have:=hs i _ t hx h.1 h.2
  rw [G9 hi hm] at this;exact this
 ·exact Ite.nlt (by omega) (he t h.2)
theorem ZP {α τ:Type} {xs:List α} (hm:xs.length≤maxLen) (ix:τ→Int) (I:Nat→τ→Prop) {t0:τ} (hi0:ix t0=0) (h0:I 0 t0) {R:τ→(τ→Prop)→Prop} {E:τ→Prop}
  (hs:∀(i:Nat) x t,xs[i]?=some x→ix t=(i:Int)→I i t→R t (fun t'=>ix t'=w64 ((i:Int)+1)∧I (i+1) t'))
  (he:∀t,I xs.length t→E t):
  Loop (fun t Y=>Ite (decide (ix t<(xs.length:Int))) (R t Y) (E t)) t0:=by
 refine Loop.inv xs.length (fun i t=>ix t=(i:Int)∧I i t) ⟨by simpa using hi0,h0⟩ (fun i t hi h=>?_) (fun t h=>?_)
 ·have hx:xs[i]?=some (xs[i]'hi):=List.getElem?_eq_getElem hi
  refine Ite.lt (by omega) ?_
  have:=hs i _ t hx h.1 h.2
  rw [G9 hi hm] at this;exact this
 ·exact Ite.nlt (by omega) (he t h.2)
theorem Each.inv {α σ:Type} {body:α→σ→(σ→Prop)→Prop} {k:σ→Prop}:∀(ys:List α) (I:Nat→σ→Prop) {s0:σ},I 0 s0→(∀(i:Nat) x s,ys[i]?=some x→I i s→∀Y:σ→Prop,(∀s',I (i+1) s'→Y s')→body x s Y)→(∀s,I ys.length s→k s)→Each body k ys s0
 | [],I,s0,h0,_,he=>he _ h0
 | y :: ys,I,s0,h0,hs,he=>hs 0 y s0 rfl h0 _ fun s' h'=>Each.inv ys (fun i=>I (i+1)) h' (fun i x s hx hI Y hY=>hs (i+1) x s (by simpa using hx) hI Y hY) (fun s h=>he s h)
theorem Q10 {τ:Type} (n:Nat) (ix:τ→Int) (I:Nat→τ→Prop) {t0:τ} (hn:n≤maxLen) (hi0:ix t0=0) (h0:I 0 t0) {R:τ→(τ→Prop)→Prop} {E:τ→Prop}
  (hs:∀(i:Nat) t,i<n→ix t=(i:Int)→I i t→R t (fun t'=>ix t'=w64 ((i:Int)+1)∧I (i+1) t'))
  (he:∀t,I n t→E t):
  Loop (fun t Y=>Ite (decide (ix t<(n:Int))) (R t Y) (E t)) t0:=by
 refine Loop.inv n (fun i t=>ix t=(i:Int)∧I i t) ⟨by simpa using hi0,h0⟩ (fun i t hi h=>?_) (fun t h=>?_)
 ·refine Ite.lt (by omega) ?_
  have:=hs i t hi h.1 h.2
  rw [G9 hi hn] at this;exact this
 ·exact Ite.nlt (by omega) (he t h.2)
theorem Kd {α:Type} {xs:List α} {i:Nat} {x:α} (h:xs[i]?=some x):xs.take (i+1)=xs.take i++[x]:=by
 rw [List.take_add_one,h];rfl
end Go.Taq
/- The mathematics, part NA: right floors and right sites, as the program sees them (floor.Right, survey.Right). -/
set_option linter.unusedVariables false
namespace Go.Taq
open Go
end Go.Taq
/- The mathematics, part NB: survey.Right. -/
set_option linter.unusedVariables false
namespace Go.Taq
open Go
section
abbrev T17 (α:Type):=Int×Int×Int×List Int×List Int×List ApiZone×List ApiApart×List ApiShelf×List ApiStart×List (Int×Int)×List (Int×Bool)×List (Int×Bool)×List (ByteArray×Int)×List (Int×Bool)×List Int×List Int×α
def lst {α:Type} (t:T17 α):α:=t.2.2.2.2.2.2.2.2.2.2.2.2.2.2.2.2
end
end Go.Taq
/- The mathematics, part NC: what may stand where (rules): cells, classes, who is carried, what stands at a cell, rooms. -/
set_option linter.unusedVariables false
set_option linter.unusedSimpArgs false
namespace Go.Taq
open Go
section
end
end Go.Taq
/- The mathematics, part ND: what is near, which shelves disturb each other, dropping (rules). -/
set_option linter.unusedVariables false
set_option linter.unusedSimpArgs false
namespace Go.Taq
open Go
section
end
end Go.Taq
/- The mathematics, part NE: dropping; the rules' statements: bounds, examples. -/
set_option linter.unusedVariables false
set_option linter.unusedSimpArgs false
namespace Go.Taq
open Go
section
end
/-! ## the examples -/
end Go.Taq
