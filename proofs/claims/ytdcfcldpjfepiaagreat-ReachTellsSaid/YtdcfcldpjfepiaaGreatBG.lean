/- The mathematics, several parts in one text. -/
import Derived.Test.YtdcfcldpjfepiaaGreatBC
/- The mathematics, part BD: all home, Safe, Check. -/
set_option linter.unusedVariables false
set_option linter.unusedSimpArgs false
namespace Go.Taq
open Go
theorem YH:∀(n:Nat) (o:List Int),o.Nodup→(∀x,x∈o→0≤x∧x<n)→o.length≤n
 | 0,o,_,h=>by
  cases o with
  | nil=>simp
  | cons x r=>have:=h x (by simp);omega
 | n+1,o,hn,h=>by
  by_cases hm:(n:Int)∈o
  ·have h1:=YH n (o.erase n) (hn.erase _) (fun x hx=>by
    have h2:=(hn.mem_erase_iff).1 hx
    have:=h x h2.2
    have:=h2.1
    omega)
   rw [List.length_erase_of_mem hm] at h1
   omega
  ·have:=YH n o hn (fun x hx=>by
    have:=h x hx
    have:x≠n:=fun e=>hm (e▸hx)
    omega)
   omega
section
end
end Go.Taq
/- The mathematics, part BE: Way; BankGrows but for the examples. -/
set_option linter.unusedVariables false
set_option linter.unusedSimpArgs false
namespace Go.Taq
open Go
section
end
end Go.Taq
/- The mathematics, part BF: Check; the examples of chapter 21; BankGrows. -/
set_option linter.unusedVariables false
set_option linter.unusedSimpArgs false
namespace Go.Taq
open Go
section
variable {st:ApiState}
def badI (st:ApiState) (o:List Int) (i:Nat):Prop:=¬(Q6q st (o.getD i 0)=true∧o.getD i 0∉o.take i)
def Q4o (st:ApiState) (o:List Int) (i:Nat):Prop:=(o.take i).Nodup∧(∀x,x∈o.take i→Q6q st x=true)∧∀j,j<i→¬badI st o j
theorem Q4o.zero {o:List Int}:Q4o st o 0:=⟨by simp,fun x hx=>by simp at hx,fun j hj=>by omega⟩
theorem Q4o.all {o:List Int} (h:Q4o st o o.length):o.Nodup∧∀x,x∈o→Q6q st x=true:=by
 have h1:=h.1;have h2:=h.2.1
 rw [List.take_length] at h1 h2
 exact⟨h1,h2⟩
theorem Q4o.step {o:List Int} {i:Nat} (h:Q4o st o i) {x:Int} (hx:o[i]?=some x) (hb:false=(!Q6q st x||(o.take i).contains x)):Q4o st o (i+1):=by
 have hb':=hb.symm
 simp at hb'
 obtain⟨hI1,hI2,hI3⟩:=h
 refine⟨?_,?_,fun j hj=>?_⟩
 ·rw [QI hx]
  refine List.nodup_append.2 ⟨hI1,by simp,fun a ha b hb2=>?_⟩
  simp at hb2;subst hb2
  intro e;subst e
  exact hb'.2 ha
 ·rw [QI hx]
  intro y hy
  rcases List.mem_append.1 hy with h | h
  ·exact hI2 y h
  ·simp at h;subst h;exact hb'.1
 ·by_cases e:j=i
  ·subst e
   exact fun hn=>hn (by rw [show o.getD j 0=x from Q25 hx];exact hb')
  ·exact hI3 j (by omega)
end
end Go.Taq
/- The mathematics, part BG: BankFinds. -/
set_option linter.unusedVariables false
set_option linter.unusedSimpArgs false
namespace Go.Taq
open Go
section
end
end Go.Taq
