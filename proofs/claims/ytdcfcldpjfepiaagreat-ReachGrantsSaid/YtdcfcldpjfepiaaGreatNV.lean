/- The mathematics, several parts in one text. -/
import Derived.Test.YtdcfcldpjfepiaaGreatND
import Derived.Test.YtdcfcldpjfepiaaGreatQA
/- The mathematics, part NE: dropping; the rules' statements: bounds, examples. -/
set_option linter.unusedVariables false
set_option linter.unusedSimpArgs false
namespace Go.Taq
open Go
def dHit (st:ApiState) (shelf c:Int) (i:Nat):Bool:=!((i:Int) == shelf)&&!carB st i&&(st.Shelves.getD i 0 == c)
def dAp (s:ApiSite) (st:ApiState) (shelf c:Int) (i:Nat):Bool:=!((i:Int) == shelf)&&!carB st i&&Q2X s.Floor (st.Shelves.getD i 0) c&&nev s (clsS s shelf) (clsS s i)
def Q3k (s:ApiSite) (st:ApiState) (shelf c:Int):Int:=
 if shelf<0∨shelf≥st.Shelves.length then 4 else if stB s c=false then 13 else if (List.range st.Shelves.length).any (dHit st shelf c)=true then 13 else if (List.range st.Shelves.length).any (dAp s st shelf c)=true then 17 else 0
theorem Yp (p:Nat→Bool) (n:Nat):(List.range (n+1)).any p=((List.range n).any p||p n):=by rw [List.range_succ,List.any_append];simp
theorem Q0T {p:Nat→Bool} {n i:Nat} (hi:i<n) (hp:p i=true):(List.range n).any p=true:=List.any_eq_true.2 ⟨i,by simpa using hi,hp⟩
section
variable {s:ApiSite} {st:ApiState}
theorem Q4A {l:List Int} {n:Nat} {x:Int} (h:l[n]?=some x):l.getD n 0=x:=by rw [List.getD_eq_getElem?_getD,h];rfl
theorem Q1j (ks:OkApiSite s) (k:OkApiState st) (hf:RF s.Floor) (hl:st.Shelves.length≤1000000) {shelf c:Int} {post:Int→Prop} (hp:post (Q3k s st shelf c)):XW s st shelf c post:=by
 unfold XW
 refine Jor2 (Ite.mk (fun h=>?_) (fun h=>Q0h (Ite.mk (fun h2=>?_) (fun h2=>?_))))
 ·unfold Q3k at hp;rw [if_pos (by simp at h;omega)] at hp;exact hp
 ·unfold Q3k at hp;rw [if_neg (by simp at h;omega),if_pos (by simpa using h2)] at hp;exact hp
 ·unfold Q3k at hp;rw [if_neg (by simp at h;omega),if_neg (by simp at h2;simp [h2])] at hp
  refine Jn.mk (fun e=>(List.range st.Shelves.length).any (dHit st shelf c)=false∧e=if (List.range st.Shelves.length).any (dAp s st shelf c)=true then 17 else 0)
   (Z8 (xs:=st.Shelves) k.Shelves.1 (fun t:Int×Int=>t.2) (fun n (t:Int×Int)=>(List.range n).any (dHit st shelf c)=false∧t.1=if (List.range n).any (dAp s st shelf c)=true then 17 else 0) rfl ⟨rfl,rfl⟩ (fun n x t hx ht hI=>?_) (fun t h=>h)) (fun e he=>by rw [he.1] at hp;rw [he.2];exact hp)
  have hn:=(List.getElem?_eq_some_iff.1 hx).1
  have hxg:=Q4A hx
  rw [ht]
  refine Jn.mk (fun e=>(List.range (n+1)).any (dHit st shelf c)=false∧e=if (List.range (n+1)).any (dAp s st shelf c)=true then 17 else 0) ⟨x,QG rfl hx,?_⟩ (fun e he=>⟨rfl,he⟩)
  rw [Yp,Yp,hI.1,hI.2]
  refine Jn.mk (fun b=>(b=true→dHit st shelf c n=false∧dAp s st shelf c n=false)∧(b=false→((n:Int) == shelf)=false∧carB st n=false∧(x≠c→Q2X s.Floor x c=true))) ?_ (fun b hb=>Ite.mk (fun h3=>?_) (fun h3=>?_))
  ·refine Ite.mk (fun h3=>⟨fun _=>⟨by unfold dHit;rw [h3];rfl,by unfold dAp;rw [h3];rfl⟩,fun h=>by cases h⟩) (fun h3=>Ite.mk (fun h4=>Q1y hf (Ite.mk (fun h5=>WC k ⟨fun h6=>?_,fun h6=>?_⟩) (fun h5=>⟨fun _=>⟨?_,?_⟩,fun h=>by cases h⟩))) (fun h4=>WC k ⟨fun h6=>?_,fun h6=>?_⟩))
   ·have:carB st n=true:=by unfold carB;simpa using h6
    exact⟨by unfold dHit;rw [this];simp,by unfold dAp;rw [this];simp⟩
   ·have:carB st n=false:=by unfold carB;simpa using h6
    exact⟨h3,this,fun _=>h5⟩
   ·unfold dHit;rw [hxg];simp at h4;simp [h4]
   ·unfold dAp;rw [hxg,h5];simp
   ·have:carB st n=true:=by unfold carB;simpa using h6
    exact⟨by unfold dHit;rw [this];simp,by unfold dAp;rw [this];simp⟩
   ·have:carB st n=false:=by unfold carB;simpa using h6
    exact⟨h3,this,fun h=>absurd (by simpa using h4) h⟩
  ·rw [(hb.1 h3).1,(hb.1 h3).2];exact⟨by simp,by simp⟩
  ·obtain⟨g1,g2,g3⟩:=hb.2 h3
   refine Ite.mk (fun h4=>?_) (fun h4=>YR (YR (Q1a ks ?_)))
   ·have:dHit st shelf c n=true:=by unfold dHit;rw [g1,g2,hxg,h4];rfl
    rw [Q0T hn this] at hp;exact hp
   ·have e1:dHit st shelf c n=false:=by unfold dHit;rw [hxg,h4];simp
    have e2:dAp s st shelf c n=nev s (clsS s shelf) (clsS s n):=by unfold dAp;rw [g1,g2,hxg,g3 (by simpa using h4)];rfl
    rw [e1,e2]
    refine Jn.mk (fun e=>e=if ((List.range n).any (dAp s st shelf c)||nev s (clsS s shelf) (clsS s n))=true then 17 else 0) (Ite.mk (fun h5=>by rw [h5];simp) (fun h5=>by rw [h5];simp)) (fun e he=>⟨by simp,he⟩)
end
structure FitS (s:ApiSite) (st:ApiState):Prop where
 r:ZO s
 few:FewS s 60 20
 rob:st.Robots.length≤20
 len:st.Shelves.length=s.Shelves.length
 cell:∀c,c∈st.Shelves→isC s.Floor c=true
theorem FitS.sl {s:ApiSite} {st:ApiState} (h:FitS s st):st.Shelves.length≤20:=by have:=h.few.shelves;have:=h.len;omega
/-! ## the examples -/
theorem Q2R {α:Type} {X:α→Prop} {xs:List α} (h1:xs.length≤1000) (h2:∀x,x∈xs→X x):OkL X xs:=⟨Nat.le_trans h1 (by decide),h2⟩
theorem YL {x:Int} (h:-1000000≤x∧x≤1000000):I64 x:=by constructor <;> omega
end Go.Taq
/- The mathematics, part NF: the rules' statements: examples, RulesApart. -/
set_option linter.unusedVariables false
set_option linter.unusedSimpArgs false
namespace Go.Taq
open Go
end Go.Taq
/- The mathematics, part NG: being near is symmetric; zones are apart; what changes where a shelf is put. -/
set_option linter.unusedVariables false
set_option linter.unusedSimpArgs false
namespace Go.Taq
open Go
section
end
end Go.Taq
/- The mathematics, part NV: zones in the reference. -/
set_option linter.unusedVariables false
namespace Go.Taq
open Go
end Go.Taq
