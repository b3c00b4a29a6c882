/- The mathematics, several parts in one text. -/
import Derived.Test.YtlaehjhkcanffaaGreatBB
import Derived.Test.YtlaehjhkcanffaaGreatGA
/- The mathematics, part BC: region.Of, right homes, who is home, the bounds of the statements of chapter 21. -/
set_option linter.unusedVariables false
set_option linter.unusedSimpArgs false
namespace Go.Taq
open Go
theorem Q4Q {x:Int} (h1:-1000000≤x) (h2:x≤1000000000):w64 x=x:=Q6 (by omega) (by omega)
theorem Q3Q {n:Nat} (h:n≤1000000000):w64 ((n:Int)+1)=((n+1:Nat):Int):=by rw [Q6 (by omega) (by omega)];simp
def cmI {α:Type} [DecidableEq α] (xs:List α):Nat→List α
 | 0=>[]
 | i+1=>cmI xs i++(if i=0∨xs[i]?≠xs[i-1]? then xs[i]?.toList else [])
section
variable {α:Type} [DecidableEq α] {xs:List α}
theorem Q0G:∀i,(cmI xs i).length≤i
 | 0=>by simp [cmI]
 | i+1=>by
  have:=Q0G i
  unfold cmI
  rw [List.length_append]
  split
  ·cases xs[i]? <;> simp <;> omega
  ·simp;omega
theorem Zq:∀i,i≤xs.length→∀s,s∈cmI xs i↔s∈xs.take i
 | 0,_,s=>by simp [cmI]
 | i+1,h,s=>by
  have ih:=Zq i (by omega) s
  have hx:xs[i]?=some (xs[i]'(by omega)):=List.getElem?_eq_getElem (by omega)
  unfold cmI
  rw [List.take_add_one,List.mem_append,List.mem_append,ih]
  by_cases c:i=0∨xs[i]?≠xs[i-1]?
  ·rw [if_pos c]
  ·rw [if_neg c]
   have c1:i≠0:=fun e=>c (.inl e)
   have c2:xs[i]?=xs[i-1]?:=Classical.byContradiction fun e=>c (.inr e)
   constructor
   ·rintro (h | h)
    ·exact .inl h
    ·simp at h
   ·rintro (h | h)
    ·exact .inl h
    ·refine .inl ?_
     rw [c2] at h
     have:(xs.take i)[i-1]?=xs[i-1]?:=List.getElem?_take_of_lt (by omega)
     rw [←this] at h
     exact List.mem_of_getElem? (Option.mem_toList.1 h)
theorem Q2b {lt:α→α→Prop} (ht:∀x y z,(lt x y∨x=y)→lt y z→lt x z) (hs:xs.Pairwise (fun x y=>lt x y∨x=y)):∀i,i≤xs.length→(cmI xs i).Pairwise lt
 | 0,_=>by simp [cmI]
 | i+1,h=>by
  have ih:=Q2b ht hs i (by omega)
  unfold cmI
  by_cases c:i=0∨xs[i]?≠xs[i-1]?
  ·rw [if_pos c,List.pairwise_append]
   have hx:xs[i]?=some (xs[i]'(by omega)):=List.getElem?_eq_getElem (by omega)
   rw [hx]
   refine⟨ih,by simp,fun a ha b hb=>?_⟩
   simp at hb;subst hb
   rw [Zq i (by omega)] at ha
   rcases c with c | c
   ·subst c;simp at ha
   ·obtain⟨j,hj⟩:=List.getElem?_of_mem ha
    have hji:j<i:=by have:=(List.getElem?_eq_some_iff.1 hj).1;simp at this;omega
    rw [List.getElem?_take_of_lt hji] at hj
    have hg:=List.pairwise_iff_getElem.1 hs
    obtain⟨hjl,hje⟩:=List.getElem?_eq_some_iff.1 hj
    have hx1:xs[i-1]?=some (xs[i-1]'(by omega)):=List.getElem?_eq_getElem (by omega)
    have h1:lt (xs[i-1]'(by omega)) (xs[i]'(by omega)):=by
     rcases hg (i-1) i (by omega) (by omega) (by omega) with e | e
     ·exact e
     ·exact absurd (by rw [hx,hx1,e]) c
    subst hje
    by_cases e:j=i-1
    ·subst e;exact h1
    ·exact ht _ _ _ (hg j (i-1) (by omega) (by omega) (by omega)) h1
  ·rw [if_neg c];simpa using ih
theorem Q2a {i:Nat} (h:1≤i) (e:xs[i]?=xs[i-1]?):cmI xs (i+1)=cmI xs i:=by
 rw [cmI,if_neg (by intro h;rcases h with h | h;omega;exact h e)];simp
theorem Q1v {i:Nat} {x:α} (h:xs[i]?=some x) (e:i=0∨xs[i]?≠xs[i-1]?):cmI xs (i+1)=cmI xs i++[x]:=by
 rw [cmI,if_pos e,h];rfl
end
theorem S_CompactI {xs:List Int} (hl:xs.length≤1000000) {post:List Int→Prop} (hp:post (cmI xs xs.length)):V_slices_Compact_int_int__o0 xs post:=by
 unfold V_slices_Compact_int_int__o0
 refine Ite.mk (fun h=>?_) (fun h=>?_)
 ·have h':(xs.length:Int)<2:=of_decide_eq_true h
  have:cmI xs xs.length=xs:=by
   match xs,h' with
   | [],_=>rfl
   | [x],_=>rfl
   | _ :: _ :: _,h'=>simp at h';omega
  rw [this] at hp;exact hp
 have h':¬(xs.length:Int)<2:=of_decide_eq_false h
 have all:cmI xs xs.length=xs→post xs:=fun e=>by rw [e] at hp;exact hp
 refine Jn.mk (fun _=>post xs) (Loop.inv (xs.length-1) (fun i (s:Int)=>s=((i+1:Nat):Int)∧cmI xs (i+1)=xs.take (i+1)) ⟨rfl,?_⟩ (fun i s hi hI=>?_) (fun s hI=>?_)) (fun _ h=>h)
 ·have hx:xs[0]?=some (xs[0]'(by omega)):=List.getElem?_eq_getElem (by omega)
  rw [Q1v hx (.inl rfl),List.take_add_one,hx];rfl
 ·obtain⟨rfl,hI⟩:=hI
  have hx:xs[i+1]?=some (xs[i+1]'(by omega)):=List.getElem?_eq_getElem (by omega)
  have hx0:xs[i]?=some (xs[i]'(by omega)):=List.getElem?_eq_getElem (by omega)
  generalize hxv:xs[i+1]'(by omega)=x at hx
  generalize hyv:xs[i]'(by omega)=y at hx0
  have w1:w64 (((i+1:Nat):Int)-1)=(i:Int):=by rw [Q4Q (by omega) (by omega)];simp
  refine Ite.lt (by omega) (Jn.mk (fun _=>cmI xs (i+2)=xs.take (i+2)) ⟨x,Qe rfl hx,y,Qe w1 hx0,Ite.mk (fun e=>?_) (fun e=>?_)⟩ (fun _ e=>⟨Q3Q (by omega),e⟩))
  ·have e':x=y:=by simpa using e
   have hsame:cmI xs (i+1+1)=cmI xs (i+1):=Q2a (by omega) (by simp only [Nat.add_sub_cancel];rw [hx,hx0,e'])
   have hn2:Int.toNat ((xs.length:Int)-((i+1:Nat):Int))=xs.length-(i+1):=by omega
   simp only [hn2,Int.toNat_natCast]
   refine⟨⟨by omega,by omega,by omega⟩,Jn.mk (fun (t:List Int×Int)=>∃kk:Nat,t.2=(kk:Int)∧t.1.length=xs.length∧kk≤xs.length∧t.1.take kk=cmI xs xs.length)
    (Loop.inv (xs.length-(i+1)-1) (fun j (t:List Int×Int×Int)=>t.2.2=((j+1:Nat):Int)∧∃kk:Nat,t.2.1=(kk:Int)∧t.1.length=xs.length∧kk≤i+1+j∧t.1.take kk=cmI xs (i+1+j+1)∧∀q,i+1+j≤q→t.1[q]?=xs[q]?)
     ⟨rfl,i+1,rfl,rfl,by omega,by rw [Nat.add_zero,hsame,hI],fun q _=>rfl⟩ (fun j t hj hJ=>?_) (fun t hJ=>?_)) (fun t hJ=>?_)⟩
   ·obtain⟨ys,kk',q⟩:=t
    obtain⟨rfl,kk,rfl,hyl,hkk,htk,hsm⟩:=hJ
    replace hyl:ys.length=xs.length:=hyl
    replace htk:ys.take kk=cmI xs (i+1+j+1):=htk
    replace hsm:∀q,i+1+j≤q→ys[q]?=xs[q]?:=hsm
    have wj:w64 (((j+1:Nat):Int)-1)=(j:Int):=by rw [Q4Q (by omega) (by omega)];simp
    have wj1:w64 (((j+1:Nat):Int)+1)=((j+1+1:Nat):Int):=Q3Q (by omega)
    have wk1:w64 ((kk:Int)+1)=((kk+1:Nat):Int):=Q3Q (by omega)
    have ha:xs[i+1+j+1]?=some (xs[i+1+j+1]'(by omega)):=List.getElem?_eq_getElem (by omega)
    have hb:xs[i+1+j]?=some (xs[i+1+j]'(by omega)):=List.getElem?_eq_getElem (by omega)
    generalize xs[i+1+j+1]'(by omega)=a at ha
    generalize xs[i+1+j]'(by omega)=b at hb
    refine Ite.lt (by show ((j+1:Nat):Int)<_;omega) ?_
    simp only [wj,wj1,wk1,Int.toNat_natCast]
    refine⟨⟨by omega,by omega⟩,a,by rw [show i+1+(j+1)=i+1+j+1 by omega,hsm _ (by omega)];exact ha,⟨by omega,by omega⟩,b,by rw [hsm _ (by omega)];exact hb,?_⟩
    refine Jn.mk (fun (t:List Int×Int)=>∃kk:Nat,t.2=(kk:Int)∧t.1.length=xs.length∧kk≤i+1+(j+1)∧t.1.take kk=cmI xs (i+1+(j+1)+1)∧∀q,i+1+(j+1)≤q→t.1[q]?=xs[q]?) (Ite.mk (fun e=>?_) (fun e=>?_)) (fun t h=>⟨by trivial,h⟩)
    ·have hab:¬a=b:=by simpa using e
     have hkl:kk<ys.length:=by omega
     refine⟨⟨by omega,by omega⟩,_,Qe rfl (List.getElem?_eq_getElem hkl),kk+1,rfl,by simpa using hyl,by omega,?_,fun q hq=>?_⟩
     ·show (ys.set kk a).take (kk+1)=_
      rw [List.take_add_one,List.take_set_of_le (Nat.le_refl _),htk,List.getElem?_set,if_pos rfl,if_pos hkl]
      have:=Q1v ha (.inr (by simp only [Nat.add_sub_cancel];rw [ha,hb];simpa using hab))
      rw [show i+1+(j+1)+1=i+1+j+1+1 by omega,this];rfl
     ·show (ys.set kk a)[q]?=_
      rw [List.getElem?_set_ne (by omega)];exact hsm q (by omega)
    ·have hab:a=b:=by simpa using e
     have:=Q2a (xs:=xs) (i:=i+1+j+1) (by omega) (by simp only [Nat.add_sub_cancel];rw [ha,hb,hab])
     exact⟨kk,rfl,hyl,by omega,by rw [show i+1+(j+1)+1=i+1+j+1+1 by omega,this];exact htk,fun q hq=>hsm q (by omega)⟩
   ·obtain⟨ys,kk',q⟩:=t
    obtain⟨rfl,kk,rfl,hyl,hkk,htk,hsm⟩:=hJ
    refine Ite.nlt (by show ¬((xs.length-(i+1)-1+1:Nat):Int)<_;omega) ⟨kk,rfl,hyl,by omega,?_⟩
    rw [show i+1+(xs.length-(i+1)-1)+1=xs.length by omega] at htk
    exact htk
   ·obtain⟨ys,kk'⟩:=t
    obtain⟨kk,rfl,hyl,hkk,htk⟩:=hJ
    replace hyl:ys.length=xs.length:=hyl
    replace htk:ys.take kk=cmI xs xs.length:=htk
    have hn3:Int.toNat ((ys.length:Int)-(kk:Int))=ys.length-kk:=by omega
    simp only [hn3,Int.toNat_natCast]
    refine⟨⟨by omega,by omega,by omega⟩,by omega,⟨by omega,by omega,?_⟩,?_⟩
    ·simp only [List.length_append,List.length_take,List.length_replicate,List.length_drop];omega
    ·have:sub (ys.take kk++(List.replicate (ys.length-kk) 0++ys.drop (kk+(ys.length-kk)))) 0 (kk:Int)=ys.take kk:=by
      simp only [sub,Int.toNat_natCast,Int.toNat_zero,List.drop_zero,Nat.sub_zero]
      rw [List.take_append_of_le_length (by simp;omega)]
      rw [List.take_of_length_le (by simp;omega)]
     rw [this,htk];exact hp
  ·have e':¬x=y:=by simpa using e
   show cmI xs (i+1+1)=xs.take (i+1+1)
   rw [Q1v hx (.inr (by simp only [Nat.add_sub_cancel];rw [hx,hx0];simpa using e')),List.take_add_one,hx,hI];rfl
 ·obtain⟨rfl,hI⟩:=hI
  refine Ite.nlt (by omega) ?_
  rw [show xs.length-1+1=xs.length by omega,List.take_length] at hI
  exact all hI
end Go.Taq
/- The mathematics, part BD: all home, Safe, Check. -/
set_option linter.unusedVariables false
set_option linter.unusedSimpArgs false
namespace Go.Taq
open Go
section
end
end Go.Taq
/- The mathematics, part BE: Way; BankGrows but for the examples. -/
set_option linter.unusedVariables false
set_option linter.unusedSimpArgs false
namespace Go.Taq
open Go
section
end
end Go.Taq
/- The mathematics, part BF: Check; the examples of chapter 21; BankGrows. -/
set_option linter.unusedVariables false
set_option linter.unusedSimpArgs false
namespace Go.Taq
open Go
section
variable {st:ApiState}
def badI (st:ApiState) (o:List Int) (i:Nat):Prop:=¬(Q3d st (o.getD i 0)=true∧o.getD i 0∉o.take i)
def Q1u (st:ApiState) (o:List Int) (i:Nat):Prop:=(o.take i).Nodup∧(∀x,x∈o.take i→Q3d st x=true)∧∀j,j<i→¬badI st o j
theorem Q1u.zero {o:List Int}:Q1u st o 0:=⟨by simp,fun x hx=>by simp at hx,fun j hj=>by omega⟩
theorem Q1u.all {o:List Int} (h:Q1u st o o.length):o.Nodup∧∀x,x∈o→Q3d st x=true:=by
 have h1:=h.1;have h2:=h.2.1
 rw [List.take_length] at h1 h2
 exact⟨h1,h2⟩
theorem Q1u.step {o:List Int} {i:Nat} (h:Q1u st o i) {x:Int} (hx:o[i]?=some x) (hb:false=(!Q3d st x||(o.take i).contains x)):Q1u st o (i+1):=by
 have hb':=hb.symm
 simp at hb'
 obtain⟨hI1,hI2,hI3⟩:=h
 refine⟨?_,?_,fun j hj=>?_⟩
 ·rw [QE hx]
  refine List.nodup_append.2 ⟨hI1,by simp,fun a ha b hb2=>?_⟩
  simp at hb2;subst hb2
  intro e;subst e
  exact hb'.2 ha
 ·rw [QE hx]
  intro y hy
  rcases List.mem_append.1 hy with h | h
  ·exact hI2 y h
  ·simp at h;subst h;exact hb'.1
 ·by_cases e:j=i
  ·subst e
   exact fun hn=>hn (by rw [show o.getD j 0=x from Q16 hx];exact hb')
  ·exact hI3 j (by omega)
end
end Go.Taq
/- The mathematics, part BG: BankFinds. -/
set_option linter.unusedVariables false
set_option linter.unusedSimpArgs false
namespace Go.Taq
open Go
section
end
end Go.Taq
/- The mathematics, part GE: the cells whose best ways lead over a cell, and their fuel without it (chapter 33). -/
set_option linter.unusedVariables false
set_option linter.unusedSimpArgs false
namespace Go.Taq
open Go
section
end
end Go.Taq
