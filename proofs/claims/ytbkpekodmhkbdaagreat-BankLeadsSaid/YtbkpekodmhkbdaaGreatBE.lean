/- The mathematics, several parts in one text. -/
import Derived.Test.YtbkpekodmhkbdaaGreatBA
import Derived.Test.YtbkpekodmhkbdaaGreatAF
/- The mathematics, part BB: ways home (bank.Way). -/
set_option linter.unusedVariables false
set_option linter.unusedSimpArgs false
namespace Go.Taq
open Go
def hB (x:Qd) (i:Int):Bool:=(lk x.home i).getD false
def avF (x:Qd) (i:Int) (j:Nat):List Int:=if (j:Int)=i then [] else x.homes.getD j 0 :: (if hB x j=true then [] else [(x.st.Robots.getD j default).Cell])
def avS (x:Qd) (m:Nat):List Int:=if carr x.st m<0 then [x.st.Shelves.getD m 0] else []
def avL (x:Qd) (i:Int):List Int:=
 ((x.st.Dead++x.st.People++(List.range x.st.Robots.length).flatMap (avF x i))++(if (rAt x.st i).Load≥0 then (List.range x.st.Shelves.length).flatMap (avS x) else [])).filter fun c=>!(c == (rAt x.st i).Cell)
def Wy (x:Qd) (i:Int):Prop:=Kj x.st i=true∧hB x i=false∧∃k,PB x.s.Floor (x.homes.getD i.toNat 0) (avL x i) k (rAt x.st i).Cell
theorem WJ {x:Qd} {i:Int} {post:Bool→Prop} (hp:post (Kj x.st i)):K0 x i post:=by
 unfold K0
 refine Jn.mk (fun b=>b=Kj x.st i) (Ite.mk (fun h=>Ite.mk (fun h2=>?_) (fun h2=>?_)) (fun h=>?_)) (fun b hb=>hb▸hp)
 ·have h':0≤i:=by simpa using h
  obtain⟨n,hn⟩:=Int.eq_ofNat_of_zero_le h'
  have h2':i<(x.st.Robots.length:Int):=by simpa using h2
  have hx:=List.getElem?_eq_getElem (show n<x.st.Robots.length by omega)
  refine⟨_,Qn hn hx,?_⟩
  unfold Kj
  rw [Q0u hn hx,decide_eq_true h',decide_eq_true h2'];rfl
 ·have h2':¬i<(x.st.Robots.length:Int):=by simpa using h2
  unfold Kj;rw [decide_eq_false h2'];simp
 ·have h':¬0≤i:=by simpa using h
  unfold Kj;rw [decide_eq_false h'];simp
theorem Q5T {a b:List Int} (ha:a.length≤1000) (hb:b.length≤1000) {post:List Int→Prop} (hp:post (a++b)):Kk [a,b] post:=by
 unfold Kk X6
 refine Jn.mk (fun n=>n=(a.length:Int)+b.length) (Loop.inv 2 (fun i (t:Int×Int)=>t.2=(i:Int)∧t.1=if i=0 then 0 else if i=1 then (a.length:Int) else (a.length:Int)+b.length) ⟨rfl,rfl⟩ (fun i t hi hI=>?_) (fun t hI=>?_)) (fun n hn=>⟨by omega,by omega,?_⟩)
 ·obtain⟨h1,h2⟩:=hI
  rw [h1,h2]
  have:i=0∨i=1:=by omega
  rcases this with e | e <;> subst e
  ·exact Ite.t rfl ⟨a,rfl,Ite.f (by show decide (w64 (0+(a.length:Int))<0)=false;rw [QD (by omega) (by omega)];exact decide_eq_false (by omega)) ⟨rfl,by show w64 (0+(a.length:Int))=_;rw [QD (by omega) (by omega)];simp⟩⟩
  ·exact Ite.t rfl ⟨b,rfl,Ite.f (by show decide (w64 ((a.length:Int)+(b.length:Int))<0)=false;rw [QD (by omega) (by omega)];exact decide_eq_false (by omega)) ⟨rfl,by show w64 ((a.length:Int)+(b.length:Int))=_;rw [QD (by omega) (by omega)];rfl⟩⟩
 ·obtain⟨h1,h2⟩:=hI
  exact Ite.f (by rw [h1];rfl) h2
 ·refine Jn.mk (fun l=>l=a++b) (Loop.inv 2 (fun i (t:List Int×Int)=>t.2=(i:Int)∧t.1=if i=0 then [] else if i=1 then a else a++b) ⟨rfl,rfl⟩ (fun i t hi hI=>?_) (fun t hI=>?_)) (fun l hl=>hl▸hp)
  ·obtain⟨h1,h2⟩:=hI
   rw [h1,h2]
   have:i=0∨i=1:=by omega
   rcases this with e | e <;> subst e
   ·exact Ite.t rfl ⟨a,rfl,by simp;omega,rfl,by show []++a=a;simp⟩
   ·exact Ite.t rfl ⟨b,rfl,by show a.length+b.length≤_;omega,rfl,rfl⟩
  ·obtain⟨h1,h2⟩:=hI
   exact Ite.f (by rw [h1];rfl) h2
theorem Q5b {xs:List Int} {r:ApiRobot} (hm:xs.length≤maxLen) {post:List Int→Prop} (hp:post (xs.filter fun c=>!(c == r.Cell))):Qk r xs post:=by
 unfold Qk QB
 refine Ww hm (fun c=>c == r.Cell) (T:=fun c q=>QZ c r q) (fun c _ q hq=>by unfold QZ;exact hq) ?_
 exact Q1q hm 0 (fun c=>c == r.Cell) (T:=fun c q=>QZ c r q) (fun c _ q hq=>by unfold QZ;exact hq) hp
theorem Q6k (x:Qd) (i:Int) (j:Nat):(avF x i j).length≤2:=by
 unfold avF;split
 ·simp
 ·split <;> simp
theorem Q5Y (x:Qd) (m:Nat):(avS x m).length≤2:=by unfold avS;split <;> simp
theorem Q0r {x:Qd} (hf:RF x.s.Floor) (hz:Sz x.st) (k:QM x.st) (hl:x.homes.length=x.st.Robots.length) {i:Int} {post:List Int→Prop} (hn:¬Wy x i→post [])
  (hy:∀(k:Nat) p,Wy x i→PB x.s.Floor (x.homes.getD i.toNat 0) (avL x i) k (rAt x.st i).Cell→(∀j,PB x.s.Floor (x.homes.getD i.toNat 0) (avL x i) j (rAt x.st i).Cell→k≤j)→WayL x.s.Floor (avL x i) (rAt x.st i).Cell (x.homes.getD i.toNat 0) k p→post p):K1 x i post:=by
 have q1:=hz.sh;have q2:=hz.rb;have q3:=hz.pp;have q4:=hz.dd
 unfold K1
 refine Jn.mk (fun b=>b=(!Kj x.st i||hB x i)) (WJ (Ite.mk (fun h=>by rw [h];rfl) (fun h=>by rw [h];rfl))) (fun b hb=>Ite.mk (fun h=>hn fun hw=>?_) (fun h=>?_))
 ·rw [h,hw.1,hw.2.1] at hb;cases hb
 have hlv:Kj x.st i=true∧hB x i=false:=by rw [h] at hb;have:=hb.symm;simp at this;exact this
 obtain⟨n,r,hin,hx,hd,hr⟩:=WD hlv.1
 have hnl:=(List.getElem?_eq_some_iff.1 hx).1
 have eavL:avL x i=((x.st.Dead++x.st.People++(List.range x.st.Robots.length).flatMap (avF x i))++(if r.Load≥0 then (List.range x.st.Shelves.length).flatMap (avS x) else [])).filter fun c=>!(c == r.Cell):=by unfold avL;rw [hr]
 have g1:=Gn (n:=x.st.Robots.length) (f:=avF x i) (fun j _=>Q6k x i j)
 have g2:=Gn (n:=x.st.Shelves.length) (f:=avS x) (fun j _=>Q5Y x j)
 refine⟨r,Qn hin hx,Q5T (by omega) (by omega) (Jn.mk (fun l=>l=x.st.Dead++x.st.People++(List.range x.st.Robots.length).flatMap (avF x i)) (Q2e x.st.Robots.length (fun t:List Int×Int=>t.2) (fun j t=>t.1=x.st.Dead++x.st.People++(List.range j).flatMap (avF x i)) (by unfold maxLen;omega) rfl (by simp) (fun j t hj ht hI=>?_) (fun t h=>h)) (fun l hl1=>?_))⟩
 ·rw [ht]
  have hy1:=List.getElem?_eq_getElem hj
  generalize x.st.Robots[j]=r1 at hy1
  have hh:=List.getElem?_eq_getElem (show j<x.homes.length by omega)
  have hhd:x.homes.getD j 0=x.homes[j]'(by omega):=KR hh
  generalize x.homes[j]'_=h1 at hh hhd
  have gj:=Gn (n:=j) (f:=avF x i) (fun j _=>Q6k x i j)
  have hlen:t.1.length≤10000:=by rw [hI];simp only [List.length_append];omega
  refine Jn.mk (fun l=>l=t.1++avF x i j) ⟨r1,Qn rfl hy1,Ite.mk (fun h=>?_) (fun h=>⟨h1,Qn rfl hh,by simp;omega,Jn.mk (fun l=>l=t.1++avF x i j) (Ite.mk (fun h2=>⟨by simp;omega,?_⟩) (fun h2=>?_)) (fun l hl=>hl)⟩)⟩ (fun l hl=>⟨rfl,by show l=_;rw [hl,hI,YC];simp only [List.append_assoc]⟩)
  ·have e:(j:Int)=i:=by simpa using h
   unfold avF;rw [if_pos e,List.append_nil]
  ·have e:(j:Int)≠i:=by simpa using h
   have e2:hB x j=false:=by unfold hB;simpa using h2
   unfold avF;rw [if_neg e,hhd,Xr hy1,e2];simp
  ·have e:(j:Int)≠i:=by simpa using h
   have e2:hB x j=true:=by unfold hB;simpa using h2
   unfold avF;rw [if_neg e,hhd,e2];simp
 ·subst hl1
  refine Jn.mk (fun l=>l=(x.st.Dead++x.st.People++(List.range x.st.Robots.length).flatMap (avF x i))++(if r.Load≥0 then (List.range x.st.Shelves.length).flatMap (avS x) else [])) (Ite.mk (fun h=>?_) (fun h=>?_)) (fun l hl2=>Q5b ?_ ?_)
  ·rw [if_pos (by simpa using h)]
   refine Jn.mk (fun l=>l=(x.st.Dead++x.st.People++(List.range x.st.Robots.length).flatMap (avF x i))++(List.range x.st.Shelves.length).flatMap (avS x)) (Q2e x.st.Shelves.length (fun t:List Int×Int=>t.2) (fun j t=>t.1=(x.st.Dead++x.st.People++(List.range x.st.Robots.length).flatMap (avF x i))++(List.range j).flatMap (avS x)) (by unfold maxLen;omega) rfl (by simp) (fun j t hj ht hI=>?_) (fun t h=>h)) (fun l hl=>hl)
   rw [ht]
   have hy1:=List.getElem?_eq_getElem hj
   have hyd:x.st.Shelves.getD j 0=x.st.Shelves[j]:=KR hy1
   generalize x.st.Shelves[j]=c at hy1 hyd
   have gj:=Gn (n:=j) (f:=avS x) (fun j _=>Q5Y x j)
   have hlen:t.1.length≤10000:=by rw [hI];simp only [List.length_append] at *;omega
   refine⟨c,Qn rfl hy1,Wr k (Jn.mk (fun l=>l=t.1++avS x j) (Ite.mk (fun h2=>⟨by simp;omega,?_⟩) (fun h2=>?_)) (fun l hl=>⟨rfl,by show l=_;rw [hl,hI,YC];simp only [List.append_assoc]⟩))⟩
   ·unfold avS;rw [if_pos (by simpa using h2),hyd]
   ·unfold avS;rw [if_neg (by simpa using h2),List.append_nil]
  ·rw [if_neg (by simpa using h),List.append_nil]
  ·rw [hl2];simp only [List.length_append];unfold maxLen;split <;> (first | omega | (rw [List.length_nil];omega))
  ·have hh:=List.getElem?_eq_getElem (show n<x.homes.length by omega)
   have hhd:x.homes.getD i.toNat 0=x.homes[n]'(by omega):=by rw [hin];exact KR hh
   rw [←hhd] at hh
   rw [hl2,←eavL]
   have hle:(avL x i).length≤maxLen:=by
    rw [eavL];refine Nat.le_trans (List.length_filter_le _ _) ?_
    simp only [List.length_append];unfold maxLen;split <;> (first | omega | (rw [List.length_nil];omega))
   rw [hr] at hy
   have hnw:(∀k,¬PB x.s.Floor (x.homes.getD i.toNat 0) (avL x i) k r.Cell)→post []:=fun h=>hn fun hw=>by
    obtain⟨_,_,k,hk⟩:=hw;rw [hr] at hk;exact h k hk
   exact⟨_,Qn hin hh,Q3p hf hle hnw (fun k p h1 h2 h3=>hy k p ⟨hlv.1,hlv.2,k,by rw [hr];exact h1⟩ h1 h2 h3)⟩
end Go.Taq
/- The mathematics, part BC: region.Of, right homes, who is home, the bounds of the statements of chapter 21. -/
set_option linter.unusedVariables false
set_option linter.unusedSimpArgs false
namespace Go.Taq
open Go
theorem Q93 {x:Int} (h1:-1000000≤x) (h2:x≤1000000000):w64 x=x:=QD (by omega) (by omega)
theorem Q7Q {n:Nat} (h:n≤1000000000):w64 ((n:Int)+1)=((n+1:Nat):Int):=by rw [QD (by omega) (by omega)];simp
def cmI {α:Type} [DecidableEq α] (xs:List α):Nat→List α
 | 0=>[]
 | i+1=>cmI xs i++(if i=0∨xs[i]?≠xs[i-1]? then xs[i]?.toList else [])
section
variable {α:Type} [DecidableEq α] {xs:List α}
theorem Q60:∀i,(cmI xs i).length≤i
 | 0=>by simp [cmI]
 | i+1=>by
  have:=Q60 i
  unfold cmI
  rw [List.length_append]
  split
  ·cases xs[i]? <;> simp <;> omega
  ·simp;omega
theorem Q48:∀i,i≤xs.length→∀s,s∈cmI xs i↔s∈xs.take i
 | 0,_,s=>by simp [cmI]
 | i+1,h,s=>by
  have ih:=Q48 i (by omega) s
  have hx:xs[i]?=some (xs[i]'(by omega)):=List.getElem?_eq_getElem (by omega)
  unfold cmI
  rw [List.take_add_one,List.mem_append,List.mem_append,ih]
  by_cases c:i=0∨xs[i]?≠xs[i-1]?
  ·rw [if_pos c]
  ·rw [if_neg c]
   have c1:i≠0:=fun e=>c (.inl e)
   have c2:xs[i]?=xs[i-1]?:=Classical.byContradiction fun e=>c (.inr e)
   constructor
   ·rintro (h | h)
    ·exact .inl h
    ·simp at h
   ·rintro (h | h)
    ·exact .inl h
    ·refine .inl ?_
     rw [c2] at h
     have:(xs.take i)[i-1]?=xs[i-1]?:=List.getElem?_take_of_lt (by omega)
     rw [←this] at h
     exact List.mem_of_getElem? (Option.mem_toList.1 h)
theorem Q7q {lt:α→α→Prop} (ht:∀x y z,(lt x y∨x=y)→lt y z→lt x z) (hs:xs.Pairwise (fun x y=>lt x y∨x=y)):∀i,i≤xs.length→(cmI xs i).Pairwise lt
 | 0,_=>by simp [cmI]
 | i+1,h=>by
  have ih:=Q7q ht hs i (by omega)
  unfold cmI
  by_cases c:i=0∨xs[i]?≠xs[i-1]?
  ·rw [if_pos c,List.pairwise_append]
   have hx:xs[i]?=some (xs[i]'(by omega)):=List.getElem?_eq_getElem (by omega)
   rw [hx]
   refine⟨ih,by simp,fun a ha b hb=>?_⟩
   simp at hb;subst hb
   rw [Q48 i (by omega)] at ha
   rcases c with c | c
   ·subst c;simp at ha
   ·obtain⟨j,hj⟩:=List.getElem?_of_mem ha
    have hji:j<i:=by have:=(List.getElem?_eq_some_iff.1 hj).1;simp at this;omega
    rw [List.getElem?_take_of_lt hji] at hj
    have hg:=List.pairwise_iff_getElem.1 hs
    obtain⟨hjl,hje⟩:=List.getElem?_eq_some_iff.1 hj
    have hx1:xs[i-1]?=some (xs[i-1]'(by omega)):=List.getElem?_eq_getElem (by omega)
    have h1:lt (xs[i-1]'(by omega)) (xs[i]'(by omega)):=by
     rcases hg (i-1) i (by omega) (by omega) (by omega) with e | e
     ·exact e
     ·exact absurd (by rw [hx,hx1,e]) c
    subst hje
    by_cases e:j=i-1
    ·subst e;exact h1
    ·exact ht _ _ _ (hg j (i-1) (by omega) (by omega) (by omega)) h1
  ·rw [if_neg c];simpa using ih
theorem Q4M {i:Nat} (h:1≤i) (e:xs[i]?=xs[i-1]?):cmI xs (i+1)=cmI xs i:=by
 rw [cmI,if_neg (by intro h;rcases h with h | h;omega;exact h e)];simp
theorem Q4m {i:Nat} {x:α} (h:xs[i]?=some x) (e:i=0∨xs[i]?≠xs[i-1]?):cmI xs (i+1)=cmI xs i++[x]:=by
 rw [cmI,if_pos e,h];rfl
end
theorem S_CompactI {xs:List Int} (hl:xs.length≤1000000) {post:List Int→Prop} (hp:post (cmI xs xs.length)):V_slices_Compact_int_int__o0 xs post:=by
 unfold V_slices_Compact_int_int__o0
 refine Ite.mk (fun h=>?_) (fun h=>?_)
 ·have h':(xs.length:Int)<2:=of_decide_eq_true h
  have:cmI xs xs.length=xs:=by
   match xs,h' with
   | [],_=>rfl
   | [x],_=>rfl
   | _ :: _ :: _,h'=>simp at h';omega
  rw [this] at hp;exact hp
 have h':¬(xs.length:Int)<2:=of_decide_eq_false h
 have all:cmI xs xs.length=xs→post xs:=fun e=>by rw [e] at hp;exact hp
 refine Jn.mk (fun _=>post xs) (Loop.inv (xs.length-1) (fun i (s:Int)=>s=((i+1:Nat):Int)∧cmI xs (i+1)=xs.take (i+1)) ⟨rfl,?_⟩ (fun i s hi hI=>?_) (fun s hI=>?_)) (fun _ h=>h)
 ·have hx:xs[0]?=some (xs[0]'(by omega)):=List.getElem?_eq_getElem (by omega)
  rw [Q4m hx (.inl rfl),List.take_add_one,hx];rfl
 ·obtain⟨rfl,hI⟩:=hI
  have hx:xs[i+1]?=some (xs[i+1]'(by omega)):=List.getElem?_eq_getElem (by omega)
  have hx0:xs[i]?=some (xs[i]'(by omega)):=List.getElem?_eq_getElem (by omega)
  generalize hxv:xs[i+1]'(by omega)=x at hx
  generalize hyv:xs[i]'(by omega)=y at hx0
  have w1:w64 (((i+1:Nat):Int)-1)=(i:Int):=by rw [Q93 (by omega) (by omega)];simp
  refine Ite.lt (by omega) (Jn.mk (fun _=>cmI xs (i+2)=xs.take (i+2)) ⟨x,Qn rfl hx,y,Qn w1 hx0,Ite.mk (fun e=>?_) (fun e=>?_)⟩ (fun _ e=>⟨Q7Q (by omega),e⟩))
  ·have e':x=y:=by simpa using e
   have hsame:cmI xs (i+1+1)=cmI xs (i+1):=Q4M (by omega) (by simp only [Nat.add_sub_cancel];rw [hx,hx0,e'])
   have hn2:Int.toNat ((xs.length:Int)-((i+1:Nat):Int))=xs.length-(i+1):=by omega
   simp only [hn2,Int.toNat_natCast]
   refine⟨⟨by omega,by omega,by omega⟩,Jn.mk (fun (t:List Int×Int)=>∃kk:Nat,t.2=(kk:Int)∧t.1.length=xs.length∧kk≤xs.length∧t.1.take kk=cmI xs xs.length)
    (Loop.inv (xs.length-(i+1)-1) (fun j (t:List Int×Int×Int)=>t.2.2=((j+1:Nat):Int)∧∃kk:Nat,t.2.1=(kk:Int)∧t.1.length=xs.length∧kk≤i+1+j∧t.1.take kk=cmI xs (i+1+j+1)∧∀q,i+1+j≤q→t.1[q]?=xs[q]?)
     ⟨rfl,i+1,rfl,rfl,by omega,by rw [Nat.add_zero,hsame,hI],fun q _=>rfl⟩ (fun j t hj hJ=>?_) (fun t hJ=>?_)) (fun t hJ=>?_)⟩
   ·obtain⟨ys,kk',q⟩:=t
    obtain⟨rfl,kk,rfl,hyl,hkk,htk,hsm⟩:=hJ
    replace hyl:ys.length=xs.length:=hyl
    replace htk:ys.take kk=cmI xs (i+1+j+1):=htk
    replace hsm:∀q,i+1+j≤q→ys[q]?=xs[q]?:=hsm
    have wj:w64 (((j+1:Nat):Int)-1)=(j:Int):=by rw [Q93 (by omega) (by omega)];simp
    have wj1:w64 (((j+1:Nat):Int)+1)=((j+1+1:Nat):Int):=Q7Q (by omega)
    have wk1:w64 ((kk:Int)+1)=((kk+1:Nat):Int):=Q7Q (by omega)
    have ha:xs[i+1+j+1]?=some (xs[i+1+j+1]'(by omega)):=List.getElem?_eq_getElem (by omega)
    have hb:xs[i+1+j]?=some (xs[i+1+j]'(by omega)):=List.getElem?_eq_getElem (by omega)
    generalize xs[i+1+j+1]'(by omega)=a at ha
    generalize xs[i+1+j]'(by omega)=b at hb
    refine Ite.lt (by show ((j+1:Nat):Int)<_;omega) ?_
    simp only [wj,wj1,wk1,Int.toNat_natCast]
    refine⟨⟨by omega,by omega⟩,a,by rw [show i+1+(j+1)=i+1+j+1 by omega,hsm _ (by omega)];exact ha,⟨by omega,by omega⟩,b,by rw [hsm _ (by omega)];exact hb,?_⟩
    refine Jn.mk (fun (t:List Int×Int)=>∃kk:Nat,t.2=(kk:Int)∧t.1.length=xs.length∧kk≤i+1+(j+1)∧t.1.take kk=cmI xs (i+1+(j+1)+1)∧∀q,i+1+(j+1)≤q→t.1[q]?=xs[q]?) (Ite.mk (fun e=>?_) (fun e=>?_)) (fun t h=>⟨by trivial,h⟩)
    ·have hab:¬a=b:=by simpa using e
     have hkl:kk<ys.length:=by omega
     refine⟨⟨by omega,by omega⟩,_,Qn rfl (List.getElem?_eq_getElem hkl),kk+1,rfl,by simpa using hyl,by omega,?_,fun q hq=>?_⟩
     ·show (ys.set kk a).take (kk+1)=_
      rw [List.take_add_one,List.take_set_of_le (Nat.le_refl _),htk,List.getElem?_set,if_pos rfl,if_pos hkl]
      have:=Q4m ha (.inr (by simp only [Nat.add_sub_cancel];rw [ha,hb];simpa using hab))
      rw [show i+1+(j+1)+1=i+1+j+1+1 by omega,this];rfl
     ·show (ys.set kk a)[q]?=_
      rw [List.getElem?_set_ne (by omega)];exact hsm q (by omega)
    ·have hab:a=b:=by simpa using e
     have:=Q4M (xs:=xs) (i:=i+1+j+1) (by omega) (by simp only [Nat.add_sub_cancel];rw [ha,hb,hab])
     exact⟨kk,rfl,hyl,by omega,by rw [show i+1+(j+1)+1=i+1+j+1+1 by omega,this];exact htk,fun q hq=>hsm q (by omega)⟩
   ·obtain⟨ys,kk',q⟩:=t
    obtain⟨rfl,kk,rfl,hyl,hkk,htk,hsm⟩:=hJ
    refine Ite.nlt (by show ¬((xs.length-(i+1)-1+1:Nat):Int)<_;omega) ⟨kk,rfl,hyl,by omega,?_⟩
    rw [show i+1+(xs.length-(i+1)-1)+1=xs.length by omega] at htk
    exact htk
   ·obtain⟨ys,kk'⟩:=t
    obtain⟨kk,rfl,hyl,hkk,htk⟩:=hJ
    replace hyl:ys.length=xs.length:=hyl
    replace htk:ys.take kk=cmI xs xs.length:=htk
    have hn3:Int.toNat ((ys.length:Int)-(kk:Int))=ys.length-kk:=by omega
    simp only [hn3,Int.toNat_natCast]
    refine⟨⟨by omega,by omega,by omega⟩,by omega,⟨by omega,by omega,?_⟩,?_⟩
    ·simp only [List.length_append,List.length_take,List.length_replicate,List.length_drop];omega
    ·have:sub (ys.take kk++(List.replicate (ys.length-kk) 0++ys.drop (kk+(ys.length-kk)))) 0 (kk:Int)=ys.take kk:=by
      simp only [sub,Int.toNat_natCast,Int.toNat_zero,List.drop_zero,Nat.sub_zero]
      rw [List.take_append_of_le_length (by simp;omega)]
      rw [List.take_of_length_le (by simp;omega)]
     rw [this,htk];exact hp
  ·have e':¬x=y:=by simpa using e
   show cmI xs (i+1+1)=xs.take (i+1+1)
   rw [Q4m hx (.inr (by simp only [Nat.add_sub_cancel];rw [hx,hx0];simpa using e')),List.take_add_one,hx,hI];rfl
 ·obtain⟨rfl,hI⟩:=hI
  refine Ite.nlt (by omega) ?_
  rw [show xs.length-1+1=xs.length by omega,List.take_length] at hI
  exact all hI
def hmS (st:ApiState) (gone:List Int):List (Int×Bool):=gone.foldl (fun m g=>if Kj st g=true then upd m g true else m) []
theorem WY {s:ApiSite} {st:ApiState} {homes gone:List Int} (hg:gone.length≤maxLen) {post:Qd→Prop} (hp:post {s:=s,st:=st,homes:=homes,home:=hmS st gone}):Kf s st homes gone post:=by
 unfold Kf
 refine Jn.mk (fun m=>m=hmS st gone) (Kg (xs:=gone) hg (fun t:List (Int×Bool)×Int=>t.2) (fun i t=>t.1=hmS st (gone.take i)) rfl rfl (fun i g t hx ht hI=>?_) (fun t h=>by rw [List.take_length] at h;exact h)) (fun m hm=>hm▸hp)
 rw [ht]
 refine WJ (Jn.mk (fun m=>m=hmS st (gone.take (i+1))) ?_ (fun m hm=>⟨rfl,hm⟩))
 unfold hmS at hI ⊢
 rw [Qz hx,List.foldl_append,←hI]
 refine Ite.mk (fun h=>?_) (fun h=>?_)
 ·show _=if Kj st g=true then _ else _
  rw [if_pos h]
 ·show _=if Kj st g=true then _ else _
  rw [if_neg (by rw [h];simp)]
theorem Q7F {st:ApiState} {gone:List Int} {i:Int}:(lk (hmS st gone) i).getD false=true↔i∈gone∧Kj st i=true:=by
 have:∀(gone:List Int) (m:List (Int×Bool)),(lk (gone.foldl (fun m g=>if Kj st g=true then upd m g true else m) m) i).getD false=true↔(lk m i).getD false=true∨i∈gone∧Kj st i=true:=by
  intro gone
  induction gone with
  | nil=>intro m;simp
  | cons g r ih=>
   intro m
   rw [List.foldl_cons,ih]
   by_cases hg:Kj st g=true
   ·rw [if_pos hg,Wb]
    by_cases e:g=i
    ·subst e;rw [if_pos rfl];simp [hg]
    ·rw [if_neg e]
     have:(i∈g :: r)↔i∈r:=by simp;intro h;exact absurd h.symm e
     rw [this]
   ·rw [if_neg hg]
    have:(i∈g :: r∧Kj st i=true)↔(i∈r∧Kj st i=true):=by
     constructor
     ·rintro⟨h1,h2⟩
      rcases List.mem_cons.1 h1 with e | e
      ·subst e;exact absurd h2 hg
      ·exact⟨e,h2⟩
     ·rintro⟨h1,h2⟩;exact⟨by simp [h1],h2⟩
    rw [this]
 have h:=this gone []
 unfold hmS;rw [h];simp [lk]
structure Q7r (s:ApiSite) (st:ApiState) (homes:List Int):Prop where
 r:Q1o s
 f12:Q3P st
 rst:RSt s st
 r6:st.Robots.length≤6
 hl:homes.length=st.Robots.length
end Go.Taq
/- The mathematics, part BD: all home, Safe, Check. -/
set_option linter.unusedVariables false
set_option linter.unusedSimpArgs false
namespace Go.Taq
open Go
theorem YD:∀(n:Nat) (o:List Int),o.Nodup→(∀x,x∈o→0≤x∧x<n)→o.length≤n
 | 0,o,_,h=>by
  cases o with
  | nil=>simp
  | cons x r=>have:=h x (by simp);omega
 | n+1,o,hn,h=>by
  by_cases hm:(n:Int)∈o
  ·have h1:=YD n (o.erase n) (hn.erase _) (fun x hx=>by
    have h2:=(hn.mem_erase_iff).1 hx
    have:=h x h2.2
    have:=h2.1
    omega)
   rw [List.length_erase_of_mem hm] at h1
   omega
  ·have:=YD n o hn (fun x hx=>by
    have:=h x hx
    have:x≠n:=fun e=>hm (e▸hx)
    omega)
   omega
def sitO (s:ApiSite) (st:ApiState) (homes o:List Int):Qd:={s:=s,st:=st,homes:=homes,home:=hmS st o}
section
variable {s:ApiSite} {st:ApiState} {homes:List Int}
theorem YO {o:List Int} {i:Int}:hB (sitO s st homes o) i=true↔i∈o∧Kj st i=true:=Q7F
theorem Q4G {o:List Int} {i:Int} (h:Kj st i=true):hmS st (o++[i])=upd (hmS st o) i true:=by
 unfold hmS;rw [List.foldl_append]
 show (if Kj st i=true then _ else _)=_
 rw [if_pos h]
theorem Yi {i:Int} (h:Kj st i=true):0≤i∧i<st.Robots.length:=by
 obtain⟨n,r,hn,hx,_⟩:=WD h
 have:=(List.getElem?_eq_some_iff.1 hx).1
 omega
def Stop (s:ApiSite) (st:ApiState) (homes o:List Int):Prop:=∀i:Int,¬Wy (sitO s st homes o) i
def Yg (s:ApiSite) (st:ApiState) (homes:List Int) (o:List Int):Prop:=∀p i q,o=p++i :: q→Wy (sitO s st homes p) i
def Fst1 (s:ApiSite) (st:ApiState) (homes:List Int) (o:List Int):Prop:=∀p i q,o=p++i :: q→∀j:Int,j<i→¬Wy (sitO s st homes p) j
theorem Q2b {α:Type} {o:List α} {a:α} {p q:List α} {i:α} (h:o++[a]=p++i :: q):(∃q',o=p++i :: q')∨(p=o∧i=a):=by
 rcases List.append_eq_append_iff.1 h with ⟨w,h1,h2⟩ | ⟨w,h1,h2⟩
 ·cases w with
  | nil=>simp at h1 h2;exact .inr ⟨h1,h2.1.symm⟩
  | cons b w=>simp at h2
 ·cases w with
  | nil=>simp at h1 h2;exact .inr ⟨h1.symm,h2.1⟩
  | cons b w=>
   simp at h2
   exact .inl ⟨w,by rw [h1,h2.1]⟩
theorem Yg.snoc {o:List Int} {i:Int} (h:Yg s st homes o) (hw:Wy (sitO s st homes o) i):Yg s st homes (o++[i]):=fun p j q e=>by
 rcases Q2b e with ⟨q',e⟩ | ⟨e1,e2⟩
 ·exact h p j q' e
 ·subst e1;subst e2;exact hw
theorem Fst1.snoc {o:List Int} {i:Int} (h:Fst1 s st homes o) (hw:∀j:Int,j<i→¬Wy (sitO s st homes o) j):Fst1 s st homes (o++[i]):=fun p j q e=>by
 rcases Q2b e with ⟨q',e⟩ | ⟨e1,e2⟩
 ·exact h p j q' e
 ·subst e1;subst e2;exact hw
theorem Yg.nodup:∀{o:List Int},Yg s st homes o→o.Nodup∧∀x,x∈o→Kj st x=true:=by
 intro o
 generalize hn:o.reverse=r
 induction r generalizing o with
 | nil=>intro h;have:o=[]:=by simpa using hn
        subst this;exact⟨.nil,fun x hx=>by cases hx⟩
 | cons a r ih=>
  intro h
  have ho:o=r.reverse++[a]:=by have:=congrArg List.reverse hn;simpa using this
  subst ho
  have h1:Yg s st homes r.reverse:=fun p i q e=>h p i (q++[a]) (by rw [e];simp)
  obtain⟨g1,g2⟩:=ih (by simp) h1
  have hw:=h r.reverse a [] rfl
  refine⟨List.nodup_append.2 ⟨g1,by simp,fun x hx y hy=>?_⟩,fun x hx=>?_⟩
  ·simp at hy;subst hy
   intro e;subst e
   have:=(YO (s:=s) (st:=st) (homes:=homes)).2 ⟨hx,hw.1⟩
   rw [hw.2.1] at this;cases this
  ·rcases List.mem_append.1 hx with h | h
   ·exact g2 x h
   ·simp at h;subst h;exact hw.1
theorem Q2i {x:Qd} (hz:Sz x.st) {post:Bool→Prop} (hT:(∀i:Int,Kj x.st i=true→hB x i=true)→post true) (hF:(∃i:Int,Kj x.st i=true∧hB x i=false)→post false):Km x post:=by
 have q2:=hz.rb
 unfold Km
 refine Jn.mk (fun _=>∀i:Int,Kj x.st i=true→hB x i=true) (Loop.inv x.st.Robots.length (fun i (t:Int)=>t=(i:Int)∧∀j:Int,j<i→Kj x.st j=true→hB x j=true) ⟨rfl,fun j h1 h2=>by have:=Yi h2;omega⟩ (fun i t hi hI=>?_) (fun t hI=>?_)) (fun _ h=>hT h)
 ·obtain⟨ht,hI⟩:=hI
  subst ht
  refine Ite.lt (by omega) (Jn.mk (fun b=>b=(Kj x.st i&&!hB x i)) (WJ (Ite.mk (fun h=>by rw [h];rfl) (fun h=>by rw [h];rfl))) (fun b hb=>Ite.mk (fun h=>?_) (fun h=>?_)))
  ·rw [h] at hb
   have:=hb.symm
   simp at this
   exact hF ⟨i,this⟩
  ·rw [h] at hb
   refine⟨by rw [QD (by omega) (by omega)];simp,fun j hj hl=>?_⟩
   by_cases e:j=i
   ·subst e;rw [hl] at hb;have:=hb.symm;simp at this;exact this
   ·exact hI j (by omega) hl
 ·obtain⟨ht,hI⟩:=hI
  exact Ite.nlt (by omega) fun i hl=>hI i (by have:=Yi hl;omega) hl
theorem Zz (hf:RF s.Floor) (hz:Sz st) (k:QM st) (hl:homes.length=st.Robots.length) {post:List Int×Bool→Prop}
  (hp:∀o b,Yg s st homes o→Fst1 s st homes o→Stop s st homes o→(b=true↔∀i:Int,Kj st i=true→i∈o)→post (o,b)):G0 s st homes post:=by
 have q2:=hz.rb
 unfold G0
 refine WY (by simp) (Jn.mk (fun t:List (Int×Bool)×List Int=>t.1=hmS st t.2∧Yg s st homes t.2∧Fst1 s st homes t.2∧Stop s st homes t.2) (Loop.mk (fun t:List (Int×Bool)×List Int×Int=>t.1=hmS st t.2.1∧Yg s st homes t.2.1∧Fst1 s st homes t.2.1∧0≤t.2.2∧t.2.2≤st.Robots.length∧∀j:Int,j<t.2.2→¬Wy (sitO s st homes t.2.1) j) (fun t=>(st.Robots.length-t.2.1.length)*2000+(st.Robots.length-t.2.2.toNat)) ?_ ?_) (fun t ht=>?_))
 ·exact⟨rfl,fun p i q e=>by simp at e,fun p i q e=>by simp at e,by show (0:Int)≤0;omega,by show (0:Int)≤_;omega,fun j hj hw=>by have:=Yi hw.1;have:j<(0:Int):=hj;omega⟩
 ·rintro⟨m,o,i⟩ ⟨hm,hc,hfi,h0,h1,hno⟩
  simp only at hm hc hfi h0 h1 hno
  refine Ite.mk (fun h=>?_) (fun h=>?_)
  ·have hlt:i<(st.Robots.length:Int):=by simpa using h
   obtain⟨hnd,hlv⟩:=hc.nodup
   have hol:=YD st.Robots.length o hnd (fun x hx=>Yi (hlv x hx))
   have ex:({s:=s,st:=st,homes:=homes,home:=m}:Qd)=sitO s st homes o:=by unfold sitO;rw [hm]
   show K1 {s:=s,st:=st,homes:=homes,home:=m} i _
   rw [ex]
   have no:¬Wy (sitO s st homes o) i→(((upd m i true,o++[i],(-1:Int)):List (Int×Bool)×List Int×Int)=((upd m i true,o++[i],(-1:Int)))):=fun _=>rfl
   refine Q0r (x:=sitO s st homes o) hf hz k hl (fun hw=>?_) (fun kk p hw _ _ hway=>?_)
   ·refine Jn.mk' (Ite.f (by simp) ?_)
    refine⟨⟨hm,hc,hfi,?_,?_,fun j hj=>?_⟩,?_⟩
    ·show 0≤w64 (i+1);rw [QD (by omega) (by omega)];omega
    ·show w64 (i+1)≤_;rw [QD (by omega) (by omega)];omega
    ·have hj':j<w64 (i+1):=hj
     rw [QD (by omega) (by omega)] at hj'
     by_cases e:j=i
     ·subst e;exact hw
     ·exact hno j (by omega)
    ·show (st.Robots.length-o.length)*2000+(st.Robots.length-(w64 (i+1)).toNat)<_
     rw [QD (by omega) (by omega)]
     show _<(st.Robots.length-o.length)*2000+(st.Robots.length-i.toNat)
     omega
   ·have hlen:=hway.len
    have hio:i∉o:=fun hmm=>by have:=(YO (s:=s) (st:=st) (homes:=homes)).2 ⟨hmm,hw.1⟩;rw [hw.2.1] at this;cases this
    have hc':=hc.snoc hw
    have hol':=YD st.Robots.length (o++[i]) hc'.nodup.1 (fun x hx=>Yi (hc'.nodup.2 x hx))
    simp only [List.length_append,List.length_singleton] at hol'
    refine Jn.mk' (Ite.t (by rw [hlen];exact decide_eq_true (by omega)) ⟨by simp;omega,?_⟩)
    have w0:w64 (-1+1)=0:=by decide
    refine⟨⟨?_,hc',hfi.snoc hno,?_,?_,fun j hj hwj=>?_⟩,?_⟩
    ·show upd m i true=hmS st (o++[i]);rw [Q4G (st:=st) hw.1,hm]
    ·show 0≤w64 (-1+1);rw [w0];decide
    ·show w64 (-1+1)≤_;rw [w0];omega
    ·have hj':j<w64 (-1+1):=hj
     rw [w0] at hj'
     have:=Yi hwj.1;omega
    ·show (st.Robots.length-(o++[i]).length)*2000+(st.Robots.length-(w64 (-1+1)).toNat)<(st.Robots.length-o.length)*2000+(st.Robots.length-i.toNat)
     rw [w0,List.length_append,List.length_singleton]
     have:st.Robots.length-o.length=(st.Robots.length-(o.length+1))+1:=by omega
     rw [this,Nat.add_mul]
     show _+(st.Robots.length-0)<_
     omega
  ·have hnl:¬i<(st.Robots.length:Int):=by simpa using h
   exact⟨hm,hc,hfi,fun j hw=>hno j (by have:0≤j∧j<(st.Robots.length:Int):=Yi hw.1;show j<i;omega) hw⟩
 ·obtain⟨m,o⟩:=t
  obtain⟨hm,hc,hfi,hs⟩:=ht
  simp only at hm hc hfi hs
  subst hm
  refine Q2i (x:={s:=s,st:=st,homes:=homes,home:=hmS st o}) hz (fun h=>hp o true hc hfi hs ⟨fun _ i hi=>(YO (s:=s) (homes:=homes).1 (h i hi)).1,fun _=>rfl⟩) (fun ⟨i,h1,h2⟩=>hp o false hc hfi hs ⟨fun h=>(by cases h),fun h=>?_⟩)
  have:=(YO (s:=s) (st:=st) (homes:=homes) (o:=o) (i:=i)).2 ⟨h i h1,h1⟩
  have h2':hB (sitO s st homes o) i=false:=h2
  rw [this] at h2';cases h2'
end
end Go.Taq
/- The mathematics, part BE: Way; BankGrows but for the examples. -/
set_option linter.unusedVariables false
set_option linter.unusedSimpArgs false
namespace Go.Taq
open Go
section
variable {s:ApiSite} {st:ApiState} {homes:List Int}
theorem Q1V (hf:RF s.Floor) (hz:Sz st) (k:QM st) (hl:homes.length=st.Robots.length) {gone:List Int} (hg:gone.length≤maxLen) {i:Int} {post:List Int→Prop} (hn:¬Wy (sitO s st homes gone) i→post [])
  (hy:∀(k:Nat) p,Wy (sitO s st homes gone) i→(∀j,PB s.Floor (homes.getD i.toNat 0) (avL (sitO s st homes gone) i) j (rAt st i).Cell→k≤j)→WayL s.Floor (avL (sitO s st homes gone) i) (rAt st i).Cell (homes.getD i.toNat 0) k p→post p):Wl s st homes gone i post:=by
 unfold Wl
 exact WY hg (Q0r (x:=sitO s st homes gone) hf hz k hl hn (fun k p h1 _ h3 h4=>hy k p h1 h3 h4))
theorem Q6N {o o':List Int} (h:∀j:Int,hB (sitO s st homes o) j=true→hB (sitO s st homes o') j=true) {i c:Int} (hc:c∈avL (sitO s st homes o') i):c∈avL (sitO s st homes o) i:=by
 have hF:∀j:Nat,c∈avF (sitO s st homes o') i j→c∈avF (sitO s st homes o) i j:=fun j hj=>by
  unfold avF at hj ⊢
  by_cases e:(j:Int)=i
  ·rw [if_pos e] at hj;cases hj
  ·rw [if_neg e] at hj ⊢
   by_cases h2:hB (sitO s st homes o) j=true
   ·rw [if_pos (h _ h2)] at hj;rw [if_pos h2];exact hj
   ·rw [if_neg h2]
    by_cases h3:hB (sitO s st homes o') j=true
    ·rw [if_pos h3] at hj
     rcases List.mem_cons.1 hj with e | e
     ·exact e▸List.mem_cons_self ..
     ·cases e
    ·rw [if_neg h3] at hj;exact hj
 unfold avL at hc ⊢
 rw [List.mem_filter] at hc ⊢
 refine⟨?_,hc.2⟩
 have h1:=hc.1
 rcases List.mem_append.1 h1 with h1 | h1
 ·refine List.mem_append_left _ ?_
  rcases List.mem_append.1 h1 with h1 | h1
  ·exact List.mem_append_left _ h1
  ·refine List.mem_append_right _ ?_
   obtain⟨j,hj,hcj⟩:=List.mem_flatMap.1 h1
   exact List.mem_flatMap.2 ⟨j,hj,hF j hcj⟩
 ·exact List.mem_append_right _ h1
theorem Q88 {o o':List Int} (h:∀j:Int,hB (sitO s st homes o) j=true→hB (sitO s st homes o') j=true) {i:Int} (hw:Wy (sitO s st homes o) i) (hi:hB (sitO s st homes o') i=false):Wy (sitO s st homes o') i:=by
 obtain⟨h1,_,k,hk⟩:=hw
 exact⟨h1,hi,k,hk.mono (fun x hx=>Q6N h hx)⟩
theorem Q9p {o:List Int} {i c:Int} (hc:c∉avL (sitO s st homes o) i) (hne:c≠(rAt st i).Cell):c∉st.Dead∧c∉st.People∧∀j:Nat,j<st.Robots.length→c∉avF (sitO s st homes o) i j:=by
 have key:c∉((st.Dead++st.People++(List.range st.Robots.length).flatMap (avF (sitO s st homes o) i))++(if (rAt st i).Load≥0 then (List.range st.Shelves.length).flatMap (avS (sitO s st homes o)) else [])):=fun hm=>hc (by
  unfold avL
  exact List.mem_filter.2 ⟨hm,by show (!(c == (rAt st i).Cell))=true;simpa using hne⟩)
 refine⟨fun h=>key (by simp [h]),fun h=>key (by simp [h]),fun j hj h=>key (List.mem_append_left _ (List.mem_append_right _ (List.mem_flatMap.2 ⟨j,List.mem_range.2 hj,h⟩)))⟩
end
end Go.Taq
