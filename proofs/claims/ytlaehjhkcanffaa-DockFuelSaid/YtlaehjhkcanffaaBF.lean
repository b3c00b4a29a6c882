/- The mathematics, several parts in one text. -/
import Derived.Test.YtlaehjhkcanffaaMZ
import Derived.Test.YtlaehjhkcanffaaAR
/- The mathematics, part BA: floor.Back, floor.Path. -/
set_option linter.unusedVariables false
set_option linter.unusedSimpArgs false
namespace Go.Taq
open Go
def opp (d:Int):Int:=if d=0 then 2 else if d=1 then 3 else if d=2 then 0 else if d=3 then 1 else if d=4 then 5 else if d=5 then 4 else -1
def bk (f:ApiFloor) (c d:Int):Int×Bool:=
 if nbr f c (opp d)<0 then (0,false) else if (nx f (nbr f c (opp d)) d).2=false then (0,false) else (nbr f c (opp d),true)
section
variable {f:ApiFloor}
def PB (f:ApiFloor) (b:Int) (l:List Int) (k:Nat) (c:Int):Prop:=Pth f (bk f) [b] l k c
def Dm (f:ApiFloor) (b:Int) (l:List Int) (m:Nat) (c:Int):Prop:=PB f b l m c∧∀i,PB f b l i c→m≤i
structure WayL (f:ApiFloor) (l:List Int) (a b:Int) (k:Nat) (p:List Int):Prop where
 len:p.length=k+1
 hd:p[0]?=some a
 lst:p[k]?=some b
 st:∀j,j<k→∃(x y d:Int),p[j]?=some x∧p[j+1]?=some y∧0≤d∧d<6∧nx f x d=(y,true)
 ok:∀x,x∈p→okc f l x
 pb:∀(j:Nat) x,p[j]?=some x→PB f b l (k-j) x
 kb:k<f.Kind.length
 ft:∀j,j<k→∃(x y d:Int),p[j]?=some x∧p[j+1]?=some y∧0≤d∧d<6∧nx f x d=(y,true)∧Dm f b l (k-(j+1)) y∧∀d',0≤d'→d'<d→¬((nx f x d').2=true∧Dm f b l (k-(j+1)) (nx f x d').1)
theorem PB.mono {b:Int} {l l':List Int} (h:∀x,x∈l'→x∈l):∀{k:Nat} {c:Int},PB f b l k c→PB f b l' k c
 | 0,c,⟨h1,h2,h3,h4⟩=>⟨h1,h2,h3,fun hm=>h4 (h _ hm)⟩
 | k+1,c,⟨p,d,h0,h1,h2,h3,h4,h5,h6⟩=>⟨p,d,PB.mono h h0,h1,h2,h3,h4,h5,fun hm=>h6 (h _ hm)⟩
theorem PB.congr {b:Int} {l l':List Int} (h:∀c,c∈l↔c∈l') {k:Nat} {c:Int}:PB f b l k c↔PB f b l' k c:=⟨fun g=>g.mono fun x hx=>(h x).2 hx,fun g=>g.mono fun x hx=>(h x).1 hx⟩
theorem Dm.congr {b:Int} {l l':List Int} (h:∀c,c∈l↔c∈l') {k:Nat} {c:Int}:Dm f b l k c↔Dm f b l' k c:=by
 unfold Dm;rw [PB.congr h]
 exact⟨fun g=>⟨g.1,fun i hi=>g.2 i ((PB.congr h).2 hi)⟩,fun g=>⟨g.1,fun i hi=>g.2 i ((PB.congr h).1 hi)⟩⟩
theorem WayL.uniq {a b:Int} {l l':List Int} {k:Nat} {p p':List Int} (h:WayL f l a b k p) (h':WayL f l' a b k p') (hm:∀c,c∈l↔c∈l'):p=p':=by
 have key:∀j,j≤k→p[j]?=p'[j]?:=by
  intro j
  induction j with
  | zero=>intro _;rw [h.hd,h'.hd]
  | succ j ih=>
   intro hj
   obtain⟨x,y,d,g1,g2,g3,g4,g5,g6,g7⟩:=h.ft j (by omega)
   obtain⟨x',y',d',q1,q2,q3,q4,q5,q6,q7⟩:=h'.ft j (by omega)
   have e:=ih (by omega)
   rw [g1,q1] at e
   cases e
   have hd:d=d':=by
    rcases Int.lt_trichotomy d d' with hlt | he | hlt
    ·exact absurd ⟨by rw [g5],by rw [g5];exact (Dm.congr hm).1 g6⟩ (q7 d g3 hlt)
    ·exact he
    ·exact absurd ⟨by rw [q5],by rw [q5];exact (Dm.congr hm).2 q6⟩ (g7 d' q3 hlt)
   subst hd
   rw [g5] at q5
   rw [g2,q2]
   exact congrArg some (congrArg Prod.fst q5)
 apply List.ext_getElem?
 intro j
 by_cases hj:j≤k
 ·exact key j hj
 ·rw [List.getElem?_eq_none (by rw [h.len];omega),List.getElem?_eq_none (by rw [h'.len];omega)]
end
end Go.Taq
/- The mathematics, part BB: ways home (bank.Way). -/
set_option linter.unusedVariables false
set_option linter.unusedSimpArgs false
namespace Go.Taq
open Go
end Go.Taq
/- The mathematics, part BC: region.Of, right homes, who is home, the bounds of the statements of chapter 21. -/
set_option linter.unusedVariables false
set_option linter.unusedSimpArgs false
namespace Go.Taq
open Go
theorem Q2p {x:Int} (h1:-1000000≤x) (h2:x≤1000000000):w64 x=x:=Qn (by omega) (by omega)
theorem Q1J {n:Nat} (h:n≤1000000000):w64 ((n:Int)+1)=((n+1:Nat):Int):=by rw [Qn (by omega) (by omega)];simp
def cmI {α:Type} [DecidableEq α] (xs:List α):Nat→List α
 | 0=>[]
 | i+1=>cmI xs i++(if i=0∨xs[i]?≠xs[i-1]? then xs[i]?.toList else [])
section
variable {α:Type} [DecidableEq α] {xs:List α}
theorem Q0Q:∀i,(cmI xs i).length≤i
 | 0=>by simp [cmI]
 | i+1=>by
  have:=Q0Q i
  unfold cmI
  rw [List.length_append]
  split
  ·cases xs[i]? <;> simp <;> omega
  ·simp;omega
theorem ZN:∀i,i≤xs.length→∀s,s∈cmI xs i↔s∈xs.take i
 | 0,_,s=>by simp [cmI]
 | i+1,h,s=>by
  have ih:=ZN i (by omega) s
  have hx:xs[i]?=some (xs[i]'(by omega)):=List.getElem?_eq_getElem (by omega)
  unfold cmI
  rw [List.take_add_one,List.mem_append,List.mem_append,ih]
  by_cases c:i=0∨xs[i]?≠xs[i-1]?
  ·rw [if_pos c]
  ·rw [if_neg c]
   have c1:i≠0:=fun e=>c (.inl e)
   have c2:xs[i]?=xs[i-1]?:=Classical.byContradiction fun e=>c (.inr e)
   constructor
   ·rintro (h | h)
    ·exact .inl h
    ·simp at h
   ·rintro (h | h)
    ·exact .inl h
    ·refine .inl ?_
     rw [c2] at h
     have:(xs.take i)[i-1]?=xs[i-1]?:=List.getElem?_take_of_lt (by omega)
     rw [←this] at h
     exact List.mem_of_getElem? (Option.mem_toList.1 h)
theorem Q1A {lt:α→α→Prop} (ht:∀x y z,(lt x y∨x=y)→lt y z→lt x z) (hs:xs.Pairwise (fun x y=>lt x y∨x=y)):∀i,i≤xs.length→(cmI xs i).Pairwise lt
 | 0,_=>by simp [cmI]
 | i+1,h=>by
  have ih:=Q1A ht hs i (by omega)
  unfold cmI
  by_cases c:i=0∨xs[i]?≠xs[i-1]?
  ·rw [if_pos c,List.pairwise_append]
   have hx:xs[i]?=some (xs[i]'(by omega)):=List.getElem?_eq_getElem (by omega)
   rw [hx]
   refine⟨ih,by simp,fun a ha b hb=>?_⟩
   simp at hb;subst hb
   rw [ZN i (by omega)] at ha
   rcases c with c | c
   ·subst c;simp at ha
   ·obtain⟨j,hj⟩:=List.getElem?_of_mem ha
    have hji:j<i:=by have:=(List.getElem?_eq_some_iff.1 hj).1;simp at this;omega
    rw [List.getElem?_take_of_lt hji] at hj
    have hg:=List.pairwise_iff_getElem.1 hs
    obtain⟨hjl,hje⟩:=List.getElem?_eq_some_iff.1 hj
    have hx1:xs[i-1]?=some (xs[i-1]'(by omega)):=List.getElem?_eq_getElem (by omega)
    have h1:lt (xs[i-1]'(by omega)) (xs[i]'(by omega)):=by
     rcases hg (i-1) i (by omega) (by omega) (by omega) with e | e
     ·exact e
     ·exact absurd (by rw [hx,hx1,e]) c
    subst hje
    by_cases e:j=i-1
    ·subst e;exact h1
    ·exact ht _ _ _ (hg j (i-1) (by omega) (by omega) (by omega)) h1
  ·rw [if_neg c];simpa using ih
theorem Q0b {i:Nat} (h:1≤i) (e:xs[i]?=xs[i-1]?):cmI xs (i+1)=cmI xs i:=by
 rw [cmI,if_neg (by intro h;rcases h with h | h;omega;exact h e)];simp
theorem ZY {i:Nat} {x:α} (h:xs[i]?=some x) (e:i=0∨xs[i]?≠xs[i-1]?):cmI xs (i+1)=cmI xs i++[x]:=by
 rw [cmI,if_pos e,h];rfl
end
theorem S_CompactI {xs:List Int} (hl:xs.length≤1000000) {post:List Int→Prop} (hp:post (cmI xs xs.length)):V_slices_Compact_int_int__o0 xs post:=by
 unfold V_slices_Compact_int_int__o0
 refine Ite.mk (fun h=>?_) (fun h=>?_)
 ·have h':(xs.length:Int)<2:=of_decide_eq_true h
  have:cmI xs xs.length=xs:=by
   match xs,h' with
   | [],_=>rfl
   | [x],_=>rfl
   | _ :: _ :: _,h'=>simp at h';omega
  rw [this] at hp;exact hp
 have h':¬(xs.length:Int)<2:=of_decide_eq_false h
 have all:cmI xs xs.length=xs→post xs:=fun e=>by rw [e] at hp;exact hp
 refine Jn.mk (fun _=>post xs) (Loop.inv (xs.length-1) (fun i (s:Int)=>s=((i+1:Nat):Int)∧cmI xs (i+1)=xs.take (i+1)) ⟨rfl,?_⟩ (fun i s hi hI=>?_) (fun s hI=>?_)) (fun _ h=>h)
 ·have hx:xs[0]?=some (xs[0]'(by omega)):=List.getElem?_eq_getElem (by omega)
  rw [ZY hx (.inl rfl),List.take_add_one,hx];rfl
 ·obtain⟨rfl,hI⟩:=hI
  have hx:xs[i+1]?=some (xs[i+1]'(by omega)):=List.getElem?_eq_getElem (by omega)
  have hx0:xs[i]?=some (xs[i]'(by omega)):=List.getElem?_eq_getElem (by omega)
  generalize hxv:xs[i+1]'(by omega)=x at hx
  generalize hyv:xs[i]'(by omega)=y at hx0
  have w1:w64 (((i+1:Nat):Int)-1)=(i:Int):=by rw [Q2p (by omega) (by omega)];simp
  refine Ite.lt (by omega) (Jn.mk (fun _=>cmI xs (i+2)=xs.take (i+2)) ⟨x,QM rfl hx,y,QM w1 hx0,Ite.mk (fun e=>?_) (fun e=>?_)⟩ (fun _ e=>⟨Q1J (by omega),e⟩))
  ·have e':x=y:=by simpa using e
   have hsame:cmI xs (i+1+1)=cmI xs (i+1):=Q0b (by omega) (by simp only [Nat.add_sub_cancel];rw [hx,hx0,e'])
   have hn2:Int.toNat ((xs.length:Int)-((i+1:Nat):Int))=xs.length-(i+1):=by omega
   simp only [hn2,Int.toNat_natCast]
   refine⟨⟨by omega,by omega,by omega⟩,Jn.mk (fun (t:List Int×Int)=>∃kk:Nat,t.2=(kk:Int)∧t.1.length=xs.length∧kk≤xs.length∧t.1.take kk=cmI xs xs.length)
    (Loop.inv (xs.length-(i+1)-1) (fun j (t:List Int×Int×Int)=>t.2.2=((j+1:Nat):Int)∧∃kk:Nat,t.2.1=(kk:Int)∧t.1.length=xs.length∧kk≤i+1+j∧t.1.take kk=cmI xs (i+1+j+1)∧∀q,i+1+j≤q→t.1[q]?=xs[q]?)
     ⟨rfl,i+1,rfl,rfl,by omega,by rw [Nat.add_zero,hsame,hI],fun q _=>rfl⟩ (fun j t hj hJ=>?_) (fun t hJ=>?_)) (fun t hJ=>?_)⟩
   ·obtain⟨ys,kk',q⟩:=t
    obtain⟨rfl,kk,rfl,hyl,hkk,htk,hsm⟩:=hJ
    replace hyl:ys.length=xs.length:=hyl
    replace htk:ys.take kk=cmI xs (i+1+j+1):=htk
    replace hsm:∀q,i+1+j≤q→ys[q]?=xs[q]?:=hsm
    have wj:w64 (((j+1:Nat):Int)-1)=(j:Int):=by rw [Q2p (by omega) (by omega)];simp
    have wj1:w64 (((j+1:Nat):Int)+1)=((j+1+1:Nat):Int):=Q1J (by omega)
    have wk1:w64 ((kk:Int)+1)=((kk+1:Nat):Int):=Q1J (by omega)
    have ha:xs[i+1+j+1]?=some (xs[i+1+j+1]'(by omega)):=List.getElem?_eq_getElem (by omega)
    have hb:xs[i+1+j]?=some (xs[i+1+j]'(by omega)):=List.getElem?_eq_getElem (by omega)
    generalize xs[i+1+j+1]'(by omega)=a at ha
    generalize xs[i+1+j]'(by omega)=b at hb
    refine Ite.lt (by show ((j+1:Nat):Int)<_;omega) ?_
    simp only [wj,wj1,wk1,Int.toNat_natCast]
    refine⟨⟨by omega,by omega⟩,a,by rw [show i+1+(j+1)=i+1+j+1 by omega,hsm _ (by omega)];exact ha,⟨by omega,by omega⟩,b,by rw [hsm _ (by omega)];exact hb,?_⟩
    refine Jn.mk (fun (t:List Int×Int)=>∃kk:Nat,t.2=(kk:Int)∧t.1.length=xs.length∧kk≤i+1+(j+1)∧t.1.take kk=cmI xs (i+1+(j+1)+1)∧∀q,i+1+(j+1)≤q→t.1[q]?=xs[q]?) (Ite.mk (fun e=>?_) (fun e=>?_)) (fun t h=>⟨by trivial,h⟩)
    ·have hab:¬a=b:=by simpa using e
     have hkl:kk<ys.length:=by omega
     refine⟨⟨by omega,by omega⟩,_,QM rfl (List.getElem?_eq_getElem hkl),kk+1,rfl,by simpa using hyl,by omega,?_,fun q hq=>?_⟩
     ·show (ys.set kk a).take (kk+1)=_
      rw [List.take_add_one,List.take_set_of_le (Nat.le_refl _),htk,List.getElem?_set,if_pos rfl,if_pos hkl]
      have:=ZY ha (.inr (by simp only [Nat.add_sub_cancel];rw [ha,hb];simpa using hab))
      rw [show i+1+(j+1)+1=i+1+j+1+1 by omega,this];rfl
     ·show (ys.set kk a)[q]?=_
      rw [List.getElem?_set_ne (by omega)];exact hsm q (by omega)
    ·have hab:a=b:=by simpa using e
     have:=Q0b (xs:=xs) (i:=i+1+j+1) (by omega) (by simp only [Nat.add_sub_cancel];rw [ha,hb,hab])
     exact⟨kk,rfl,hyl,by omega,by rw [show i+1+(j+1)+1=i+1+j+1+1 by omega,this];exact htk,fun q hq=>hsm q (by omega)⟩
   ·obtain⟨ys,kk',q⟩:=t
    obtain⟨rfl,kk,rfl,hyl,hkk,htk,hsm⟩:=hJ
    refine Ite.nlt (by show ¬((xs.length-(i+1)-1+1:Nat):Int)<_;omega) ⟨kk,rfl,hyl,by omega,?_⟩
    rw [show i+1+(xs.length-(i+1)-1)+1=xs.length by omega] at htk
    exact htk
   ·obtain⟨ys,kk'⟩:=t
    obtain⟨kk,rfl,hyl,hkk,htk⟩:=hJ
    replace hyl:ys.length=xs.length:=hyl
    replace htk:ys.take kk=cmI xs xs.length:=htk
    have hn3:Int.toNat ((ys.length:Int)-(kk:Int))=ys.length-kk:=by omega
    simp only [hn3,Int.toNat_natCast]
    refine⟨⟨by omega,by omega,by omega⟩,by omega,⟨by omega,by omega,?_⟩,?_⟩
    ·simp only [List.length_append,List.length_take,List.length_replicate,List.length_drop];omega
    ·have:sub (ys.take kk++(List.replicate (ys.length-kk) 0++ys.drop (kk+(ys.length-kk)))) 0 (kk:Int)=ys.take kk:=by
      simp only [sub,Int.toNat_natCast,Int.toNat_zero,List.drop_zero,Nat.sub_zero]
      rw [List.take_append_of_le_length (by simp;omega)]
      rw [List.take_of_length_le (by simp;omega)]
     rw [this,htk];exact hp
  ·have e':¬x=y:=by simpa using e
   show cmI xs (i+1+1)=xs.take (i+1+1)
   rw [ZY hx (.inr (by simp only [Nat.add_sub_cancel];rw [hx,hx0];simpa using e')),List.take_add_one,hx,hI];rfl
 ·obtain⟨rfl,hI⟩:=hI
  refine Ite.nlt (by omega) ?_
  rw [show xs.length-1+1=xs.length by omega,List.take_length] at hI
  exact all hI
end Go.Taq
/- The mathematics, part BD: all home, Safe, Check. -/
set_option linter.unusedVariables false
set_option linter.unusedSimpArgs false
namespace Go.Taq
open Go
theorem Yb:∀(n:Nat) (o:List Int),o.Nodup→(∀x,x∈o→0≤x∧x<n)→o.length≤n
 | 0,o,_,h=>by
  cases o with
  | nil=>simp
  | cons x r=>have:=h x (by simp);omega
 | n+1,o,hn,h=>by
  by_cases hm:(n:Int)∈o
  ·have h1:=Yb n (o.erase n) (hn.erase _) (fun x hx=>by
    have h2:=(hn.mem_erase_iff).1 hx
    have:=h x h2.2
    have:=h2.1
    omega)
   rw [List.length_erase_of_mem hm] at h1
   omega
  ·have:=Yb n o hn (fun x hx=>by
    have:=h x hx
    have:x≠n:=fun e=>hm (e▸hx)
    omega)
   omega
section
end
end Go.Taq
/- The mathematics, part BE: Way; BankGrows but for the examples. -/
set_option linter.unusedVariables false
set_option linter.unusedSimpArgs false
namespace Go.Taq
open Go
section
end
end Go.Taq
/- The mathematics, part BF: Check; the examples of chapter 21; BankGrows. -/
set_option linter.unusedVariables false
set_option linter.unusedSimpArgs false
namespace Go.Taq
open Go
section
end
end Go.Taq
