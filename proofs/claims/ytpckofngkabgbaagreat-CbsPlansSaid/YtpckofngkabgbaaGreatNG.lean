/- The mathematics, several parts in one text. -/
import Derived.Test.YtpckofngkabgbaaGreatLibZR
import Derived.Test.YtpckofngkabgbaaGreatBA
/- The mathematics, part QA: loops whose state has a counter and more; ranges over lists; lists of places. -/
set_option linter.unusedVariables false
set_option linter.unusedSimpArgs false
namespace Go.Taq
open Go
theorem GJ {α τ:Type} {xs:List α} (hm:xs.length≤maxLen) (ix:τ→Int) (I:Nat→τ→Prop) {t0:τ} (hi0:ix t0=0) (h0:I 0 t0) {R:α→τ→(τ→Prop)→Prop} {E:τ→Prop}
  (hs:∀(i:Nat) x t,xs[i]?=some x→ix t=(i:Int)→I i t→R x t (fun t'=>ix t'=w64 ((i:Int)+1)∧I (i+1) t'))
  (he:∀t,I xs.length t→E t):
  Loop (fun t Y=>Ite (decide (ix t<(xs.length:Int))) (∃x,idx xs (ix t)=some x∧R x t Y) (E t)) t0:=by
 refine Loop.inv xs.length (fun i t=>ix t=(i:Int)∧I i t) ⟨by simpa using hi0,h0⟩ (fun i t hi h=>?_) (fun t h=>?_)
 ·have hx:xs[i]?=some (xs[i]'hi):=List.getElem?_eq_getElem hi
  refine Ite.lt (by omega) ⟨_,by rw [h.1];exact Qo rfl hx,?_⟩
  have:=hs i _ t hx h.1 h.2
  rw [WK hi hm] at this;exact this
 ·exact Ite.nlt (by omega) (he t h.2)
theorem Q4Y {α τ:Type} {xs:List α} (hm:xs.length≤maxLen) (ix:τ→Int) (I:Nat→τ→Prop) {t0:τ} (hi0:ix t0=0) (h0:I 0 t0) {R:τ→(τ→Prop)→Prop} {E:τ→Prop}
  (hs:∀(i:Nat) x t,xs[i]?=some x→ix t=(i:Int)→I i t→R t (fun t'=>ix t'=w64 ((i:Int)+1)∧I (i+1) t'))
  (he:∀t,I xs.length t→E t):
  Loop (fun t Y=>Ite (decide (ix t<(xs.length:Int))) (R t Y) (E t)) t0:=by
 refine Loop.inv xs.length (fun i t=>ix t=(i:Int)∧I i t) ⟨by simpa using hi0,h0⟩ (fun i t hi h=>?_) (fun t h=>?_)
 ·have hx:xs[i]?=some (xs[i]'hi):=List.getElem?_eq_getElem hi
  refine Ite.lt (by omega) ?_
  have:=hs i _ t hx h.1 h.2
  rw [WK hi hm] at this;exact this
 ·exact Ite.nlt (by omega) (he t h.2)
theorem GA {α:Type} (p:α→Bool) (xs:List α):(∃(i:Nat) (x:α),xs[i]?=some x∧fidx p xs=i∧p x=true∧∀(j:Nat) (y:α),j<i→xs[j]?=some y→p y=false)∨(fidx p xs=-1∧∀x,x∈xs→p x=false):=by
 unfold fidx
 cases h:xs.findIdx? p with
 | none=>
  refine .inr ⟨rfl,fun x hx=>?_⟩
  rw [List.findIdx?_eq_none_iff] at h;exact h x hx
 | some i=>
  obtain⟨hlt,hp,hb⟩:=List.findIdx?_eq_some_iff_getElem.1 h
  refine .inl ⟨i,xs[i],List.getElem?_eq_getElem hlt,rfl,hp,fun j y hj hy=>?_⟩
  have:=hb j hj
  have hyj:=(List.getElem?_eq_some_iff.1 hy).2
  rw [←hyj];simpa using this
theorem Xa {α:Type} {xs:List α} {i:Nat} {x:α} (h:xs[i]?=some x):xs.take (i+1)=xs.take i++[x]:=by
 rw [List.take_add_one,h];rfl
theorem Q3d {α:Type} {xs:List α} (hm:xs.length≤maxLen) (z0:α) (p:α→Bool) {T:α→(Bool→Prop)→Prop} (hT:∀x,x∈xs→∀{q:Bool→Prop},q (p x)→T x q) {post:List α→Prop} (hp:post (xs.filter fun x=>!p x)):
  Ite (fidx p xs == (-1)) (post xs) (Jn (fun (J:(List α×Int)→Prop)=>Loop (fun (s:List α×Int×Int) Y=>Ite (decide (s.2.2<(s.1.length:Int)))
   (∃x,idx s.1 s.2.2=some x∧T x (fun b=>Jn (fun (J27:(List α×Int)→Prop)=>Ite (!b) (∃y,idx s.1 s.2.1=some y∧J27 ((s.1.set (Int.toNat s.2.1) x),w64 (s.2.1+1))) (J27 (s.1,s.2.1))) (fun (x26:List α×Int)=>Y (x26.1,x26.2,w64 (s.2.2+1)))))
   (J (s.1,s.2.1))) (xs,fidx p xs,w64 (fidx p xs+1)))
   (fun (x:List α×Int)=>(0≤x.2∧x.2≤(x.1.length:Int)∧(x.1.length:Int)≤(x.1.length:Int))∧((Int.toNat x.2)+(Int.toNat ((x.1.length:Int)-x.2))≤x.1.length) ∧
    (0≤(0:Int)∧(0:Int)≤x.2∧x.2≤((x.1.take (Int.toNat x.2)++(List.replicate (Int.toNat ((x.1.length:Int)-x.2)) z0++x.1.drop ((Int.toNat x.2)+(Int.toNat ((x.1.length:Int)-x.2))))).length:Int)) ∧
    post (sub (x.1.take (Int.toNat x.2)++(List.replicate (Int.toNat ((x.1.length:Int)-x.2)) z0++x.1.drop ((Int.toNat x.2)+(Int.toNat ((x.1.length:Int)-x.2))))) 0 x.2))):=by
 rcases GA p xs with ⟨i0,x0,hx0,e,hp0,hb0⟩ | ⟨e,hb⟩
 ·rw [e]
  have hi0:=(List.getElem?_eq_some_iff.1 hx0).1
  refine Ite.f (beq_eq_false_iff_ne.2 (by omega)) ?_
  rw [WK hi0 hm]
  have hfirst:(xs.take (i0+1)).filter (fun x=>!p x)=xs.take i0:=by
   rw [Xa hx0,List.filter_append]
   have h1:(xs.take i0).filter (fun x=>!p x)=xs.take i0:=by
    rw [List.filter_eq_self]
    intro y hy
    obtain⟨j,hj⟩:=List.getElem?_of_mem hy
    have hlt:j<i0:=by have:=(List.getElem?_eq_some_iff.1 hj).1;simp at this;omega
    rw [List.getElem?_take,if_pos hlt] at hj
    simp [hb0 j y hlt hj]
   rw [h1];simp [List.filter_cons,hp0]
  refine Jn.mk (fun x:List α×Int=>x.1.length=xs.length∧∃i:Nat,x.2=(i:Int)∧i≤xs.length∧x.1.take i=xs.filter fun x=>!p x)
   (Loop.mk (fun t:List α×Int×Int=>t.1.length=xs.length∧∃i j:Nat,t.2.1=(i:Int)∧t.2.2=(j:Int)∧i<j∧j≤xs.length∧t.1.take i=(xs.take j).filter (fun x=>!p x)∧∀q,j≤q→t.1[q]?=xs[q]?) (fun t=>xs.length-t.2.2.toNat) ⟨rfl,i0,i0+1,rfl,rfl,by omega,by omega,hfirst.symm,fun _ _=>rfl⟩ ?_) ?_
  ·rintro⟨l,ti,tj⟩ ⟨hl,i,j,h1,h2,hij,hj,htk,hrest⟩
   simp only at hl h1 h2 htk hrest
   subst h1;subst h2
   refine Ite.mk (fun h=>?_) (fun h=>?_)
   ·simp [hl] at h
    have hx:xs[j]?=some (xs[j]'h):=List.getElem?_eq_getElem h
    refine⟨xs[j]'h,by rw [Q3e,hrest j (Nat.le_refl _),hx],hT _ (List.getElem_mem h) ?_⟩
    have hli:l[i]?=some (l[i]'(by omega)):=List.getElem?_eq_getElem (by omega)
    refine Jn.mk (fun x:List α×Int=>x.1.length=xs.length∧∃i':Nat,x.2=(i':Int)∧i'<j+1∧x.1.take i'=(xs.take (j+1)).filter (fun x=>!p x)∧∀q,j+1≤q→x.1[q]?=xs[q]?) (Ite.mk (fun hd=>⟨l[i]'(by omega),Qo rfl hli,?_⟩) (fun hd=>?_)) ?_
    ·refine⟨by simp [hl],i+1,by simp only;rw [WK (by omega:i<xs.length) hm],by omega,?_,fun q hq=>?_⟩
     ·have:(i:Int).toNat=i:=by omega
      simp only [this]
      rw [Xa hx,List.filter_append,←htk]
      have hs:(l.set i (xs[j]'h))[i]?=some (xs[j]'h):=by rw [List.getElem?_set_self (by omega)]
      rw [Xa hs,List.take_set_of_le (Nat.le_refl _)]
      simp [List.filter_cons,hd]
     ·have:(i:Int).toNat=i:=by omega
      simp only [this]
      rw [List.getElem?_set_ne (by omega)]
      exact hrest q (by omega)
    ·refine⟨hl,i,rfl,by omega,?_,fun q hq=>hrest q (by omega)⟩
     simp only
     rw [Xa hx,List.filter_append,←htk]
     simp at hd
     simp [List.filter_cons,hd]
    ·rintro⟨l',ti'⟩ ⟨hl',i',h1',hij',htk',hrest'⟩
     simp only at hl' h1' htk' hrest' ⊢
     subst h1'
     refine⟨⟨hl',i',j+1,rfl,WK (by omega:j<xs.length) hm,by omega,by omega,htk',hrest'⟩,?_⟩
     rw [WK (by omega:j<xs.length) hm]
     have e1:((j+1:Nat):Int).toNat=j+1:=by omega
     have e2:((j:Nat):Int).toNat=j:=by omega
     rw [e1,e2];omega
   ·simp [hl] at h
    have:j=xs.length:=by omega
    subst this
    exact⟨hl,i,rfl,by omega,by rw [List.take_length] at htk;exact htk⟩
  ·rintro⟨l,ti⟩ ⟨hl,i,h1,hi,htk⟩
   simp only at hl h1 htk ⊢
   subst h1
   have e1:(i:Int).toNat=i:=by omega
   have e2:((l.length:Int)-(i:Int)).toNat=l.length-i:=by omega
   rw [e1,e2]
   refine⟨⟨by omega,by omega,by omega⟩,by omega,⟨by omega,by omega,by simp;omega⟩,?_⟩
   rw [sub0,List.take_append_of_le_length (by simp;omega),List.take_take,Nat.min_self,htk]
   exact hp
 ·rw [e]
  refine Ite.t (by decide) ?_
  have:xs.filter (fun x=>!p x)=xs:=by
   rw [List.filter_eq_self];intro x hx;simp [hb x hx]
  rw [this] at hp;exact hp
end Go.Taq
/- The mathematics, part NA: right floors and right sites, as the program sees them (floor.Right, survey.Right). -/
set_option linter.unusedVariables false
namespace Go.Taq
open Go
theorem Q4X {x y k:Int}:imax x y>k↔x>k∨y>k:=by unfold imax;split <;> omega
theorem Q1v {f:ApiFloor} {post:Bool→Prop} (hF:post false) (hT:RF f→post true):Gp f post:=by
 unfold Gp
 refine Jor3 (Ite.mk (fun _=>hF) (fun h1=>?_))
 simp only [Bool.or_eq_false_iff,decide_eq_false_iff_not,Q2j,Q4X] at h1
 obtain⟨⟨a1,a2⟩,a3⟩:=h1
 have e:=Q2w (f:=f) (by omega) (by omega) (by omega) (by omega) (by omega) (by omega)
 unfold XU
 rw [e.1]
 refine Jor3 (Ite.mk (fun _=>hF) (fun h2=>?_))
 simp only [Bool.or_eq_false_iff,decide_eq_false_iff_not,bne_eq_false_iff_eq] at h2
 obtain⟨⟨b1,b2⟩,b3⟩:=h2
 have hl:f.Kind.length≤maxLen:=by unfold maxLen;omega
 refine Jn.mk (fun _=>∀(i:Nat) x y,f.Kind[i]?=some x→f.Out[i]?=some y→0≤x∧x<7∧0≤y∧y≤63)
  (GJ hl (fun s=>s) (fun n _=>∀(i:Nat) x y,i<n→f.Kind[i]?=some x→f.Out[i]?=some y→0≤x∧x<7∧0≤y∧y≤63) rfl (fun i x y h=>by omega) (fun n x t hx ht hall=>?_) (fun t h i x y hx hy=>h i x y (List.getElem?_eq_some_iff.1 hx).1 hx hy)) (fun _ h=>hT ?_)
 ·have hn:=(List.getElem?_eq_some_iff.1 hx).1
  have ho:f.Out[n]?=some (f.Out[n]'(by omega)):=List.getElem?_eq_getElem _
  refine Jn.eq (decide (x<0)||decide (x≥7)||decide (f.Out[n]'(by omega)<0)||decide (f.Out[n]'(by omega)>63)) ?_ ?_
  ·refine Ite.mk (fun h=>by rw [h];rfl) (fun h=>Ite.mk (fun h'=>by rw [h,h'];rfl) (fun h'=>⟨_,by rw [ht];exact Qo rfl ho,Ite.mk (fun h''=>by rw [h,h',h''];rfl) (fun h''=>by rw [h,h',h''];rfl)⟩))
  ·refine Ite.mk (fun _=>hF) (fun h3=>⟨by rw [ht],fun i x' y' hi hx' hy'=>?_⟩)
   simp only [Bool.or_eq_false_iff,decide_eq_false_iff_not] at h3
   by_cases e:i=n
   ·subst e;rw [hx] at hx';rw [ho] at hy';cases hx';cases hy';omega
   ·exact hall i x' y' (by omega) hx' hy'
 ·exact⟨by omega,by omega,by omega,by omega,by omega,by omega,by omega,by omega,by omega,h⟩
def Q33 (x:ByteArray):Bool:=decide ((x.size:Int)<1)||decide ((x.size:Int)>20)||(decide (((x.data.toList.headD 0).toNat:Int)≥48)&&decide (((x.data.toList.headD 0).toNat:Int)≤57))
def Q5y:ByteArray:=ByteArray.mk #[97,98,99,100,101,102,103,104,105,106,107,108,109,110,111,112,113,114,115,116,117,118,119,120,121,122,65,66,67,68,69,70,71,72,73,74,75,76,77,78,79,80,81,82,83,84,85,86,87,88,89,90,48,49,50,51,52,53,54,55,56,57,95,45]
def nmB (x:ByteArray):Bool:=!Q33 x&&!(x.data.toList.any fun c=>decide (Q0e Q5y (c.toNat:Int)<0))
theorem Q4m {x:ByteArray} (h:nmB x=true):1≤x.size∧x.size≤20:=by
 unfold nmB Q33 at h
 simp only [Bool.and_eq_true,Bool.not_eq_true',Bool.or_eq_false_iff,decide_eq_false_iff_not] at h
 omega
theorem Yx {x:ByteArray} {post:Bool→Prop} (hx:OkS x) (hp:post (nmB x)):KP x post:=by
 unfold KP
 have hl:x.data.toList.length=x.size:=Array.length_toList
 have hm:x.data.toList.length≤maxLen:=by rw [hl];exact hx
 refine Jn.eq (Q33 x) (Ite.mk (fun h1=>?_) (fun h1=>Ite.mk (fun h2=>?_) (fun h2=>?_))) (Ite.mk (fun h=>?_) (fun h=>?_))
 ·unfold Q33;rw [h1];rfl
 ·unfold Q33;rw [h1,h2];rfl
 ·have hx0:x.data.toList[0]?=some (x.data.toList[0]'(by simp at h1;omega)):=List.getElem?_eq_getElem _
  have hh:x.data.toList.headD 0=x.data.toList[0]'(by simp at h1;omega):=by rw [List.headD_eq_head?_getD,List.head?_eq_getElem?,hx0];rfl
  unfold Q33;rw [h1,h2,hh]
  exact⟨_,Qo rfl hx0,Ite.mk (fun h3=>by rw [h3];rfl) (fun h3=>by rw [h3];rfl)⟩
 ·unfold nmB at hp;rw [h] at hp;exact hp
 ·unfold nmB at hp;rw [h] at hp
  rw [show ((x.size:Nat):Int)=((x.data.toList.length:Nat):Int) by rw [hl]]
  exact Q6O hm (p:=fun c:UInt8=>decide (Q0e Q5y (c.toNat:Int)<0)) (post:=fun b=>post (!b)) (by simpa using hp)
theorem WG {x:ByteArray} {post:Bool→Prop} (hx:OkS x) (hF:post false) (hT:1≤x.size→x.size≤20→nmB x=true→post true):KP x post:=Yx hx (by
 cases h:nmB x with
 | false=>exact hF
 | true=>exact hT (Q4m h).1 (Q4m h).2 h)
theorem Ye {n a b:Int} {post:Bool→Prop} (hp:post (decide (a≤n)&&decide (n≤b))):Xn n a b post:=by
 unfold Xn
 exact Q23 hp
theorem Q0N {k:Int} {post:Bool→Prop} (hp:post (Q14 k)):G7 k post:=by
 unfold G7
 exact Q6y hp
theorem Yh {k:Int} {post:Bool→Prop} (hp:post (Q12 k)):Xj k post:=by
 unfold Xj
 exact Jor2 hp
theorem Gn {m:SurveyMaker} {c:Int} {post:Int×Bool→Prop} (hp:post (if isC m.site.Floor c=true then (kd m.site.Floor c,true) else (0,false))):QO m c post:=by
 unfold QO
 refine Jor2 (Ite.mk (fun h=>?_) (fun h=>?_))
 ·have:isC m.site.Floor c=false:=by rw [Q5g];simp at h;omega
  rw [if_neg (by simp [this])] at hp;exact hp
 ·have:isC m.site.Floor c=true:=by rw [Xx];simp at h;omega
  rw [if_pos this] at hp
  exact⟨_,Q0r this,hp⟩
theorem Q1w {l:List QF} (hm:l.length≤maxLen) {post:Bool→Prop} (hF:post false) (hT:WB 0 l→post true):Gj l post:=by
 unfold Gj
 refine Jn.mk (fun _=>WB 0 l) (GJ hm (fun s:Int×Int=>s.2) (fun n (s:Int×Int)=>WB s.1 (l.drop n)→WB 0 l) rfl (fun h=>h) (fun n x t hx ht hI=>?_) (fun t h=>h (by rw [List.drop_length];trivial))) (fun _ h=>hT h)
 have hd:l.drop n=x :: l.drop (n+1):=by
  obtain⟨hlt,he⟩:=List.getElem?_eq_some_iff.1 hx
  rw [List.drop_eq_getElem_cons hlt,he]
 refine Jor3 (Ite.mk (fun _=>hF) (fun h=>⟨by rw [ht],fun h'=>hI ?_⟩))
 simp only [Bool.or_eq_false_iff,decide_eq_false_iff_not] at h
 rw [hd]
 exact⟨by omega,by omega,by omega,h'⟩
theorem Q0G {m:SurveyMaker} {l:List Int} (hm:l.length≤maxLen) {post:Bool→Prop} (hF:post false)
  (hT:l≠[]→(∀c,c∈l→isC m.site.Floor c=true)→(∀(i:Nat) x y,l[i]?=some x→l[i+1]?=some y→x<y)→post true):KM m l post:=by
 unfold KM
 refine Jn.mk (fun _=>(∀c,c∈l→isC m.site.Floor c=true)∧∀(i:Nat) x y,l[i]?=some x→l[i+1]?=some y→x<y)
  (GJ hm (fun s=>s) (fun n _=>(∀(i:Nat) c,i<n→l[i]?=some c→isC m.site.Floor c=true)∧∀(i:Nat) x y,i+1<n→l[i]?=some x→l[i+1]?=some y→x<y) rfl ⟨fun i c h=>by omega,fun i x y h=>by omega⟩ (fun n c t hc ht hI=>?_) (fun t h=>?_)) (fun _ h=>?_)
 ·refine Gn ?_
  refine Jn.mk (fun b=>b=false→isC m.site.Floor c=true∧∀x,0<n→l[n-1]?=some x→x<c) ?_ (fun b hb=>Ite.mk (fun _=>hF) (fun hb'=>⟨by rw [ht],?_,?_⟩))
  ·by_cases hcc:isC m.site.Floor c=true
   ·rw [if_pos hcc]
    refine Ite.t rfl (Ite.mk (fun h=>?_) (fun h=>fun _=>⟨hcc,fun x h0=>?_⟩))
    ·simp at h
     have hn:=(List.getElem?_eq_some_iff.1 hc).1
     have hx:l[n-1]?=some (l[n-1]'(by omega)):=List.getElem?_eq_getElem _
     refine⟨l[n-1]'(by omega),?_,fun h'=>⟨hcc,fun x h0 hx'=>?_⟩⟩
     ·have e1:w64 (t-1)=((n-1:Nat):Int):=by rw [ht,K8 (by omega) (by unfold maxLen at hm;omega)];omega
      rw [e1];exact Qo rfl hx
     ·rw [hx] at hx';cases hx';simp at h';exact h'
    ·simp at h;omega
   ·rw [if_neg hcc];exact Ite.f rfl (fun h=>by cases h)
  ·intro i x hi hx
   by_cases e:i=n
   ·subst e;rw [hc] at hx;cases hx;exact (hb hb').1
   ·exact hI.1 i x (by omega) hx
  ·intro i x y hi hx hy
   by_cases e:i+1=n
   ·subst e;rw [hc] at hy;cases hy;exact (hb hb').2 x (by omega) (by simpa using hx)
   ·exact hI.2 i x y (by omega) hx hy
 ·refine⟨fun c hc=>?_,fun i x y hx hy=>h.2 i x y (List.getElem?_eq_some_iff.1 hy).1 hx hy⟩
  obtain⟨i,hi⟩:=List.getElem?_of_mem hc
  exact h.1 i c (List.getElem?_eq_some_iff.1 hi).1 hi
 ·cases l with
  | nil=>simpa using hF
  | cons a r=>exact hT (by simp) h.1 h.2 |> fun h=>by simpa using h
structure MInv (s:ApiSite) (nz na ns nr:Nat) (m:SurveyMaker):Prop where
 fl:m.site.Floor=s.Floor
 zs:m.site.Zones=s.Zones.take nz
 aps:m.site.Aparts=s.Aparts.take na
 sh:m.site.Shelves=s.Shelves.take ns
 rs:m.site.Robots=s.Robots.take nr
 names:∀n,(lk m.names n).isSome=(s.Zones.take nz).any fun z=>seq z.Name n
 zoned:∀c,(lk m.zoned c).getD false=zAt (s.Zones.take nz) c
 shelf:∀c,lk m.shelf c=if 0≤shAt (s.Shelves.take ns) c then some (shAt (s.Shelves.take ns) c) else none
 robot:∀c,(lk m.robot c).getD false=rbAt (s.Robots.take nr) c
theorem Q5d (l:List Qx) (z:Qx) (c:Int):zAt (l++[z]) c=(zAt l c||z.Cells.contains c):=by simp [zAt]
theorem ZN {s:ApiSite} (k:OkApiSite s) {n:Nat} {m:SurveyMaker} (hI:MInv s n 0 0 0 m) {z:Qx} (hz:s.Zones[n]?=some z) {post:Int×SurveyMaker→Prop} (hE:∀e,e≠0→post (e,m))
  (hT:n<64→(∀y,y∈s.Zones.take n→seq y.Name z.Name=false)→(∀c,c∈z.Cells→isC s.Floor c=true∧Q14 (kd s.Floor c)=true∧zAt (s.Zones.take n) c=false)→∀m',MInv s (n+1) 0 0 0 m'→post (0,m')):
  K7 z m post:=by
 have kz:=k.Zones.2 z (List.mem_of_getElem? hz)
 have hn:=(List.getElem?_eq_some_iff.1 hz).1
 unfold K7
 refine Ite.mk (fun _=>hE 5 (by decide)) (fun h1=>Ite.mk (fun _=>hE 6 (by decide)) (fun h2=>?_))
 rw [hI.names] at h1
 have hlen:m.site.Zones.length=n:=by rw [hI.zs];simp;omega
 rw [hlen] at h2
 simp at h2
 refine Jn.mk (fun _=>∀c,c∈z.Cells→isC s.Floor c=true∧Q14 (kd s.Floor c)=true∧zAt (s.Zones.take n) c=false)
  (GJ kz.Cells.1 (fun t=>t) (fun i _=>∀(j:Nat) c,j<i→z.Cells[j]?=some c→isC s.Floor c=true∧Q14 (kd s.Floor c)=true∧zAt (s.Zones.take n) c=false) rfl (fun j c h=>by omega) (fun i c t hc ht hall=>?_) (fun t h c hc=>?_)) (fun _ hall=>?_)
 ·refine Gn ?_
  rw [hI.fl]
  refine Jn.mk (fun b=>b=false→isC s.Floor c=true∧Q14 (kd s.Floor c)=true∧zAt (s.Zones.take n) c=false) (Q0N ?_) (fun b hb=>Ite.mk (fun _=>hE 13 (by decide)) (fun hb'=>⟨by rw [ht],fun j c' hj hc'=>?_⟩))
  ·by_cases hcc:isC s.Floor c=true
   ·rw [if_pos hcc]
    refine Ite.mk (fun h=>?_) (fun _ h=>by cases h)
    rw [hI.zoned]
    exact fun h'=>⟨hcc,h,h'⟩
   ·rw [if_neg hcc]
    exact Ite.f (by decide) (fun h=>by cases h)
  ·by_cases e:j=i
   ·subst e;rw [hc] at hc';cases hc';exact hb hb'
   ·exact hall j c' (by omega) hc'
 ·obtain⟨j,hj⟩:=List.getElem?_of_mem hc
  exact h j c (List.getElem?_eq_some_iff.1 hj).1 hj
 ·refine Jn.mk (fun zm=>∀c,(lk zm c).getD false=(zAt (s.Zones.take n) c||z.Cells.contains c))
   (GJ kz.Cells.1 (fun t:List (Int×Bool)×Int=>t.2) (fun i t=>∀c,(lk t.1 c).getD false=(zAt (s.Zones.take n) c||(z.Cells.take i).contains c)) rfl (fun c=>by simp [hI.zoned]) (fun i x t hx ht h=>⟨by rw [ht],fun c=>?_⟩) (fun t h c=>by have:=h c;rwa [List.take_length] at this)) (fun zm hzm=>⟨by rw [hlen];simp;omega,?_⟩)
  ·rw [GG,Xa hx]
   by_cases e:x=c
   ·subst e;simp
   ·rw [if_neg e,h c]
    simp [show ¬c=x from fun h=>e h.symm]
  ·refine hT (by omega) (fun y hy=>?_) hall _ ⟨hI.fl,?_,hI.aps,hI.sh,hI.rs,fun nm=>?_,fun c=>?_,hI.shelf,hI.robot⟩
   ·exact Bool.eq_false_iff.2 (List.any_eq_false.1 h1 y hy)
   ·show m.site.Zones++[z]=_;rw [hI.zs,Xa hz]
   ·show (lk (upd m.names z.Name _) nm).isSome=_
    rw [GG,Xa hz,List.any_append]
    by_cases e:z.Name=nm
    ·rw [if_pos e];simp [Q2I.2 e]
    ·rw [if_neg e,hI.names]
     have:seq z.Name nm=false:=by rw [Bool.eq_false_iff];exact fun h=>e (Q2I.1 h)
     simp [this]
   ·show (lk zm c).getD false=_
    rw [hzm c,Xa hz,Q5d]
theorem Q5L {α:Type} (l:List α) (p q:α→Bool):(l.any fun x=>p x||q x)=(l.any p||l.any q):=by
 induction l with
 | nil=>rfl
 | cons x l ih=>simp only [List.any_cons,ih];cases p x <;> cases q x <;> simp
theorem WQ {l:List Qk} (hm:l.length≤maxLen) {v:Qk} {post:Bool→Prop} (hp:post (l.any fun x=>seq x.A v.A&&seq x.B v.B)):Qt l v post:=by
 unfold Qt QT
 have e:(fun x:Qk=>seq v.A x.A&&(seq v.B x.B&&true))=fun x=>seq x.A v.A&&seq x.B v.B:=by
  funext x
  have c:∀a b,seq a b=seq b a:=fun a b=>by rw [Bool.eq_iff_iff,Q2I,Q2I];exact eq_comm
  rw [Bool.and_true,c v.A,c v.B]
 refine Q5B hm (p:=fun x:Qk=>seq v.A x.A&&(seq v.B x.B&&true)) ?_
 rw [Yl,e];exact hp
theorem Yu {l:List Qk} (hm:l.length≤maxLen) {a b:ByteArray} {post:Bool→Prop} (hp:post (apB l a b)):XD l a b post:=by
 unfold XD
 refine Jor2 (Ite.mk (fun h=>?_) (fun h=>?_))
 ·have:apB l a b=false:=by
   unfold apB nosh
   cases h1:seq a ByteArray.empty <;> simp_all
  rw [this] at hp;exact hp
 ·have e:apB l a b=((l.any fun x=>seq x.A a&&seq x.B b)||(l.any fun x=>seq x.A b&&seq x.B a)):=by
   simp only [Bool.or_eq_false_iff] at h
   have h1:nosh a=false:=h.1
   have h2:nosh b=false:=h.2
   unfold apB
   rw [h1,h2]
   simp only [Bool.not_false,Bool.true_and]
   exact Q5L l _ _
  refine Jn.mk' (WQ hm (Ite.mk (fun h1=>?_) (fun h1=>WQ hm ?_)))
  ·rw [e,h1] at hp;exact hp
  ·rw [e,h1] at hp;exact hp
theorem Zw {s:ApiSite} (k:OkApiSite s) (hf:s.Aparts.length≤1000000) {nz n:Nat} {m:SurveyMaker} (hI:MInv s nz n 0 0 m) {x:Qk} (hx:s.Aparts[n]?=some x) {post:Int×SurveyMaker→Prop} (hE:∀e,e≠0→post (e,m))
  (hT:1≤x.A.size∧1≤x.B.size∧apB (s.Aparts.take n) x.A x.B=false→nmB x.A=true∧nmB x.B=true→∀m',MInv s nz (n+1) 0 0 m'→post (0,m')):K4 x m post:=by
 have kx:=k.Aparts.2 x (List.mem_of_getElem? hx)
 have hn:=(List.getElem?_eq_some_iff.1 hx).1
 have hm:(s.Aparts.take n).length≤maxLen:=Nat.le_trans (by simp;omega) k.Aparts.1
 unfold K4
 refine Jn.mk (fun b=>b=false→(1≤x.A.size∧1≤x.B.size)∧nmB x.A=true∧nmB x.B=true) (WG kx.A (Ite.f rfl (fun h=>by cases h)) (fun a1 a2 a3=>Ite.t rfl (WG kx.B (fun h=>by cases h) (fun b1 b2 b3 _=>⟨⟨a1,b1⟩,a3,b3⟩)))) (fun b hb=>Ite.mk (fun _=>hE 12 (by decide)) (fun hb'=>?_))
 obtain⟨⟨a1,b1⟩,hnm⟩:=hb hb'
 rw [hI.aps]
 refine Yu hm (Ite.mk (fun _=>hE 5 (by decide)) (fun h=>⟨by simp;omega,hT ⟨a1,b1,h⟩ hnm _ ⟨hI.fl,hI.zs,?_,hI.sh,hI.rs,hI.names,hI.zoned,hI.shelf,hI.robot⟩⟩))
 show s.Aparts.take n++[x]=_;rw [Xa hx]
theorem Q3P (l:List QB) (x:QB) (c:Int):shAt (l++[x]) c=if 0≤shAt l c then shAt l c else if x.Cell=c then l.length else -1:=by
 unfold shAt
 rcases GA (fun y:QB=>y.Cell == c) l with ⟨i,y,hy,e,hp,hb⟩ | ⟨e,hb⟩
 ·rw [e,if_pos (by omega)]
  have hlt:=(List.getElem?_eq_some_iff.1 hy).1
  rcases GA (fun y:QB=>y.Cell == c) (l++[x]) with ⟨i',y',hy',e',hp',hb'⟩ | ⟨e',hb'⟩
  ·rw [e']
   have h1:¬i<i':=fun h=>by
    have:=hb' i y h (by rw [List.getElem?_append_left hlt];exact hy);rw [hp] at this;cases this
   have h2:¬i'<i:=fun h=>by
    have:=hb i' y' h (by rw [List.getElem?_append_left (by omega)] at hy';exact hy');rw [hp'] at this;cases this
   omega
  ·have:=hb' y (List.mem_append_left _ (List.mem_of_getElem? hy));rw [hp] at this;cases this
 ·rw [e,if_neg (by omega)]
  by_cases hc:x.Cell=c
  ·rw [if_pos hc]
   rcases GA (fun y:QB=>y.Cell == c) (l++[x]) with ⟨i',y',hy',e',hp',hb'⟩ | ⟨e',hb'⟩
   ·rw [e']
    have:i'=l.length:=by
     rcases Nat.lt_or_ge i' l.length with h | h
     ·rw [List.getElem?_append_left h] at hy'
      have:=hb y' (List.mem_of_getElem? hy');rw [hp'] at this;cases this
     ·have:=(List.getElem?_eq_some_iff.1 hy').1;simp at this;omega
    rw [this]
   ·have:=hb' x (by simp);simp [hc] at this
  ·rw [if_neg hc]
   rcases GA (fun y:QB=>y.Cell == c) (l++[x]) with ⟨i',y',hy',e',hp',hb'⟩ | ⟨e',hb'⟩
   ·rcases List.mem_append.1 (List.mem_of_getElem? hy') with h | h
    ·have:=hb y' h;rw [hp'] at this;cases this
    ·simp at h;subst h;simp [hc] at hp'
   ·exact e'
theorem Zi {s:ApiSite} (k:OkApiSite s) (hs:s.Shelves.length≤1000000) {nz na n:Nat} {m:SurveyMaker} (hI:MInv s nz na n 0 m) {x:QB} (hx:s.Shelves[n]?=some x) {post:Int×SurveyMaker→Prop} (hE:∀e,e≠0→post (e,m))
  (hT:n<3000→isC s.Floor x.Cell=true∧Q12 (kd s.Floor x.Cell)=true∧shAt (s.Shelves.take n) x.Cell<0→(seq x.Class ByteArray.empty||nmB x.Class)=true→∀m',MInv s nz na (n+1) 0 m'→post (0,m')):K3 x m post:=by
 have kx:=k.Shelves.2 x (List.mem_of_getElem? hx)
 have hn:=(List.getElem?_eq_some_iff.1 hx).1
 have hlen:m.site.Shelves.length=n:=by rw [hI.sh];simp;omega
 unfold K3
 refine Jn.mk (fun b=>b=!(seq x.Class ByteArray.empty||nmB x.Class)) (Ite.mk (fun h=>by rw [h];rfl) (fun h=>Yx kx.Class (by rw [h];rfl))) (fun b hb=>Ite.mk (fun _=>hE 12 (by decide)) (fun hb'=>Gn ?_))
 have hnm:(seq x.Class ByteArray.empty||nmB x.Class)=true:=by rw [hb'] at hb;have:=hb.symm;rwa [Bool.not_eq_false'] at this
 rw [hI.fl]
 by_cases hc:isC s.Floor x.Cell=true
 ·rw [if_pos hc]
  refine Ite.f rfl (Yh (Ite.mk (fun _=>hE 13 (by decide)) (fun h1=>Ite.mk (fun _=>hE 5 (by decide)) (fun h2=>Ite.mk (fun _=>hE 6 (by decide)) (fun h3=>?_)))))
  rw [hlen] at h3 ⊢
  rw [hI.shelf] at h2
  have h2':shAt (s.Shelves.take n) x.Cell<0:=by
   by_cases h:0≤shAt (s.Shelves.take n) x.Cell
   ·rw [if_pos h] at h2;cases h2
   ·omega
  simp at h1 h3
  refine⟨by simp;omega,hT (by omega) ⟨hc,h1,h2'⟩ hnm _ ⟨rfl,hI.zs,hI.aps,?_,hI.rs,hI.names,hI.zoned,fun c=>?_,hI.robot⟩⟩
  ·show m.site.Shelves++[x]=_;rw [hI.sh,Xa hx]
  ·show lk (upd m.shelf x.Cell (n:Int)) c=_
   rw [GG,Xa hx,Q3P]
   have hl:(s.Shelves.take n).length=n:=by simp;omega
   by_cases e:x.Cell=c
   ·subst e
    have e0:¬0≤shAt (s.Shelves.take n) x.Cell:=by omega
    simp only [if_neg e0,if_true,hl]
    rw [if_pos (by omega)]
   ·rw [if_neg e,if_neg e,hI.shelf c]
    by_cases h:0≤shAt (s.Shelves.take n) c
    ·rw [if_pos h,if_pos h,if_pos h]
    ·rw [if_neg h,if_neg h,if_neg (by omega)]
 ·rw [if_neg hc];exact Ite.t rfl (hE 3 (by decide))
theorem Q44 (l:List QK) (x:QK) (c:Int):rbAt (l++[x]) c=(rbAt l c||x.Cell == c):=by simp [rbAt]
theorem Zr {s:ApiSite} (k:OkApiSite s) (hs:s.Robots.length≤1000000) {nz na ns n:Nat} {m:SurveyMaker} (hI:MInv s nz na ns n m) {x:QK} (hx:s.Robots[n]?=some x) {post:Int×SurveyMaker→Prop} (hE:∀e,e≠0→post (e,m))
  (hT:n<200→isC s.Floor x.Cell=true∧0≤x.Charge∧x.Charge≤1000000∧kd s.Floor x.Cell≠0∧rbAt (s.Robots.take n) x.Cell=false→∀m',MInv s nz na ns (n+1) m'→post (0,m')):K2 x m post:=by
 have hn:=(List.getElem?_eq_some_iff.1 hx).1
 have hlen:m.site.Robots.length=n:=by rw [hI.rs];simp;omega
 unfold K2
 refine Gn ?_
 rw [hI.fl]
 by_cases hc:isC s.Floor x.Cell=true
 ·rw [if_pos hc]
  refine Jn.mk (fun b=>b=false→0≤x.Charge∧x.Charge≤1000000) (Ite.t rfl (Ye (fun h=>by simp at h;omega))) (fun b hb=>Ite.mk (fun _=>hE 3 (by decide)) (fun hb'=>Ite.mk (fun _=>hE 13 (by decide)) (fun h1=>Ite.mk (fun _=>hE 5 (by decide)) (fun h2=>Ite.mk (fun _=>hE 6 (by decide)) (fun h3=>?_)))))
  rw [hlen] at h3 ⊢
  rw [hI.robot] at h2
  simp at h1 h3
  refine⟨by simp;omega,hT (by omega) ⟨hc,(hb hb').1,(hb hb').2,h1,h2⟩ _ ⟨rfl,hI.zs,hI.aps,hI.sh,?_,hI.names,hI.zoned,hI.shelf,fun c=>?_⟩⟩
  ·show m.site.Robots++[x]=_;rw [hI.rs,Xa hx]
  ·show (lk (upd m.robot x.Cell true) c).getD false=_
   rw [GG,Xa hx,Q44]
   by_cases e:x.Cell=c
   ·rw [if_pos e];simp [e]
   ·rw [if_neg e,hI.robot];simp [e]
 ·rw [if_neg hc]
  exact Jn.mk (fun b=>b=true) (Ite.f rfl rfl) (fun b hb=>Ite.t hb (hE 3 (by decide)))
end Go.Taq
/- The mathematics, part NB: survey.Right. -/
set_option linter.unusedVariables false
namespace Go.Taq
open Go
abbrev MAll (s:ApiSite) (m:SurveyMaker):Prop:=MInv s s.Zones.length s.Aparts.length s.Shelves.length s.Robots.length m
section
variable {s:ApiSite} {m:SurveyMaker}
theorem MInv.zs' (h:MAll s m):m.site.Zones=s.Zones:=by rw [h.zs,List.take_length]
theorem MInv.as' (h:MAll s m):m.site.Aparts=s.Aparts:=by rw [h.aps,List.take_length]
theorem MInv.sh' (h:MAll s m):m.site.Shelves=s.Shelves:=by rw [h.sh,List.take_length]
theorem MInv.shelf' (h:MAll s m) (c:Int):lk m.shelf c=if 0≤shAt s.Shelves c then some (shAt s.Shelves c) else none:=by
 have:=h.shelf c;rwa [List.take_length] at this
theorem Q5a {l:List QB} {f:ApiFloor} (hc:∀x,x∈l→isC f x.Cell=true) {c:Int} (h:0≤shAt l c):0≤c:=by
 unfold shAt at h
 rcases GA (fun y:QB=>y.Cell == c) l with ⟨i,y,hy,e,hp,_⟩ | ⟨e,_⟩
 ·have:=(Xx.1 (hc y (List.mem_of_getElem? hy))).1
  rw [←eq_of_beq hp];exact this
 ·rw [e] at h;omega
theorem Q0c (k:OkApiSite s) (hf:RF s.Floor) (h:MAll s m) (hc:∀x,x∈s.Shelves→isC s.Floor x.Cell=true) {post:Int→Prop} (hF:∀i:Nat,i<s.Shelves.length→(∃d:Int,0≤d∧d<4∧Q1p s i d)→post (i:Int))
  (hT:(∀(i:Nat) (d:Int),0≤d→d<4→¬Q1p s i d)→post (-1)):KA m post:=by
 unfold KA
 rw [h.sh',h.fl,h.as']
 refine Jn.mk (fun _=>∀(i:Nat) (d:Int),i<s.Shelves.length→0≤d→d<4→¬Q1p s i d)
  (Q4Y (xs:=s.Shelves) k.Shelves.1 (fun t=>t) (fun n _=>∀(i:Nat) (d:Int),i<n→0≤d→d<4→¬Q1p s i d) rfl (fun i d h=>by omega) (fun n x t hx ht hall=>?_) (fun t h=>h)) (fun _ h=>hT (fun i d h0 h1 hb=>?_))
 ·have hn:=(List.getElem?_eq_some_iff.1 hx).1
  have hxc:=hc x (List.mem_of_getElem? hx)
  refine Jn.mk (fun _=>∀d:Int,0≤d→d<4→¬Q1p s n d) ⟨x,by rw [ht];exact Qo rfl hx,Q0S hf hxc ?_⟩ (fun _ hd=>⟨by rw [ht],fun i d hi h0 h1=>?_⟩)
  ·have hb:=p_bd hf hxc
   have w:=hf.W4;have hh:=hf.H4;have hd:=hf.D4
   dsimp only
   rw [K8 (x:=pX s.Floor x.Cell+1) (by omega) (by omega),K8 (x:=pY s.Floor x.Cell+1) (by omega) (by omega),K8 (x:=pX s.Floor x.Cell-1) (by omega) (by omega),K8 (x:=pY s.Floor x.Cell-1) (by omega) (by omega)]
   refine GH hf (GH hf (GH hf (GH hf ?_)))
   have n0:GN s.Floor (pX s.Floor x.Cell+1) (pY s.Floor x.Cell) (pZ s.Floor x.Cell)=nbr s.Floor x.Cell 0:=by simp [nbr,hxc]
   have n1:GN s.Floor (pX s.Floor x.Cell) (pY s.Floor x.Cell+1) (pZ s.Floor x.Cell)=nbr s.Floor x.Cell 1:=by simp [nbr,hxc]
   have n2:GN s.Floor (pX s.Floor x.Cell-1) (pY s.Floor x.Cell) (pZ s.Floor x.Cell)=nbr s.Floor x.Cell 2:=by simp [nbr,hxc]
   have n3:GN s.Floor (pX s.Floor x.Cell) (pY s.Floor x.Cell-1) (pZ s.Floor x.Cell)=nbr s.Floor x.Cell 3:=by simp [nbr,hxc]
   rw [n0,n1,n2,n3]
   have hl:∀(i:Nat) (c:Int),[nbr s.Floor x.Cell 0,nbr s.Floor x.Cell 1,nbr s.Floor x.Cell 2,nbr s.Floor x.Cell 3][i]?=some c→c=nbr s.Floor x.Cell (i:Int)∧i<4:=fun i c hi=>by
    match i,hi with
    | 0,hi=>simp at hi;exact⟨hi.symm,by omega⟩
    | 1,hi=>simp at hi;exact⟨hi.symm,by omega⟩
    | 2,hi=>simp at hi;exact⟨hi.symm,by omega⟩
    | 3,hi=>simp at hi;exact⟨hi.symm,by omega⟩
   refine Jn.mk (fun _=>∀d:Int,0≤d→d<4→¬Q1p s n d)
    (GJ (xs:=[nbr s.Floor x.Cell 0,nbr s.Floor x.Cell 1,nbr s.Floor x.Cell 2,nbr s.Floor x.Cell 3]) (by simp [maxLen]) (fun t=>t) (fun q _=>∀d:Int,0≤d→d<q→¬Q1p s n d) rfl (fun d h0 h1=>by omega) (fun q c t' hq ht' hqa=>?_) (fun t' h' d h0 h1=>h' d h0 (by simpa using h1))) (fun _ h'=>h')
   obtain⟨rfl,hq4⟩:=hl q c hq
   rw [h.shelf']
   refine Jn.mk (fun b=>b=true↔Q1p s n q) ?_ (fun b hb'=>Ite.mk (fun hbt=>by rw [ht];exact hF n hn ⟨q,by omega,by omega,hb'.1 hbt⟩) (fun hb''=>⟨by rw [ht'],fun d h0 h1=>?_⟩))
   ·by_cases h1:0≤shAt s.Shelves (nbr s.Floor x.Cell q)
    ·rw [if_pos h1]
     refine Ite.t rfl (Ite.mk (fun h2=>?_) (fun h2=>⟨fun h=>(by cases h),?_⟩))
     ·simp at h2
      have hlt:(shAt s.Shelves (nbr s.Floor x.Cell q)).toNat<s.Shelves.length:=by omega
      have hy:s.Shelves[(shAt s.Shelves (nbr s.Floor x.Cell q)).toNat]?=some (s.Shelves[(shAt s.Shelves (nbr s.Floor x.Cell q)).toNat]'hlt):=List.getElem?_eq_getElem _
      refine⟨_,Qo (n:=(shAt s.Shelves (nbr s.Floor x.Cell q)).toNat) (by simp;omega) hy,Yu k.Aparts.1 ⟨fun h3=>⟨x,_,hx,?_,h1,by omega,Qo (n:=(shAt s.Shelves (nbr s.Floor x.Cell q)).toNat) (by omega) hy,h3⟩,?_⟩⟩
      ·exact Q5a hc h1
      rintro⟨x',y',hx',_,_,_,h5,h6⟩
      rw [hx] at hx';cases hx'
      rw [Qo (n:=(shAt s.Shelves (nbr s.Floor x.Cell q)).toNat) (by omega) hy] at h5;cases h5
      exact h6
     ·simp at h2
      rintro⟨x',y',hx',_,_,h5,_⟩
      rw [hx] at hx';cases hx';exfalso;omega
    ·rw [if_neg h1]
     refine Ite.f rfl ⟨fun h=>(by cases h),?_⟩
     rintro⟨x',y',hx',_,h5,_⟩
     rw [hx] at hx';cases hx';exfalso;omega
   ·by_cases e:d=q
    ·subst e;exact fun hbb=>by rw [hb'.2 hbb] at hb'';cases hb''
    ·exact hqa d h0 (by omega)
  ·by_cases e:i=n
   ·subst e;exact hd d h0 h1
   ·exact hall i d (by omega) h0 h1
 ·obtain⟨x,y,hx,_⟩:=id hb
  exact h i d (List.getElem?_eq_some_iff.1 hx).1 h0 h1 hb
theorem Q29 {p:Int→Bool} {l:List Int} {i:Nat} {c:Int} (h:l[i]?=some c):(l.take (i+1)).countP p=(l.take i).countP p+if p c=true then 1 else 0:=by
 rw [Xa h,List.countP_append,List.countP_singleton]
theorem Zk (k:OkApiSite s) (h:MAll s m) {z:Qx} (hz:z.Cells.length≤maxLen) (hc:∀c,c∈z.Cells→isC s.Floor c=true) {post:Bool→Prop} (hp:post (decide ((z.Cells.countP (Yc s):Nat)<z.Keep))):K0 z m post:=by
 unfold K0
 refine Jn.mk (fun n=>n=((z.Cells.countP (Yc s):Nat):Int)) (GJ hz (fun t:Int×Int=>t.2) (fun i (t:Int×Int)=>t.1=(((z.Cells.take i).countP (Yc s):Nat):Int)) rfl rfl (fun i c t hcx ht hI=>?_) (fun t h=>by rw [h,List.take_length])) (fun n hn=>by rw [hn];exact hp)
 have hcc:=hc c (List.mem_of_getElem? hcx)
 have hle:=List.countP_le_length (p:=Yc s) (l:=z.Cells.take i)
 have hle2:(z.Cells.take i).length≤i:=by simp;omega
 have hi:=(List.getElem?_eq_some_iff.1 hcx).1
 rw [h.shelf',h.fl]
 refine Jn.mk (fun b=>b=Yc s c) ?_ (fun b hb=>Jn.mk (fun n=>n=(((z.Cells.take (i+1)).countP (Yc s):Nat):Int)) ?_ (fun n hn=>⟨by rw [ht],hn⟩))
 ·by_cases h1:0≤shAt s.Shelves c
  ·rw [if_pos h1];exact Ite.t rfl (by simp [Yc];omega)
  ·rw [if_neg h1]
   exact Ite.f rfl ⟨_,Q0r hcc,Yh (by simp [Yc];omega)⟩
 ·rw [Q29 hcx]
  subst hb
  refine Ite.mk (fun h=>?_) (fun h=>?_)
  ·rw [hI,h,K8 (by omega) (by unfold maxLen at hz;omega)];simp
  ·rw [hI,h];simp
abbrev T17 (α:Type):=Int×Int×Int×List Int×List Int×List Qx×List Qk×List QB×List QK×List (Int×Int)×List (Int×Bool)×List (Int×Bool)×List (ByteArray×Int)×List (Int×Bool)×List Int×List Int×α
def ofT {α:Type} (t:T17 α):SurveyMaker:={site:={Floor:={W:=t.1,H:=t.2.1,D:=t.2.2.1,Kind:=t.2.2.2.1,Out:=t.2.2.2.2.1},Zones:=t.2.2.2.2.2.1,Aparts:=t.2.2.2.2.2.2.1,Shelves:=t.2.2.2.2.2.2.2.1,Robots:=t.2.2.2.2.2.2.2.2.1},shelf:=t.2.2.2.2.2.2.2.2.2.1,robot:=t.2.2.2.2.2.2.2.2.2.2.1,zoned:=t.2.2.2.2.2.2.2.2.2.2.2.1,names:=t.2.2.2.2.2.2.2.2.2.2.2.2.1,oneways:=t.2.2.2.2.2.2.2.2.2.2.2.2.2.1,shelves:=t.2.2.2.2.2.2.2.2.2.2.2.2.2.2.1,zones:=t.2.2.2.2.2.2.2.2.2.2.2.2.2.2.2.1}
abbrev T16:=Int×Int×Int×List Int×List Int×List Qx×List Qk×List QB×List QK×List (Int×Int)×List (Int×Bool)×List (Int×Bool)×List (ByteArray×Int)×List (Int×Bool)×List Int×List Int
def of16 (t:T16):SurveyMaker:={site:={Floor:={W:=t.1,H:=t.2.1,D:=t.2.2.1,Kind:=t.2.2.2.1,Out:=t.2.2.2.2.1},Zones:=t.2.2.2.2.2.1,Aparts:=t.2.2.2.2.2.2.1,Shelves:=t.2.2.2.2.2.2.2.1,Robots:=t.2.2.2.2.2.2.2.2.1},shelf:=t.2.2.2.2.2.2.2.2.2.1,robot:=t.2.2.2.2.2.2.2.2.2.2.1,zoned:=t.2.2.2.2.2.2.2.2.2.2.2.1,names:=t.2.2.2.2.2.2.2.2.2.2.2.2.1,oneways:=t.2.2.2.2.2.2.2.2.2.2.2.2.2.1,shelves:=t.2.2.2.2.2.2.2.2.2.2.2.2.2.2.1,zones:=t.2.2.2.2.2.2.2.2.2.2.2.2.2.2.2}
def lst {α:Type} (t:T17 α):α:=t.2.2.2.2.2.2.2.2.2.2.2.2.2.2.2.2
end
structure Q3j (s:ApiSite):Prop where
 zn:∀(i:Nat) z,s.Zones[i]?=some z→nmB z.Name=true
 an:∀(i:Nat) x,s.Aparts[i]?=some x→nmB x.A=true∧nmB x.B=true
 sn:∀(i:Nat) x,s.Shelves[i]?=some x→(seq x.Class ByteArray.empty||nmB x.Class)=true
theorem Q0j {s:ApiSite} (k:OkApiSite s) {cells most:Int} (hfew:FewS s cells most) (hm:most≤1000000) {post:Bool→Prop} (hF:post false) (hT:YH s→Q3j s→post true):G9 s post:=by
 have f2:=hfew.aparts;have f3:=hfew.shelves;have f4:=hfew.robots
 unfold G9
 refine Q1v (Ite.t rfl hF) (fun hf=>Ite.f rfl ?_)
 unfold XV
 refine Jn.mk (fun t:T16=>MInv s s.Zones.length 0 0 0 (of16 t)∧s.Zones.length≤64∧∀(i:Nat) z,s.Zones[i]?=some z→Q28 s (s.Zones.take i) z∧nmB z.Name=true)
  (GJ k.Zones.1 (fun t:T17 Int=>lst t) (fun n (t:T17 Int)=>MInv s n 0 0 0 (ofT t)∧n≤64∧∀(i:Nat) z,i<n→s.Zones[i]?=some z→Q28 s (s.Zones.take i) z∧nmB z.Name=true) rfl ⟨⟨rfl,rfl,rfl,rfl,rfl,fun n=>rfl,fun c=>rfl,fun c=>rfl,fun c=>rfl⟩,by omega,fun i z h=>by omega⟩ (fun n z t hz ht hI=>?_) (fun t h=>⟨h.1,h.2.1,fun i z hz=>h.2.2 i z (List.getElem?_eq_some_iff.1 hz).1 hz⟩)) (fun t1 hI1=>?_)
 ·have kz:=k.Zones.2 z (List.mem_of_getElem? hz)
  refine Jn.mk (fun x:T17 Bool=>lst x=false→MInv s (n+1) 0 0 0 (ofT x)∧n<64∧Q28 s (s.Zones.take n) z∧nmB z.Name=true)
   (WG kz.Name (Ite.f rfl (fun h=>by cases h)) (fun n1 n2 n3=>Ite.t rfl (Ye (Ite.mk (fun h1=>Ite.mk (fun _ h=>by cases h) (fun h2=>Q1w kz.Shut.1 (Ite.f rfl (fun h=>by cases h)) (fun h3=>Ite.t rfl
    (Q0G (m:=ofT t) kz.Cells.1 (Ite.f rfl (fun h=>by cases h)) (fun c1 c2 c3=>Ite.t rfl (ZN (m:=ofT t) k hI.1 hz (fun e he h=>?_) (fun a1 a2 a3 m' hm' _=>⟨hm',a1,?_⟩))))))) (fun _ h=>by cases h))))) (fun x hx=>Ite.mk (fun _=>hF) (fun hx'=>⟨by show w64 (lst t+1)=_;rw [show lst t=(n:Int) from ht],(hx hx').1,(hx hx').2.1,fun i z' hi hz'=>?_⟩))
  ·exfalso;have:(e != 0)=false:=h;simp at this;exact he this
  ·simp at h1 h2
   exact⟨⟨⟨n1,n2⟩,a2,c1,h1,h2,h3,a3,c3⟩,n3⟩
  ·by_cases e:i=n
   ·subst e;rw [hz] at hz';cases hz';exact (hx hx').2.2
   ·exact hI.2.2 i z' (by omega) hz'
 obtain⟨hI1,hz64,hzone⟩:=hI1
 refine Jn.mk (fun t:T16=>MInv s s.Zones.length s.Aparts.length 0 0 (of16 t)∧∀(i:Nat) x,s.Aparts[i]?=some x→(1≤x.A.size∧1≤x.B.size∧apB (s.Aparts.take i) x.A x.B=false)∧nmB x.A=true∧nmB x.B=true)
  (GJ k.Aparts.1 (fun t:T17 Int=>lst t) (fun n (t:T17 Int)=>MInv s s.Zones.length n 0 0 (ofT t)∧∀(i:Nat) x,i<n→s.Aparts[i]?=some x→(1≤x.A.size∧1≤x.B.size∧apB (s.Aparts.take i) x.A x.B=false)∧nmB x.A=true∧nmB x.B=true) rfl (by exact⟨hI1,fun i z h=>by omega⟩) (fun n x t hx ht hI=>?_) (fun t h=>⟨h.1,fun i z hz=>h.2 i z (List.getElem?_eq_some_iff.1 hz).1 hz⟩)) (fun t2 hI2=>?_)
 ·refine Zw (m:=ofT t) k (by omega) hI.1 hx (fun e he=>Ite.t (by simpa using he) hF) (fun a nm m' hm'=>Ite.f rfl ⟨by show w64 (lst t+1)=_;rw [show lst t=(n:Int) from ht],hm',fun i x' hi hx'=>?_⟩)
  by_cases e:i=n
  ·subst e;rw [hx] at hx';cases hx';exact⟨a,nm⟩
  ·exact hI.2 i x' (by omega) hx'
 obtain⟨hI2,hap⟩:=hI2
 refine Jn.mk (fun t:T16=>MInv s s.Zones.length s.Aparts.length s.Shelves.length 0 (of16 t)∧s.Shelves.length≤3000∧∀(i:Nat) x,s.Shelves[i]?=some x→(isC s.Floor x.Cell=true∧Q12 (kd s.Floor x.Cell)=true∧shAt (s.Shelves.take i) x.Cell<0)∧(seq x.Class ByteArray.empty||nmB x.Class)=true)
  (GJ k.Shelves.1 (fun t:T17 Int=>lst t) (fun n (t:T17 Int)=>MInv s s.Zones.length s.Aparts.length n 0 (ofT t)∧n≤3000∧∀(i:Nat) x,i<n→s.Shelves[i]?=some x→(isC s.Floor x.Cell=true∧Q12 (kd s.Floor x.Cell)=true∧shAt (s.Shelves.take i) x.Cell<0)∧(seq x.Class ByteArray.empty||nmB x.Class)=true) rfl (by exact⟨hI2,by omega,fun i z h=>by omega⟩) (fun n x t hx ht hI=>?_) (fun t h=>⟨h.1,h.2.1,fun i z hz=>h.2.2 i z (List.getElem?_eq_some_iff.1 hz).1 hz⟩)) (fun t3 hI3=>?_)
 ·refine Zi (m:=ofT t) k (by omega) hI.1 hx (fun e he=>Ite.t (by simpa using he) hF) (fun l a nm m' hm'=>Ite.f rfl ⟨by show w64 (lst t+1)=_;rw [show lst t=(n:Int) from ht],hm',by omega,fun i x' hi hx'=>?_⟩)
  by_cases e:i=n
  ·subst e;rw [hx] at hx';cases hx';exact⟨a,nm⟩
  ·exact hI.2.2 i x' (by omega) hx'
 obtain⟨hI3,hs3,hsh⟩:=hI3
 refine Jn.mk (fun t:T16=>MAll s (of16 t)∧s.Robots.length≤200∧∀(i:Nat) x,s.Robots[i]?=some x→isC s.Floor x.Cell=true∧0≤x.Charge∧x.Charge≤1000000∧kd s.Floor x.Cell≠0∧rbAt (s.Robots.take i) x.Cell=false)
  (GJ k.Robots.1 (fun t:T17 Int=>lst t) (fun n (t:T17 Int)=>MInv s s.Zones.length s.Aparts.length s.Shelves.length n (ofT t)∧n≤200∧∀(i:Nat) x,i<n→s.Robots[i]?=some x→isC s.Floor x.Cell=true∧0≤x.Charge∧x.Charge≤1000000∧kd s.Floor x.Cell≠0∧rbAt (s.Robots.take i) x.Cell=false) rfl (by exact⟨hI3,by omega,fun i z h=>by omega⟩) (fun n x t hx ht hI=>?_) (fun t h=>⟨h.1,h.2.1,fun i z hz=>h.2.2 i z (List.getElem?_eq_some_iff.1 hz).1 hz⟩)) (fun t4 hI4=>?_)
 ·refine Zr (m:=ofT t) k (by omega) hI.1 hx (fun e he=>Ite.t (by simpa using he) hF) (fun l a m' hm'=>Ite.f rfl ⟨by show w64 (lst t+1)=_;rw [show lst t=(n:Int) from ht],hm',by omega,fun i x' hi hx'=>?_⟩)
  by_cases e:i=n
  ·subst e;rw [hx] at hx';cases hx';exact a
  ·exact hI.2.2 i x' (by omega) hx'
 obtain⟨hI4,hr2,hrb⟩:=hI4
 refine Jn.mk' (Q0c (m:=of16 t4) k hf hI4 (fun x hx=>?_) (fun i hi _=>Ite.f (by simp) hF) (fun hbs=>Ite.t (by decide) ?_))
 ·obtain⟨i,hi⟩:=List.getElem?_of_mem hx
  exact (hsh i x hi).1.1
 ·unfold X0
  have hzs:(of16 t4).site.Zones=s.Zones:=hI4.zs'
  show Qd (of16 t4).site.Zones (of16 t4) _
  rw [hzs]
  unfold Qd
  refine Q00 k.Zones.1 (fun z=>decide ((z.Cells.countP (Yc s):Nat)<z.Keep)) (T:=fun z post=>K0 z (of16 t4) post) (fun z hz {q} hq=>Zk k hI4 (k.Zones.2 z hz).Cells.1 (fun c hc=>?_) hq) (Ite.mk (fun h=>?_) (fun _=>hF))
  ·obtain⟨i,hi⟩:=List.getElem?_of_mem hz
   exact ((hzone i z hi).1.cell c hc).1
  ·unfold X3
   have hfl:(of16 t4).site.Floor=s.Floor:=hI4.fl
   show Qy (of16 t4).site.Floor.Kind 3 _
   rw [hfl]
   refine XZ k.Floor.Kind.1 ?_
   cases hch:s.Floor.Kind.contains 3
   ·exact hF
   ·refine hT ⟨hf,hz64,fun i z hz=>(hzone i z hz).1,hs3,hr2,fun i x hx=>(hap i x hx).1,fun i x hx=>(hsh i x hx).1,hrb,fun z hz=>?_,hbs,hch⟩ ⟨fun i z hz=>(hzone i z hz).2,fun i x hx=>(hap i x hx).2,fun i x hx=>(hsh i x hx).2⟩
    rcases GA (fun z:Qx=>decide (((z.Cells.countP (Yc s):Nat):Int)<z.Keep)) s.Zones with ⟨i,y,hy,e,_⟩ | ⟨e,hb⟩
    ·exfalso;rw [e] at h;have:=of_decide_eq_true h;omega
    ·have:=hb z hz;simp at this;exact this
end Go.Taq
/- The mathematics, part NC: what may stand where (rules): cells, classes, who is carried, what stands at a cell, rooms. -/
set_option linter.unusedVariables false
set_option linter.unusedSimpArgs false
namespace Go.Taq
open Go
section
end
end Go.Taq
/- The mathematics, part ND: what is near, which shelves disturb each other, dropping (rules). -/
set_option linter.unusedVariables false
set_option linter.unusedSimpArgs false
namespace Go.Taq
open Go
section
end
end Go.Taq
/- The mathematics, part NE: dropping; the rules' statements: bounds, examples. -/
set_option linter.unusedVariables false
set_option linter.unusedSimpArgs false
namespace Go.Taq
open Go
section
end
/-! ## the examples -/
end Go.Taq
/- The mathematics, part NF: the rules' statements: examples, RulesApart. -/
set_option linter.unusedVariables false
set_option linter.unusedSimpArgs false
namespace Go.Taq
open Go
end Go.Taq
/- The mathematics, part NG: being near is symmetric; zones are apart; what changes where a shelf is put. -/
set_option linter.unusedVariables false
set_option linter.unusedSimpArgs false
namespace Go.Taq
open Go
section
end
end Go.Taq
