/- The mathematics, several parts in one text. -/
import Derived.Test.YtdcfcldpjfepiaaGreatLibZR
import Derived.Test.YtdcfcldpjfepiaaGreatMS
/- The mathematics, part QA: loops whose state has a counter and more; ranges over lists; lists of places. -/
set_option linter.unusedVariables false
set_option linter.unusedSimpArgs false
namespace Go.Taq
open Go
theorem Km {α τ:Type} {xs:List α} (hm:xs.length≤maxLen) (ix:τ→Int) (I:Nat→τ→Prop) {t0:τ} (hi0:ix t0=0) (h0:I 0 t0) {R:α→τ→(τ→Prop)→Prop} {E:τ→Prop}
  (hs:∀(i:Nat) x t,xs[i]?=some x→ix t=(i:Int)→I i t→R x t (fun t'=>ix t'=w64 ((i:Int)+1)∧I (i+1) t'))
  (he:∀t,I xs.length t→E t):
  Loop (fun t Y=>Ite (decide (ix t<(xs.length:Int))) (∃x,idx xs (ix t)=some x∧R x t Y) (E t)) t0:=by
 refine Loop.inv xs.length (fun i t=>ix t=(i:Int)∧I i t) ⟨by simpa using hi0,h0⟩ (fun i t hi h=>?_) (fun t h=>?_)
 ·have hx:xs[i]?=some (xs[i]'hi):=List.getElem?_eq_getElem hi
  refine Ite.lt (by omega) ⟨_,by rw [h.1];exact QD rfl hx,?_⟩
  have:=hs i _ t hx h.1 h.2
  rw [We hi hm] at this;exact this
 ·exact Ite.nlt (by omega) (he t h.2)
theorem Q0y {α τ:Type} {xs:List α} (hm:xs.length≤maxLen) (ix:τ→Int) (I:Nat→τ→Prop) {t0:τ} (hi0:ix t0=0) (h0:I 0 t0) {R:τ→(τ→Prop)→Prop} {E:τ→Prop}
  (hs:∀(i:Nat) x t,xs[i]?=some x→ix t=(i:Int)→I i t→R t (fun t'=>ix t'=w64 ((i:Int)+1)∧I (i+1) t'))
  (he:∀t,I xs.length t→E t):
  Loop (fun t Y=>Ite (decide (ix t<(xs.length:Int))) (R t Y) (E t)) t0:=by
 refine Loop.inv xs.length (fun i t=>ix t=(i:Int)∧I i t) ⟨by simpa using hi0,h0⟩ (fun i t hi h=>?_) (fun t h=>?_)
 ·have hx:xs[i]?=some (xs[i]'hi):=List.getElem?_eq_getElem hi
  refine Ite.lt (by omega) ?_
  have:=hs i _ t hx h.1 h.2
  rw [We hi hm] at this;exact this
 ·exact Ite.nlt (by omega) (he t h.2)
theorem Each.inv {α σ:Type} {body:α→σ→(σ→Prop)→Prop} {k:σ→Prop}:∀(ys:List α) (I:Nat→σ→Prop) {s0:σ},I 0 s0→(∀(i:Nat) x s,ys[i]?=some x→I i s→∀Y:σ→Prop,(∀s',I (i+1) s'→Y s')→body x s Y)→(∀s,I ys.length s→k s)→Each body k ys s0
 | [],I,s0,h0,_,he=>he _ h0
 | y :: ys,I,s0,h0,hs,he=>hs 0 y s0 rfl h0 _ fun s' h'=>Each.inv ys (fun i=>I (i+1)) h' (fun i x s hx hI Y hY=>hs (i+1) x s (by simpa using hx) hI Y hY) (fun s h=>he s h)
theorem Q22 {τ:Type} (n:Nat) (ix:τ→Int) (I:Nat→τ→Prop) {t0:τ} (hn:n≤maxLen) (hi0:ix t0=0) (h0:I 0 t0) {R:τ→(τ→Prop)→Prop} {E:τ→Prop}
  (hs:∀(i:Nat) t,i<n→ix t=(i:Int)→I i t→R t (fun t'=>ix t'=w64 ((i:Int)+1)∧I (i+1) t'))
  (he:∀t,I n t→E t):
  Loop (fun t Y=>Ite (decide (ix t<(n:Int))) (R t Y) (E t)) t0:=by
 refine Loop.inv n (fun i t=>ix t=(i:Int)∧I i t) ⟨by simpa using hi0,h0⟩ (fun i t hi h=>?_) (fun t h=>?_)
 ·refine Ite.lt (by omega) ?_
  have:=hs i t hi h.1 h.2
  rw [We hi hn] at this;exact this
 ·exact Ite.nlt (by omega) (he t h.2)
def fnat (p:Nat→Bool) (n:Nat):Int:=match (List.range n).find? p with | some i=>i | none=>-1
theorem Q3e {p:Nat→Bool} {n i:Nat} (hi:i<n) (hp:p i=true) (hb:∀j,j<i→p j=false):fnat p n=i:=by
 unfold fnat
 have:(List.range n).find? p=some i:=by
  rw [List.find?_eq_some_iff_getElem]
  refine⟨hp,i,by simpa using hi,by simp,fun j hj=>?_⟩
  simp [hb j hj]
 rw [this]
theorem Q3n {p:Nat→Bool} {n:Nat} (h:∀i,i<n→p i=false):fnat p n=-1:=by
 unfold fnat
 have:(List.range n).find? p=none:=by
  rw [List.find?_eq_none]
  intro x hx;simp at hx;simp [h x hx]
 rw [this]
theorem Yh (p:Nat→Bool) (n:Nat):(∃i:Nat,i<n∧fnat p n=i∧p i=true∧∀j,j<i→p j=false)∨(fnat p n=-1∧∀i,i<n→p i=false):=by
 cases h:(List.range n).find? p with
 | none=>
  refine .inr ?_
  have h':∀i,i<n→p i=false:=fun i hi=>by
   have:=List.find?_eq_none.1 h i (by simpa using hi);simpa using this
  exact⟨Q3n h',h'⟩
 | some i=>
  refine .inl ⟨i,?_⟩
  have hp:p i=true:=List.find?_some h
  have hlt:i<n:=by have:=List.mem_of_find?_eq_some h;simpa using this
  have hb':∀j,j<i→p j=false:=by
   rw [List.find?_eq_some_iff_getElem] at h
   obtain⟨_,k,hk,hki,hall⟩:=h
   simp at hki;subst hki
   intro j hj;have:=hall j hj;simpa using this
  exact⟨hlt,Q3e hlt hp hb',hp,hb'⟩
theorem XR {α:Type} (p:α→Bool) (xs:List α):(∃(i:Nat) (x:α),xs[i]?=some x∧fidx p xs=i∧p x=true∧∀(j:Nat) (y:α),j<i→xs[j]?=some y→p y=false)∨(fidx p xs=-1∧∀x,x∈xs→p x=false):=by
 unfold fidx
 cases h:xs.findIdx? p with
 | none=>
  refine .inr ⟨rfl,fun x hx=>?_⟩
  rw [List.findIdx?_eq_none_iff] at h;exact h x hx
 | some i=>
  obtain⟨hlt,hp,hb⟩:=List.findIdx?_eq_some_iff_getElem.1 h
  refine .inl ⟨i,xs[i],List.getElem?_eq_getElem hlt,rfl,hp,fun j y hj hy=>?_⟩
  have:=hb j hj
  have hyj:=(List.getElem?_eq_some_iff.1 hy).2
  rw [←hyj];simpa using this
theorem QL {α:Type} {xs:List α} {i:Nat} {x:α} (h:xs[i]?=some x):xs.take (i+1)=xs.take i++[x]:=by
 rw [List.take_add_one,h];rfl
theorem Q5x {α:Type} {xs:List α} (hm:xs.length≤maxLen) (z0:α) (p:α→Bool) {T:α→(Bool→Prop)→Prop} (hT:∀x,x∈xs→∀{q:Bool→Prop},q (p x)→T x q) {post:List α→Prop} (hp:post (xs.filter fun x=>!p x)):
  Ite (fidx p xs == (-1)) (post xs) (Jn (fun (J:(List α×Int)→Prop)=>Loop (fun (s:List α×Int×Int) Y=>Ite (decide (s.2.2<(s.1.length:Int)))
   (∃x,idx s.1 s.2.2=some x∧T x (fun b=>Jn (fun (J27:(List α×Int)→Prop)=>Ite (!b) (∃y,idx s.1 s.2.1=some y∧J27 ((s.1.set (Int.toNat s.2.1) x),w64 (s.2.1+1))) (J27 (s.1,s.2.1))) (fun (x26:List α×Int)=>Y (x26.1,x26.2,w64 (s.2.2+1)))))
   (J (s.1,s.2.1))) (xs,fidx p xs,w64 (fidx p xs+1)))
   (fun (x:List α×Int)=>(0≤x.2∧x.2≤(x.1.length:Int)∧(x.1.length:Int)≤(x.1.length:Int))∧((Int.toNat x.2)+(Int.toNat ((x.1.length:Int)-x.2))≤x.1.length) ∧
    (0≤(0:Int)∧(0:Int)≤x.2∧x.2≤((x.1.take (Int.toNat x.2)++(List.replicate (Int.toNat ((x.1.length:Int)-x.2)) z0++x.1.drop ((Int.toNat x.2)+(Int.toNat ((x.1.length:Int)-x.2))))).length:Int)) ∧
    post (sub (x.1.take (Int.toNat x.2)++(List.replicate (Int.toNat ((x.1.length:Int)-x.2)) z0++x.1.drop ((Int.toNat x.2)+(Int.toNat ((x.1.length:Int)-x.2))))) 0 x.2))):=by
 rcases XR p xs with ⟨i0,x0,hx0,e,hp0,hb0⟩ | ⟨e,hb⟩
 ·rw [e]
  have hi0:=(List.getElem?_eq_some_iff.1 hx0).1
  refine Ite.f (beq_eq_false_iff_ne.2 (by omega)) ?_
  rw [We hi0 hm]
  have hfirst:(xs.take (i0+1)).filter (fun x=>!p x)=xs.take i0:=by
   rw [QL hx0,List.filter_append]
   have h1:(xs.take i0).filter (fun x=>!p x)=xs.take i0:=by
    rw [List.filter_eq_self]
    intro y hy
    obtain⟨j,hj⟩:=List.getElem?_of_mem hy
    have hlt:j<i0:=by have:=(List.getElem?_eq_some_iff.1 hj).1;simp at this;omega
    rw [List.getElem?_take,if_pos hlt] at hj
    simp [hb0 j y hlt hj]
   rw [h1];simp [List.filter_cons,hp0]
  refine Jn.mk (fun x:List α×Int=>x.1.length=xs.length∧∃i:Nat,x.2=(i:Int)∧i≤xs.length∧x.1.take i=xs.filter fun x=>!p x)
   (Loop.mk (fun t:List α×Int×Int=>t.1.length=xs.length∧∃i j:Nat,t.2.1=(i:Int)∧t.2.2=(j:Int)∧i<j∧j≤xs.length∧t.1.take i=(xs.take j).filter (fun x=>!p x)∧∀q,j≤q→t.1[q]?=xs[q]?) (fun t=>xs.length-t.2.2.toNat) ⟨rfl,i0,i0+1,rfl,rfl,by omega,by omega,hfirst.symm,fun _ _=>rfl⟩ ?_) ?_
  ·rintro⟨l,ti,tj⟩ ⟨hl,i,j,h1,h2,hij,hj,htk,hrest⟩
   simp only at hl h1 h2 htk hrest
   subst h1;subst h2
   refine Ite.mk (fun h=>?_) (fun h=>?_)
   ·simp [hl] at h
    have hx:xs[j]?=some (xs[j]'h):=List.getElem?_eq_getElem h
    refine⟨xs[j]'h,by rw [Q6g,hrest j (Nat.le_refl _),hx],hT _ (List.getElem_mem h) ?_⟩
    have hli:l[i]?=some (l[i]'(by omega)):=List.getElem?_eq_getElem (by omega)
    refine Jn.mk (fun x:List α×Int=>x.1.length=xs.length∧∃i':Nat,x.2=(i':Int)∧i'<j+1∧x.1.take i'=(xs.take (j+1)).filter (fun x=>!p x)∧∀q,j+1≤q→x.1[q]?=xs[q]?) (Ite.mk (fun hd=>⟨l[i]'(by omega),QD rfl hli,?_⟩) (fun hd=>?_)) ?_
    ·refine⟨by simp [hl],i+1,by simp only;rw [We (by omega:i<xs.length) hm],by omega,?_,fun q hq=>?_⟩
     ·have:(i:Int).toNat=i:=by omega
      simp only [this]
      rw [QL hx,List.filter_append,←htk]
      have hs:(l.set i (xs[j]'h))[i]?=some (xs[j]'h):=by rw [List.getElem?_set_self (by omega)]
      rw [QL hs,List.take_set_of_le (Nat.le_refl _)]
      simp [List.filter_cons,hd]
     ·have:(i:Int).toNat=i:=by omega
      simp only [this]
      rw [List.getElem?_set_ne (by omega)]
      exact hrest q (by omega)
    ·refine⟨hl,i,rfl,by omega,?_,fun q hq=>hrest q (by omega)⟩
     simp only
     rw [QL hx,List.filter_append,←htk]
     simp at hd
     simp [List.filter_cons,hd]
    ·rintro⟨l',ti'⟩ ⟨hl',i',h1',hij',htk',hrest'⟩
     simp only at hl' h1' htk' hrest' ⊢
     subst h1'
     refine⟨⟨hl',i',j+1,rfl,We (by omega:j<xs.length) hm,by omega,by omega,htk',hrest'⟩,?_⟩
     rw [We (by omega:j<xs.length) hm]
     have e1:((j+1:Nat):Int).toNat=j+1:=by omega
     have e2:((j:Nat):Int).toNat=j:=by omega
     rw [e1,e2];omega
   ·simp [hl] at h
    have:j=xs.length:=by omega
    subst this
    exact⟨hl,i,rfl,by omega,by rw [List.take_length] at htk;exact htk⟩
  ·rintro⟨l,ti⟩ ⟨hl,i,h1,hi,htk⟩
   simp only at hl h1 htk ⊢
   subst h1
   have e1:(i:Int).toNat=i:=by omega
   have e2:((l.length:Int)-(i:Int)).toNat=l.length-i:=by omega
   rw [e1,e2]
   refine⟨⟨by omega,by omega,by omega⟩,by omega,⟨by omega,by omega,by simp;omega⟩,?_⟩
   rw [sub0,List.take_append_of_le_length (by simp;omega),List.take_take,Nat.min_self,htk]
   exact hp
 ·rw [e]
  refine Ite.t (by decide) ?_
  have:xs.filter (fun x=>!p x)=xs:=by
   rw [List.filter_eq_self];intro x hx;simp [hb x hx]
  rw [this] at hp;exact hp
end Go.Taq
/- The mathematics, part NA: right floors and right sites, as the program sees them (floor.Right, survey.Right). -/
set_option linter.unusedVariables false
namespace Go.Taq
open Go
theorem Q8j {x y k:Int}:imax x y>k↔x>k∨y>k:=by unfold imax;split <;> omega
theorem Q30 {f:ApiFloor} {post:Bool→Prop} (hF:post false) (hT:RF f→post true):Gs f post:=by
 unfold Gs
 refine Jor3 (Ite.mk (fun _=>hF) (fun h1=>?_))
 simp only [Bool.or_eq_false_iff,decide_eq_false_iff_not,Q4i,Q8j] at h1
 obtain⟨⟨a1,a2⟩,a3⟩:=h1
 have e:=Q3V (f:=f) (by omega) (by omega) (by omega) (by omega) (by omega) (by omega)
 unfold XL
 rw [e.1]
 refine Jor3 (Ite.mk (fun _=>hF) (fun h2=>?_))
 simp only [Bool.or_eq_false_iff,decide_eq_false_iff_not,bne_eq_false_iff_eq] at h2
 obtain⟨⟨b1,b2⟩,b3⟩:=h2
 have hl:f.Kind.length≤maxLen:=by unfold maxLen;omega
 refine Jn.mk (fun _=>∀(i:Nat) x y,f.Kind[i]?=some x→f.Out[i]?=some y→0≤x∧x<7∧0≤y∧y≤63)
  (Km hl (fun s=>s) (fun n _=>∀(i:Nat) x y,i<n→f.Kind[i]?=some x→f.Out[i]?=some y→0≤x∧x<7∧0≤y∧y≤63) rfl (fun i x y h=>by omega) (fun n x t hx ht hall=>?_) (fun t h i x y hx hy=>h i x y (List.getElem?_eq_some_iff.1 hx).1 hx hy)) (fun _ h=>hT ?_)
 ·have hn:=(List.getElem?_eq_some_iff.1 hx).1
  have ho:f.Out[n]?=some (f.Out[n]'(by omega)):=List.getElem?_eq_getElem _
  refine Jn.eq (decide (x<0)||decide (x≥7)||decide (f.Out[n]'(by omega)<0)||decide (f.Out[n]'(by omega)>63)) ?_ ?_
  ·refine Ite.mk (fun h=>by rw [h];rfl) (fun h=>Ite.mk (fun h'=>by rw [h,h'];rfl) (fun h'=>⟨_,by rw [ht];exact QD rfl ho,Ite.mk (fun h''=>by rw [h,h',h''];rfl) (fun h''=>by rw [h,h',h''];rfl)⟩))
  ·refine Ite.mk (fun _=>hF) (fun h3=>⟨by rw [ht],fun i x' y' hi hx' hy'=>?_⟩)
   simp only [Bool.or_eq_false_iff,decide_eq_false_iff_not] at h3
   by_cases e:i=n
   ·subst e;rw [hx] at hx';rw [ho] at hy';cases hx';cases hy';omega
   ·exact hall i x' y' (by omega) hx' hy'
 ·exact⟨by omega,by omega,by omega,by omega,by omega,by omega,by omega,by omega,by omega,h⟩
def Q51 (x:ByteArray):Bool:=decide ((x.size:Int)<1)||decide ((x.size:Int)>20)||(decide (((x.data.toList.headD 0).toNat:Int)≥48)&&decide (((x.data.toList.headD 0).toNat:Int)≤57))
def Q8G:ByteArray:=ByteArray.mk #[97,98,99,100,101,102,103,104,105,106,107,108,109,110,111,112,113,114,115,116,117,118,119,120,121,122,65,66,67,68,69,70,71,72,73,74,75,76,77,78,79,80,81,82,83,84,85,86,87,88,89,90,48,49,50,51,52,53,54,55,56,57,95,45]
def nmB (x:ByteArray):Bool:=!Q51 x&&!(x.data.toList.any fun c=>decide (Q18 Q8G (c.toNat:Int)<0))
theorem Q79 {x:ByteArray} (h:nmB x=true):1≤x.size∧x.size≤20:=by
 unfold nmB Q51 at h
 simp only [Bool.and_eq_true,Bool.not_eq_true',Bool.or_eq_false_iff,decide_eq_false_iff_not] at h
 omega
theorem Zj {x:ByteArray} {post:Bool→Prop} (hx:OkS x) (hp:post (nmB x)):Kw x post:=by
 unfold Kw
 have hl:x.data.toList.length=x.size:=Array.length_toList
 have hm:x.data.toList.length≤maxLen:=by rw [hl];exact hx
 refine Jn.eq (Q51 x) (Ite.mk (fun h1=>?_) (fun h1=>Ite.mk (fun h2=>?_) (fun h2=>?_))) (Ite.mk (fun h=>?_) (fun h=>?_))
 ·unfold Q51;rw [h1];rfl
 ·unfold Q51;rw [h1,h2];rfl
 ·have hx0:x.data.toList[0]?=some (x.data.toList[0]'(by simp at h1;omega)):=List.getElem?_eq_getElem _
  have hh:x.data.toList.headD 0=x.data.toList[0]'(by simp at h1;omega):=by rw [List.headD_eq_head?_getD,List.head?_eq_getElem?,hx0];rfl
  unfold Q51;rw [h1,h2,hh]
  exact⟨_,QD rfl hx0,Ite.mk (fun h3=>by rw [h3];rfl) (fun h3=>by rw [h3];rfl)⟩
 ·unfold nmB at hp;rw [h] at hp;exact hp
 ·unfold nmB at hp;rw [h] at hp
  rw [show ((x.size:Nat):Int)=((x.data.toList.length:Nat):Int) by rw [hl]]
  exact Q9q hm (p:=fun c:UInt8=>decide (Q18 Q8G (c.toNat:Int)<0)) (post:=fun b=>post (!b)) (by simpa using hp)
theorem Yo {x:ByteArray} {post:Bool→Prop} (hx:OkS x) (hF:post false) (hT:1≤x.size→x.size≤20→nmB x=true→post true):Kw x post:=Zj hx (by
 cases h:nmB x with
 | false=>exact hF
 | true=>exact hT (Q79 h).1 (Q79 h).2 h)
theorem YB {n a b:Int} {post:Bool→Prop} (hp:post (decide (a≤n)&&decide (n≤b))):X8 n a b post:=by
 unfold X8
 exact Q0t hp
theorem Q1F {k:Int} {post:Bool→Prop} (hp:post (Q2f k)):XZ k post:=by
 unfold XZ
 exact Qat hp
theorem YV {k:Int} {post:Bool→Prop} (hp:post (Q04 k)):Xf k post:=by
 unfold Xf
 exact Jor2 hp
theorem Gl {m:SurveyMaker} {c:Int} {post:Int×Bool→Prop} (hp:post (if isC m.site.Floor c=true then (kd m.site.Floor c,true) else (0,false))):QQ m c post:=by
 unfold QQ
 refine Jor2 (Ite.mk (fun h=>?_) (fun h=>?_))
 ·have:isC m.site.Floor c=false:=by rw [Q43];simp at h;omega
  rw [if_neg (by simp [this])] at hp;exact hp
 ·have:isC m.site.Floor c=true:=by rw [QN];simp at h;omega
  rw [if_pos this] at hp
  exact⟨_,WP this,hp⟩
theorem Q2B {l:List XF} (hm:l.length≤maxLen) {post:Bool→Prop} (hF:post false) (hT:Yf 0 l→post true):Gr l post:=by
 unfold Gr
 refine Jn.mk (fun _=>Yf 0 l) (Km hm (fun s:Int×Int=>s.2) (fun n (s:Int×Int)=>Yf s.1 (l.drop n)→Yf 0 l) rfl (fun h=>h) (fun n x t hx ht hI=>?_) (fun t h=>h (by rw [List.drop_length];trivial))) (fun _ h=>hT h)
 have hd:l.drop n=x :: l.drop (n+1):=by
  obtain⟨hlt,he⟩:=List.getElem?_eq_some_iff.1 hx
  rw [List.drop_eq_getElem_cons hlt,he]
 refine Jor3 (Ite.mk (fun _=>hF) (fun h=>⟨by rw [ht],fun h'=>hI ?_⟩))
 simp only [Bool.or_eq_false_iff,decide_eq_false_iff_not] at h
 rw [hd]
 exact⟨by omega,by omega,by omega,h'⟩
theorem Q1S {m:SurveyMaker} {l:List Int} (hm:l.length≤maxLen) {post:Bool→Prop} (hF:post false)
  (hT:l≠[]→(∀c,c∈l→isC m.site.Floor c=true)→(∀(i:Nat) x y,l[i]?=some x→l[i+1]?=some y→x<y)→post true):Ko m l post:=by
 unfold Ko
 refine Jn.mk (fun _=>(∀c,c∈l→isC m.site.Floor c=true)∧∀(i:Nat) x y,l[i]?=some x→l[i+1]?=some y→x<y)
  (Km hm (fun s=>s) (fun n _=>(∀(i:Nat) c,i<n→l[i]?=some c→isC m.site.Floor c=true)∧∀(i:Nat) x y,i+1<n→l[i]?=some x→l[i+1]?=some y→x<y) rfl ⟨fun i c h=>by omega,fun i x y h=>by omega⟩ (fun n c t hc ht hI=>?_) (fun t h=>?_)) (fun _ h=>?_)
 ·refine Gl ?_
  refine Jn.mk (fun b=>b=false→isC m.site.Floor c=true∧∀x,0<n→l[n-1]?=some x→x<c) ?_ (fun b hb=>Ite.mk (fun _=>hF) (fun hb'=>⟨by rw [ht],?_,?_⟩))
  ·by_cases hcc:isC m.site.Floor c=true
   ·rw [if_pos hcc]
    refine Ite.t rfl (Ite.mk (fun h=>?_) (fun h=>fun _=>⟨hcc,fun x h0=>?_⟩))
    ·simp at h
     have hn:=(List.getElem?_eq_some_iff.1 hc).1
     have hx:l[n-1]?=some (l[n-1]'(by omega)):=List.getElem?_eq_getElem _
     refine⟨l[n-1]'(by omega),?_,fun h'=>⟨hcc,fun x h0 hx'=>?_⟩⟩
     ·have e1:w64 (t-1)=((n-1:Nat):Int):=by rw [ht,QF (by omega) (by unfold maxLen at hm;omega)];omega
      rw [e1];exact QD rfl hx
     ·rw [hx] at hx';cases hx';simp at h';exact h'
    ·simp at h;omega
   ·rw [if_neg hcc];exact Ite.f rfl (fun h=>by cases h)
  ·intro i x hi hx
   by_cases e:i=n
   ·subst e;rw [hc] at hx;cases hx;exact (hb hb').1
   ·exact hI.1 i x (by omega) hx
  ·intro i x y hi hx hy
   by_cases e:i+1=n
   ·subst e;rw [hc] at hy;cases hy;exact (hb hb').2 x (by omega) (by simpa using hx)
   ·exact hI.2 i x y (by omega) hx hy
 ·refine⟨fun c hc=>?_,fun i x y hx hy=>h.2 i x y (List.getElem?_eq_some_iff.1 hy).1 hx hy⟩
  obtain⟨i,hi⟩:=List.getElem?_of_mem hc
  exact h.1 i c (List.getElem?_eq_some_iff.1 hi).1 hi
 ·cases l with
  | nil=>simpa using hF
  | cons a r=>exact hT (by simp) h.1 h.2 |> fun h=>by simpa using h
structure MInv (s:ApiSite) (nz na ns nr:Nat) (m:SurveyMaker):Prop where
 fl:m.site.Floor=s.Floor
 zs:m.site.Zones=s.Zones.take nz
 aps:m.site.Aparts=s.Aparts.take na
 sh:m.site.Shelves=s.Shelves.take ns
 rs:m.site.Robots=s.Robots.take nr
 names:∀n,(lk m.names n).isSome=(s.Zones.take nz).any fun z=>seq z.Name n
 zoned:∀c,(lk m.zoned c).getD false=zAt (s.Zones.take nz) c
 shelf:∀c,lk m.shelf c=if 0≤shAt (s.Shelves.take ns) c then some (shAt (s.Shelves.take ns) c) else none
 robot:∀c,(lk m.robot c).getD false=rbAt (s.Robots.take nr) c
theorem Q8c (l:List Qk) (z:Qk) (c:Int):zAt (l++[z]) c=(zAt l c||z.Cells.contains c):=by simp [zAt]
theorem Q0U {s:ApiSite} (k:OkApiSite s) {n:Nat} {m:SurveyMaker} (hI:MInv s n 0 0 0 m) {z:Qk} (hz:s.Zones[n]?=some z) {post:Int×SurveyMaker→Prop} (hE:∀e,e≠0→post (e,m))
  (hT:n<64→(∀y,y∈s.Zones.take n→seq y.Name z.Name=false)→(∀c,c∈z.Cells→isC s.Floor c=true∧Q2f (kd s.Floor c)=true∧zAt (s.Zones.take n) c=false)→∀m',MInv s (n+1) 0 0 0 m'→post (0,m')):
  K4 z m post:=by
 have kz:=k.Zones.2 z (List.mem_of_getElem? hz)
 have hn:=(List.getElem?_eq_some_iff.1 hz).1
 unfold K4
 refine Ite.mk (fun _=>hE 5 (by decide)) (fun h1=>Ite.mk (fun _=>hE 6 (by decide)) (fun h2=>?_))
 rw [hI.names] at h1
 have hlen:m.site.Zones.length=n:=by rw [hI.zs];simp;omega
 rw [hlen] at h2
 simp at h2
 refine Jn.mk (fun _=>∀c,c∈z.Cells→isC s.Floor c=true∧Q2f (kd s.Floor c)=true∧zAt (s.Zones.take n) c=false)
  (Km kz.Cells.1 (fun t=>t) (fun i _=>∀(j:Nat) c,j<i→z.Cells[j]?=some c→isC s.Floor c=true∧Q2f (kd s.Floor c)=true∧zAt (s.Zones.take n) c=false) rfl (fun j c h=>by omega) (fun i c t hc ht hall=>?_) (fun t h c hc=>?_)) (fun _ hall=>?_)
 ·refine Gl ?_
  rw [hI.fl]
  refine Jn.mk (fun b=>b=false→isC s.Floor c=true∧Q2f (kd s.Floor c)=true∧zAt (s.Zones.take n) c=false) (Q1F ?_) (fun b hb=>Ite.mk (fun _=>hE 13 (by decide)) (fun hb'=>⟨by rw [ht],fun j c' hj hc'=>?_⟩))
  ·by_cases hcc:isC s.Floor c=true
   ·rw [if_pos hcc]
    refine Ite.mk (fun h=>?_) (fun _ h=>by cases h)
    rw [hI.zoned]
    exact fun h'=>⟨hcc,h,h'⟩
   ·rw [if_neg hcc]
    exact Ite.f (by decide) (fun h=>by cases h)
  ·by_cases e:j=i
   ·subst e;rw [hc] at hc';cases hc';exact hb hb'
   ·exact hall j c' (by omega) hc'
 ·obtain⟨j,hj⟩:=List.getElem?_of_mem hc
  exact h j c (List.getElem?_eq_some_iff.1 hj).1 hj
 ·refine Jn.mk (fun zm=>∀c,(lk zm c).getD false=(zAt (s.Zones.take n) c||z.Cells.contains c))
   (Km kz.Cells.1 (fun t:List (Int×Bool)×Int=>t.2) (fun i t=>∀c,(lk t.1 c).getD false=(zAt (s.Zones.take n) c||(z.Cells.take i).contains c)) rfl (fun c=>by simp [hI.zoned]) (fun i x t hx ht h=>⟨by rw [ht],fun c=>?_⟩) (fun t h c=>by have:=h c;rwa [List.take_length] at this)) (fun zm hzm=>⟨by rw [hlen];simp;omega,?_⟩)
  ·rw [Wu,QL hx]
   by_cases e:x=c
   ·subst e;simp
   ·rw [if_neg e,h c]
    simp [show ¬c=x from fun h=>e h.symm]
  ·refine hT (by omega) (fun y hy=>?_) hall _ ⟨hI.fl,?_,hI.aps,hI.sh,hI.rs,fun nm=>?_,fun c=>?_,hI.shelf,hI.robot⟩
   ·exact Bool.eq_false_iff.2 (List.any_eq_false.1 h1 y hy)
   ·show m.site.Zones++[z]=_;rw [hI.zs,QL hz]
   ·show (lk (upd m.names z.Name _) nm).isSome=_
    rw [Wu,QL hz,List.any_append]
    by_cases e:z.Name=nm
    ·rw [if_pos e];simp [Q0Q.2 e]
    ·rw [if_neg e,hI.names]
     have:seq z.Name nm=false:=by rw [Bool.eq_false_iff];exact fun h=>e (Q0Q.1 h)
     simp [this]
   ·show (lk zm c).getD false=_
    rw [hzm c,QL hz,Q8c]
theorem Q90 {α:Type} (l:List α) (p q:α→Bool):(l.any fun x=>p x||q x)=(l.any p||l.any q):=by
 induction l with
 | nil=>rfl
 | cons x l ih=>simp only [List.any_cons,ih];cases p x <;> cases q x <;> simp
theorem Yt {l:List Q9} (hm:l.length≤maxLen) {v:Q9} {post:Bool→Prop} (hp:post (l.any fun x=>seq x.A v.A&&seq x.B v.B)):Qw l v post:=by
 unfold Qw QU
 have e:(fun x:Q9=>seq v.A x.A&&(seq v.B x.B&&true))=fun x=>seq x.A v.A&&seq x.B v.B:=by
  funext x
  have c:∀a b,seq a b=seq b a:=fun a b=>by rw [Bool.eq_iff_iff,Q0Q,Q0Q];exact eq_comm
  rw [Bool.and_true,c v.A,c v.B]
 refine Q8T hm (p:=fun x:Q9=>seq v.A x.A&&(seq v.B x.B&&true)) ?_
 rw [Q01,e];exact hp
theorem Zl {l:List Q9} (hm:l.length≤maxLen) {a b:ByteArray} {post:Bool→Prop} (hp:post (apB l a b)):Xv l a b post:=by
 unfold Xv
 refine Jor2 (Ite.mk (fun h=>?_) (fun h=>?_))
 ·have:apB l a b=false:=by
   unfold apB nosh
   cases h1:seq a ByteArray.empty <;> simp_all
  rw [this] at hp;exact hp
 ·have e:apB l a b=((l.any fun x=>seq x.A a&&seq x.B b)||(l.any fun x=>seq x.A b&&seq x.B a)):=by
   simp only [Bool.or_eq_false_iff] at h
   have h1:nosh a=false:=h.1
   have h2:nosh b=false:=h.2
   unfold apB
   rw [h1,h2]
   simp only [Bool.not_false,Bool.true_and]
   exact Q90 l _ _
  refine Jn.mk' (Yt hm (Ite.mk (fun h1=>?_) (fun h1=>Yt hm ?_)))
  ·rw [e,h1] at hp;exact hp
  ·rw [e,h1] at hp;exact hp
theorem Q0x {s:ApiSite} (k:OkApiSite s) (hf:s.Aparts.length≤1000000) {nz n:Nat} {m:SurveyMaker} (hI:MInv s nz n 0 0 m) {x:Q9} (hx:s.Aparts[n]?=some x) {post:Int×SurveyMaker→Prop} (hE:∀e,e≠0→post (e,m))
  (hT:1≤x.A.size∧1≤x.B.size∧apB (s.Aparts.take n) x.A x.B=false→nmB x.A=true∧nmB x.B=true→∀m',MInv s nz (n+1) 0 0 m'→post (0,m')):K1 x m post:=by
 have kx:=k.Aparts.2 x (List.mem_of_getElem? hx)
 have hn:=(List.getElem?_eq_some_iff.1 hx).1
 have hm:(s.Aparts.take n).length≤maxLen:=Nat.le_trans (by simp;omega) k.Aparts.1
 unfold K1
 refine Jn.mk (fun b=>b=false→(1≤x.A.size∧1≤x.B.size)∧nmB x.A=true∧nmB x.B=true) (Yo kx.A (Ite.f rfl (fun h=>by cases h)) (fun a1 a2 a3=>Ite.t rfl (Yo kx.B (fun h=>by cases h) (fun b1 b2 b3 _=>⟨⟨a1,b1⟩,a3,b3⟩)))) (fun b hb=>Ite.mk (fun _=>hE 12 (by decide)) (fun hb'=>?_))
 obtain⟨⟨a1,b1⟩,hnm⟩:=hb hb'
 rw [hI.aps]
 refine Zl hm (Ite.mk (fun _=>hE 5 (by decide)) (fun h=>⟨by simp;omega,hT ⟨a1,b1,h⟩ hnm _ ⟨hI.fl,hI.zs,?_,hI.sh,hI.rs,hI.names,hI.zoned,hI.shelf,hI.robot⟩⟩))
 show s.Aparts.take n++[x]=_;rw [QL hx]
theorem Q6H (l:List Qm) (x:Qm) (c:Int):shAt (l++[x]) c=if 0≤shAt l c then shAt l c else if x.Cell=c then l.length else -1:=by
 unfold shAt
 rcases XR (fun y:Qm=>y.Cell == c) l with ⟨i,y,hy,e,hp,hb⟩ | ⟨e,hb⟩
 ·rw [e,if_pos (by omega)]
  have hlt:=(List.getElem?_eq_some_iff.1 hy).1
  rcases XR (fun y:Qm=>y.Cell == c) (l++[x]) with ⟨i',y',hy',e',hp',hb'⟩ | ⟨e',hb'⟩
  ·rw [e']
   have h1:¬i<i':=fun h=>by
    have:=hb' i y h (by rw [List.getElem?_append_left hlt];exact hy);rw [hp] at this;cases this
   have h2:¬i'<i:=fun h=>by
    have:=hb i' y' h (by rw [List.getElem?_append_left (by omega)] at hy';exact hy');rw [hp'] at this;cases this
   omega
  ·have:=hb' y (List.mem_append_left _ (List.mem_of_getElem? hy));rw [hp] at this;cases this
 ·rw [e,if_neg (by omega)]
  by_cases hc:x.Cell=c
  ·rw [if_pos hc]
   rcases XR (fun y:Qm=>y.Cell == c) (l++[x]) with ⟨i',y',hy',e',hp',hb'⟩ | ⟨e',hb'⟩
   ·rw [e']
    have:i'=l.length:=by
     rcases Nat.lt_or_ge i' l.length with h | h
     ·rw [List.getElem?_append_left h] at hy'
      have:=hb y' (List.mem_of_getElem? hy');rw [hp'] at this;cases this
     ·have:=(List.getElem?_eq_some_iff.1 hy').1;simp at this;omega
    rw [this]
   ·have:=hb' x (by simp);simp [hc] at this
  ·rw [if_neg hc]
   rcases XR (fun y:Qm=>y.Cell == c) (l++[x]) with ⟨i',y',hy',e',hp',hb'⟩ | ⟨e',hb'⟩
   ·rcases List.mem_append.1 (List.mem_of_getElem? hy') with h | h
    ·have:=hb y' h;rw [hp'] at this;cases this
    ·simp at h;subst h;simp [hc] at hp'
   ·exact e'
theorem Q0E {s:ApiSite} (k:OkApiSite s) (hs:s.Shelves.length≤1000000) {nz na n:Nat} {m:SurveyMaker} (hI:MInv s nz na n 0 m) {x:Qm} (hx:s.Shelves[n]?=some x) {post:Int×SurveyMaker→Prop} (hE:∀e,e≠0→post (e,m))
  (hT:n<3000→isC s.Floor x.Cell=true∧Q04 (kd s.Floor x.Cell)=true∧shAt (s.Shelves.take n) x.Cell<0→(seq x.Class ByteArray.empty||nmB x.Class)=true→∀m',MInv s nz na (n+1) 0 m'→post (0,m')):K2 x m post:=by
 have kx:=k.Shelves.2 x (List.mem_of_getElem? hx)
 have hn:=(List.getElem?_eq_some_iff.1 hx).1
 have hlen:m.site.Shelves.length=n:=by rw [hI.sh];simp;omega
 unfold K2
 refine Jn.mk (fun b=>b=!(seq x.Class ByteArray.empty||nmB x.Class)) (Ite.mk (fun h=>by rw [h];rfl) (fun h=>Zj kx.Class (by rw [h];rfl))) (fun b hb=>Ite.mk (fun _=>hE 12 (by decide)) (fun hb'=>Gl ?_))
 have hnm:(seq x.Class ByteArray.empty||nmB x.Class)=true:=by rw [hb'] at hb;have:=hb.symm;rwa [Bool.not_eq_false'] at this
 rw [hI.fl]
 by_cases hc:isC s.Floor x.Cell=true
 ·rw [if_pos hc]
  refine Ite.f rfl (YV (Ite.mk (fun _=>hE 13 (by decide)) (fun h1=>Ite.mk (fun _=>hE 5 (by decide)) (fun h2=>Ite.mk (fun _=>hE 6 (by decide)) (fun h3=>?_)))))
  rw [hlen] at h3 ⊢
  rw [hI.shelf] at h2
  have h2':shAt (s.Shelves.take n) x.Cell<0:=by
   by_cases h:0≤shAt (s.Shelves.take n) x.Cell
   ·rw [if_pos h] at h2;cases h2
   ·omega
  simp at h1 h3
  refine⟨by simp;omega,hT (by omega) ⟨hc,h1,h2'⟩ hnm _ ⟨rfl,hI.zs,hI.aps,?_,hI.rs,hI.names,hI.zoned,fun c=>?_,hI.robot⟩⟩
  ·show m.site.Shelves++[x]=_;rw [hI.sh,QL hx]
  ·show lk (upd m.shelf x.Cell (n:Int)) c=_
   rw [Wu,QL hx,Q6H]
   have hl:(s.Shelves.take n).length=n:=by simp;omega
   by_cases e:x.Cell=c
   ·subst e
    have e0:¬0≤shAt (s.Shelves.take n) x.Cell:=by omega
    simp only [if_neg e0,if_true,hl]
    rw [if_pos (by omega)]
   ·rw [if_neg e,if_neg e,hI.shelf c]
    by_cases h:0≤shAt (s.Shelves.take n) c
    ·rw [if_pos h,if_pos h,if_pos h]
    ·rw [if_neg h,if_neg h,if_neg (by omega)]
 ·rw [if_neg hc];exact Ite.t rfl (hE 3 (by decide))
theorem Q72 (l:List Ql) (x:Ql) (c:Int):rbAt (l++[x]) c=(rbAt l c||x.Cell == c):=by simp [rbAt]
theorem Q0o {s:ApiSite} (k:OkApiSite s) (hs:s.Robots.length≤1000000) {nz na ns n:Nat} {m:SurveyMaker} (hI:MInv s nz na ns n m) {x:Ql} (hx:s.Robots[n]?=some x) {post:Int×SurveyMaker→Prop} (hE:∀e,e≠0→post (e,m))
  (hT:n<200→isC s.Floor x.Cell=true∧0≤x.Charge∧x.Charge≤1000000∧kd s.Floor x.Cell≠0∧rbAt (s.Robots.take n) x.Cell=false→∀m',MInv s nz na ns (n+1) m'→post (0,m')):K0 x m post:=by
 have hn:=(List.getElem?_eq_some_iff.1 hx).1
 have hlen:m.site.Robots.length=n:=by rw [hI.rs];simp;omega
 unfold K0
 refine Gl ?_
 rw [hI.fl]
 by_cases hc:isC s.Floor x.Cell=true
 ·rw [if_pos hc]
  refine Jn.mk (fun b=>b=false→0≤x.Charge∧x.Charge≤1000000) (Ite.t rfl (YB (fun h=>by simp at h;omega))) (fun b hb=>Ite.mk (fun _=>hE 3 (by decide)) (fun hb'=>Ite.mk (fun _=>hE 13 (by decide)) (fun h1=>Ite.mk (fun _=>hE 5 (by decide)) (fun h2=>Ite.mk (fun _=>hE 6 (by decide)) (fun h3=>?_)))))
  rw [hlen] at h3 ⊢
  rw [hI.robot] at h2
  simp at h1 h3
  refine⟨by simp;omega,hT (by omega) ⟨hc,(hb hb').1,(hb hb').2,h1,h2⟩ _ ⟨rfl,hI.zs,hI.aps,hI.sh,?_,hI.names,hI.zoned,hI.shelf,fun c=>?_⟩⟩
  ·show m.site.Robots++[x]=_;rw [hI.rs,QL hx]
  ·show (lk (upd m.robot x.Cell true) c).getD false=_
   rw [Wu,QL hx,Q72]
   by_cases e:x.Cell=c
   ·rw [if_pos e];simp [e]
   ·rw [if_neg e,hI.robot];simp [e]
 ·rw [if_neg hc]
  exact Jn.mk (fun b=>b=true) (Ite.f rfl rfl) (fun b hb=>Ite.t hb (hE 3 (by decide)))
end Go.Taq
/- The mathematics, part NB: survey.Right. -/
set_option linter.unusedVariables false
namespace Go.Taq
open Go
abbrev MAll (s:ApiSite) (m:SurveyMaker):Prop:=MInv s s.Zones.length s.Aparts.length s.Shelves.length s.Robots.length m
section
variable {s:ApiSite} {m:SurveyMaker}
theorem MInv.zs' (h:MAll s m):m.site.Zones=s.Zones:=by rw [h.zs,List.take_length]
theorem MInv.as' (h:MAll s m):m.site.Aparts=s.Aparts:=by rw [h.aps,List.take_length]
theorem MInv.sh' (h:MAll s m):m.site.Shelves=s.Shelves:=by rw [h.sh,List.take_length]
theorem MInv.shelf' (h:MAll s m) (c:Int):lk m.shelf c=if 0≤shAt s.Shelves c then some (shAt s.Shelves c) else none:=by
 have:=h.shelf c;rwa [List.take_length] at this
theorem Q8e {l:List Qm} {f:ApiFloor} (hc:∀x,x∈l→isC f x.Cell=true) {c:Int} (h:0≤shAt l c):0≤c:=by
 unfold shAt at h
 rcases XR (fun y:Qm=>y.Cell == c) l with ⟨i,y,hy,e,hp,_⟩ | ⟨e,_⟩
 ·have:=(QN.1 (hc y (List.mem_of_getElem? hy))).1
  rw [←eq_of_beq hp];exact this
 ·rw [e] at h;omega
theorem Q1v (k:OkApiSite s) (hf:RF s.Floor) (h:MAll s m) (hc:∀x,x∈s.Shelves→isC s.Floor x.Cell=true) {post:Int→Prop} (hF:∀i:Nat,i<s.Shelves.length→(∃d:Int,0≤d∧d<4∧Q2F s i d)→post (i:Int))
  (hT:(∀(i:Nat) (d:Int),0≤d→d<4→¬Q2F s i d)→post (-1)):Kg m post:=by
 unfold Kg
 rw [h.sh',h.fl,h.as']
 refine Jn.mk (fun _=>∀(i:Nat) (d:Int),i<s.Shelves.length→0≤d→d<4→¬Q2F s i d)
  (Q0y (xs:=s.Shelves) k.Shelves.1 (fun t=>t) (fun n _=>∀(i:Nat) (d:Int),i<n→0≤d→d<4→¬Q2F s i d) rfl (fun i d h=>by omega) (fun n x t hx ht hall=>?_) (fun t h=>h)) (fun _ h=>hT (fun i d h0 h1 hb=>?_))
 ·have hn:=(List.getElem?_eq_some_iff.1 hx).1
  have hxc:=hc x (List.mem_of_getElem? hx)
  refine Jn.mk (fun _=>∀d:Int,0≤d→d<4→¬Q2F s n d) ⟨x,by rw [ht];exact QD rfl hx,Q23 hf hxc ?_⟩ (fun _ hd=>⟨by rw [ht],fun i d hi h0 h1=>?_⟩)
  ·have hb:=p_bd hf hxc
   have w:=hf.W4;have hh:=hf.H4;have hd:=hf.D4
   dsimp only
   rw [QF (x:=pX s.Floor x.Cell+1) (by omega) (by omega),QF (x:=pY s.Floor x.Cell+1) (by omega) (by omega),QF (x:=pX s.Floor x.Cell-1) (by omega) (by omega),QF (x:=pY s.Floor x.Cell-1) (by omega) (by omega)]
   refine W0 hf (W0 hf (W0 hf (W0 hf ?_)))
   have n0:XA s.Floor (pX s.Floor x.Cell+1) (pY s.Floor x.Cell) (pZ s.Floor x.Cell)=nbr s.Floor x.Cell 0:=by simp [nbr,hxc]
   have n1:XA s.Floor (pX s.Floor x.Cell) (pY s.Floor x.Cell+1) (pZ s.Floor x.Cell)=nbr s.Floor x.Cell 1:=by simp [nbr,hxc]
   have n2:XA s.Floor (pX s.Floor x.Cell-1) (pY s.Floor x.Cell) (pZ s.Floor x.Cell)=nbr s.Floor x.Cell 2:=by simp [nbr,hxc]
   have n3:XA s.Floor (pX s.Floor x.Cell) (pY s.Floor x.Cell-1) (pZ s.Floor x.Cell)=nbr s.Floor x.Cell 3:=by simp [nbr,hxc]
   rw [n0,n1,n2,n3]
   have hl:∀(i:Nat) (c:Int),[nbr s.Floor x.Cell 0,nbr s.Floor x.Cell 1,nbr s.Floor x.Cell 2,nbr s.Floor x.Cell 3][i]?=some c→c=nbr s.Floor x.Cell (i:Int)∧i<4:=fun i c hi=>by
    match i,hi with
    | 0,hi=>simp at hi;exact⟨hi.symm,by omega⟩
    | 1,hi=>simp at hi;exact⟨hi.symm,by omega⟩
    | 2,hi=>simp at hi;exact⟨hi.symm,by omega⟩
    | 3,hi=>simp at hi;exact⟨hi.symm,by omega⟩
   refine Jn.mk (fun _=>∀d:Int,0≤d→d<4→¬Q2F s n d)
    (Km (xs:=[nbr s.Floor x.Cell 0,nbr s.Floor x.Cell 1,nbr s.Floor x.Cell 2,nbr s.Floor x.Cell 3]) (by simp [maxLen]) (fun t=>t) (fun q _=>∀d:Int,0≤d→d<q→¬Q2F s n d) rfl (fun d h0 h1=>by omega) (fun q c t' hq ht' hqa=>?_) (fun t' h' d h0 h1=>h' d h0 (by simpa using h1))) (fun _ h'=>h')
   obtain⟨rfl,hq4⟩:=hl q c hq
   rw [h.shelf']
   refine Jn.mk (fun b=>b=true↔Q2F s n q) ?_ (fun b hb'=>Ite.mk (fun hbt=>by rw [ht];exact hF n hn ⟨q,by omega,by omega,hb'.1 hbt⟩) (fun hb''=>⟨by rw [ht'],fun d h0 h1=>?_⟩))
   ·by_cases h1:0≤shAt s.Shelves (nbr s.Floor x.Cell q)
    ·rw [if_pos h1]
     refine Ite.t rfl (Ite.mk (fun h2=>?_) (fun h2=>⟨fun h=>(by cases h),?_⟩))
     ·simp at h2
      have hlt:(shAt s.Shelves (nbr s.Floor x.Cell q)).toNat<s.Shelves.length:=by omega
      have hy:s.Shelves[(shAt s.Shelves (nbr s.Floor x.Cell q)).toNat]?=some (s.Shelves[(shAt s.Shelves (nbr s.Floor x.Cell q)).toNat]'hlt):=List.getElem?_eq_getElem _
      refine⟨_,QD (n:=(shAt s.Shelves (nbr s.Floor x.Cell q)).toNat) (by simp;omega) hy,Zl k.Aparts.1 ⟨fun h3=>⟨x,_,hx,?_,h1,by omega,QD (n:=(shAt s.Shelves (nbr s.Floor x.Cell q)).toNat) (by omega) hy,h3⟩,?_⟩⟩
      ·exact Q8e hc h1
      rintro⟨x',y',hx',_,_,_,h5,h6⟩
      rw [hx] at hx';cases hx'
      rw [QD (n:=(shAt s.Shelves (nbr s.Floor x.Cell q)).toNat) (by omega) hy] at h5;cases h5
      exact h6
     ·simp at h2
      rintro⟨x',y',hx',_,_,h5,_⟩
      rw [hx] at hx';cases hx';exfalso;omega
    ·rw [if_neg h1]
     refine Ite.f rfl ⟨fun h=>(by cases h),?_⟩
     rintro⟨x',y',hx',_,h5,_⟩
     rw [hx] at hx';cases hx';exfalso;omega
   ·by_cases e:d=q
    ·subst e;exact fun hbb=>by rw [hb'.2 hbb] at hb'';cases hb''
    ·exact hqa d h0 (by omega)
  ·by_cases e:i=n
   ·subst e;exact hd d h0 h1
   ·exact hall i d (by omega) h0 h1
 ·obtain⟨x,y,hx,_⟩:=id hb
  exact h i d (List.getElem?_eq_some_iff.1 hx).1 h0 h1 hb
theorem Q4c {p:Int→Bool} {l:List Int} {i:Nat} {c:Int} (h:l[i]?=some c):(l.take (i+1)).countP p=(l.take i).countP p+if p c=true then 1 else 0:=by
 rw [QL h,List.countP_append,List.countP_singleton]
theorem Q0z (k:OkApiSite s) (h:MAll s m) {z:Qk} (hz:z.Cells.length≤maxLen) (hc:∀c,c∈z.Cells→isC s.Floor c=true) {post:Bool→Prop} (hp:post (decide ((z.Cells.countP (YU s):Nat)<z.Keep))):QY z m post:=by
 unfold QY
 refine Jn.mk (fun n=>n=((z.Cells.countP (YU s):Nat):Int)) (Km hz (fun t:Int×Int=>t.2) (fun i (t:Int×Int)=>t.1=(((z.Cells.take i).countP (YU s):Nat):Int)) rfl rfl (fun i c t hcx ht hI=>?_) (fun t h=>by rw [h,List.take_length])) (fun n hn=>by rw [hn];exact hp)
 have hcc:=hc c (List.mem_of_getElem? hcx)
 have hle:=List.countP_le_length (p:=YU s) (l:=z.Cells.take i)
 have hle2:(z.Cells.take i).length≤i:=by simp;omega
 have hi:=(List.getElem?_eq_some_iff.1 hcx).1
 rw [h.shelf',h.fl]
 refine Jn.mk (fun b=>b=YU s c) ?_ (fun b hb=>Jn.mk (fun n=>n=(((z.Cells.take (i+1)).countP (YU s):Nat):Int)) ?_ (fun n hn=>⟨by rw [ht],hn⟩))
 ·by_cases h1:0≤shAt s.Shelves c
  ·rw [if_pos h1];exact Ite.t rfl (by simp [YU];omega)
  ·rw [if_neg h1]
   exact Ite.f rfl ⟨_,WP hcc,YV (by simp [YU];omega)⟩
 ·rw [Q4c hcx]
  subst hb
  refine Ite.mk (fun h=>?_) (fun h=>?_)
  ·rw [hI,h,QF (by omega) (by unfold maxLen at hz;omega)];simp
  ·rw [hI,h];simp
abbrev T17 (α:Type):=Int×Int×Int×List Int×List Int×List Qk×List Q9×List Qm×List Ql×List (Int×Int)×List (Int×Bool)×List (Int×Bool)×List (ByteArray×Int)×List (Int×Bool)×List Int×List Int×α
def ofT {α:Type} (t:T17 α):SurveyMaker:={site:={Floor:={W:=t.1,H:=t.2.1,D:=t.2.2.1,Kind:=t.2.2.2.1,Out:=t.2.2.2.2.1},Zones:=t.2.2.2.2.2.1,Aparts:=t.2.2.2.2.2.2.1,Shelves:=t.2.2.2.2.2.2.2.1,Robots:=t.2.2.2.2.2.2.2.2.1},shelf:=t.2.2.2.2.2.2.2.2.2.1,robot:=t.2.2.2.2.2.2.2.2.2.2.1,zoned:=t.2.2.2.2.2.2.2.2.2.2.2.1,names:=t.2.2.2.2.2.2.2.2.2.2.2.2.1,oneways:=t.2.2.2.2.2.2.2.2.2.2.2.2.2.1,shelves:=t.2.2.2.2.2.2.2.2.2.2.2.2.2.2.1,zones:=t.2.2.2.2.2.2.2.2.2.2.2.2.2.2.2.1}
abbrev T16:=Int×Int×Int×List Int×List Int×List Qk×List Q9×List Qm×List Ql×List (Int×Int)×List (Int×Bool)×List (Int×Bool)×List (ByteArray×Int)×List (Int×Bool)×List Int×List Int
def of16 (t:T16):SurveyMaker:={site:={Floor:={W:=t.1,H:=t.2.1,D:=t.2.2.1,Kind:=t.2.2.2.1,Out:=t.2.2.2.2.1},Zones:=t.2.2.2.2.2.1,Aparts:=t.2.2.2.2.2.2.1,Shelves:=t.2.2.2.2.2.2.2.1,Robots:=t.2.2.2.2.2.2.2.2.1},shelf:=t.2.2.2.2.2.2.2.2.2.1,robot:=t.2.2.2.2.2.2.2.2.2.2.1,zoned:=t.2.2.2.2.2.2.2.2.2.2.2.1,names:=t.2.2.2.2.2.2.2.2.2.2.2.2.1,oneways:=t.2.2.2.2.2.2.2.2.2.2.2.2.2.1,shelves:=t.2.2.2.2.2.2.2.2.2.2.2.2.2.2.1,zones:=t.2.2.2.2.2.2.2.2.2.2.2.2.2.2.2}
def lst {α:Type} (t:T17 α):α:=t.2.2.2.2.2.2.2.2.2.2.2.2.2.2.2.2
end
structure Q8y (s:ApiSite):Prop where
 zn:∀(i:Nat) z,s.Zones[i]?=some z→nmB z.Name=true
 an:∀(i:Nat) x,s.Aparts[i]?=some x→nmB x.A=true∧nmB x.B=true
 sn:∀(i:Nat) x,s.Shelves[i]?=some x→(seq x.Class ByteArray.empty||nmB x.Class)=true
theorem Q16 {s:ApiSite} (k:OkApiSite s) {cells most:Int} (hfew:FewS s cells most) (hm:most≤1000000) {post:Bool→Prop} (hF:post false) (hT:Q1U s→Q8y s→post true):Xx s post:=by
 have f2:=hfew.aparts;have f3:=hfew.shelves;have f4:=hfew.robots
 unfold Xx
 refine Q30 (Ite.t rfl hF) (fun hf=>Ite.f rfl ?_)
 unfold XS
 refine Jn.mk (fun t:T16=>MInv s s.Zones.length 0 0 0 (of16 t)∧s.Zones.length≤64∧∀(i:Nat) z,s.Zones[i]?=some z→Q1T s (s.Zones.take i) z∧nmB z.Name=true)
  (Km k.Zones.1 (fun t:T17 Int=>lst t) (fun n (t:T17 Int)=>MInv s n 0 0 0 (ofT t)∧n≤64∧∀(i:Nat) z,i<n→s.Zones[i]?=some z→Q1T s (s.Zones.take i) z∧nmB z.Name=true) rfl ⟨⟨rfl,rfl,rfl,rfl,rfl,fun n=>rfl,fun c=>rfl,fun c=>rfl,fun c=>rfl⟩,by omega,fun i z h=>by omega⟩ (fun n z t hz ht hI=>?_) (fun t h=>⟨h.1,h.2.1,fun i z hz=>h.2.2 i z (List.getElem?_eq_some_iff.1 hz).1 hz⟩)) (fun t1 hI1=>?_)
 ·have kz:=k.Zones.2 z (List.mem_of_getElem? hz)
  refine Jn.mk (fun x:T17 Bool=>lst x=false→MInv s (n+1) 0 0 0 (ofT x)∧n<64∧Q1T s (s.Zones.take n) z∧nmB z.Name=true)
   (Yo kz.Name (Ite.f rfl (fun h=>by cases h)) (fun n1 n2 n3=>Ite.t rfl (YB (Ite.mk (fun h1=>Ite.mk (fun _ h=>by cases h) (fun h2=>Q2B kz.Shut.1 (Ite.f rfl (fun h=>by cases h)) (fun h3=>Ite.t rfl
    (Q1S (m:=ofT t) kz.Cells.1 (Ite.f rfl (fun h=>by cases h)) (fun c1 c2 c3=>Ite.t rfl (Q0U (m:=ofT t) k hI.1 hz (fun e he h=>?_) (fun a1 a2 a3 m' hm' _=>⟨hm',a1,?_⟩))))))) (fun _ h=>by cases h))))) (fun x hx=>Ite.mk (fun _=>hF) (fun hx'=>⟨by show w64 (lst t+1)=_;rw [show lst t=(n:Int) from ht],(hx hx').1,(hx hx').2.1,fun i z' hi hz'=>?_⟩))
  ·exfalso;have:(e != 0)=false:=h;simp at this;exact he this
  ·simp at h1 h2
   exact⟨⟨⟨n1,n2⟩,a2,c1,h1,h2,h3,a3,c3⟩,n3⟩
  ·by_cases e:i=n
   ·subst e;rw [hz] at hz';cases hz';exact (hx hx').2.2
   ·exact hI.2.2 i z' (by omega) hz'
 obtain⟨hI1,hz64,hzone⟩:=hI1
 refine Jn.mk (fun t:T16=>MInv s s.Zones.length s.Aparts.length 0 0 (of16 t)∧∀(i:Nat) x,s.Aparts[i]?=some x→(1≤x.A.size∧1≤x.B.size∧apB (s.Aparts.take i) x.A x.B=false)∧nmB x.A=true∧nmB x.B=true)
  (Km k.Aparts.1 (fun t:T17 Int=>lst t) (fun n (t:T17 Int)=>MInv s s.Zones.length n 0 0 (ofT t)∧∀(i:Nat) x,i<n→s.Aparts[i]?=some x→(1≤x.A.size∧1≤x.B.size∧apB (s.Aparts.take i) x.A x.B=false)∧nmB x.A=true∧nmB x.B=true) rfl (by exact⟨hI1,fun i z h=>by omega⟩) (fun n x t hx ht hI=>?_) (fun t h=>⟨h.1,fun i z hz=>h.2 i z (List.getElem?_eq_some_iff.1 hz).1 hz⟩)) (fun t2 hI2=>?_)
 ·refine Q0x (m:=ofT t) k (by omega) hI.1 hx (fun e he=>Ite.t (by simpa using he) hF) (fun a nm m' hm'=>Ite.f rfl ⟨by show w64 (lst t+1)=_;rw [show lst t=(n:Int) from ht],hm',fun i x' hi hx'=>?_⟩)
  by_cases e:i=n
  ·subst e;rw [hx] at hx';cases hx';exact⟨a,nm⟩
  ·exact hI.2 i x' (by omega) hx'
 obtain⟨hI2,hap⟩:=hI2
 refine Jn.mk (fun t:T16=>MInv s s.Zones.length s.Aparts.length s.Shelves.length 0 (of16 t)∧s.Shelves.length≤3000∧∀(i:Nat) x,s.Shelves[i]?=some x→(isC s.Floor x.Cell=true∧Q04 (kd s.Floor x.Cell)=true∧shAt (s.Shelves.take i) x.Cell<0)∧(seq x.Class ByteArray.empty||nmB x.Class)=true)
  (Km k.Shelves.1 (fun t:T17 Int=>lst t) (fun n (t:T17 Int)=>MInv s s.Zones.length s.Aparts.length n 0 (ofT t)∧n≤3000∧∀(i:Nat) x,i<n→s.Shelves[i]?=some x→(isC s.Floor x.Cell=true∧Q04 (kd s.Floor x.Cell)=true∧shAt (s.Shelves.take i) x.Cell<0)∧(seq x.Class ByteArray.empty||nmB x.Class)=true) rfl (by exact⟨hI2,by omega,fun i z h=>by omega⟩) (fun n x t hx ht hI=>?_) (fun t h=>⟨h.1,h.2.1,fun i z hz=>h.2.2 i z (List.getElem?_eq_some_iff.1 hz).1 hz⟩)) (fun t3 hI3=>?_)
 ·refine Q0E (m:=ofT t) k (by omega) hI.1 hx (fun e he=>Ite.t (by simpa using he) hF) (fun l a nm m' hm'=>Ite.f rfl ⟨by show w64 (lst t+1)=_;rw [show lst t=(n:Int) from ht],hm',by omega,fun i x' hi hx'=>?_⟩)
  by_cases e:i=n
  ·subst e;rw [hx] at hx';cases hx';exact⟨a,nm⟩
  ·exact hI.2.2 i x' (by omega) hx'
 obtain⟨hI3,hs3,hsh⟩:=hI3
 refine Jn.mk (fun t:T16=>MAll s (of16 t)∧s.Robots.length≤200∧∀(i:Nat) x,s.Robots[i]?=some x→isC s.Floor x.Cell=true∧0≤x.Charge∧x.Charge≤1000000∧kd s.Floor x.Cell≠0∧rbAt (s.Robots.take i) x.Cell=false)
  (Km k.Robots.1 (fun t:T17 Int=>lst t) (fun n (t:T17 Int)=>MInv s s.Zones.length s.Aparts.length s.Shelves.length n (ofT t)∧n≤200∧∀(i:Nat) x,i<n→s.Robots[i]?=some x→isC s.Floor x.Cell=true∧0≤x.Charge∧x.Charge≤1000000∧kd s.Floor x.Cell≠0∧rbAt (s.Robots.take i) x.Cell=false) rfl (by exact⟨hI3,by omega,fun i z h=>by omega⟩) (fun n x t hx ht hI=>?_) (fun t h=>⟨h.1,h.2.1,fun i z hz=>h.2.2 i z (List.getElem?_eq_some_iff.1 hz).1 hz⟩)) (fun t4 hI4=>?_)
 ·refine Q0o (m:=ofT t) k (by omega) hI.1 hx (fun e he=>Ite.t (by simpa using he) hF) (fun l a m' hm'=>Ite.f rfl ⟨by show w64 (lst t+1)=_;rw [show lst t=(n:Int) from ht],hm',by omega,fun i x' hi hx'=>?_⟩)
  by_cases e:i=n
  ·subst e;rw [hx] at hx';cases hx';exact a
  ·exact hI.2.2 i x' (by omega) hx'
 obtain⟨hI4,hr2,hrb⟩:=hI4
 refine Jn.mk' (Q1v (m:=of16 t4) k hf hI4 (fun x hx=>?_) (fun i hi _=>Ite.f (by simp) hF) (fun hbs=>Ite.t (by decide) ?_))
 ·obtain⟨i,hi⟩:=List.getElem?_of_mem hx
  exact (hsh i x hi).1.1
 ·unfold KF
  have hzs:(of16 t4).site.Zones=s.Zones:=hI4.zs'
  show Qd (of16 t4).site.Zones (of16 t4) _
  rw [hzs]
  unfold Qd
  refine Zx k.Zones.1 (fun z=>decide ((z.Cells.countP (YU s):Nat)<z.Keep)) (T:=fun z post=>QY z (of16 t4) post) (fun z hz {q} hq=>Q0z k hI4 (k.Zones.2 z hz).Cells.1 (fun c hc=>?_) hq) (Ite.mk (fun h=>?_) (fun _=>hF))
  ·obtain⟨i,hi⟩:=List.getElem?_of_mem hz
   exact ((hzone i z hi).1.cell c hc).1
  ·unfold KG
   have hfl:(of16 t4).site.Floor=s.Floor:=hI4.fl
   show Qj (of16 t4).site.Floor.Kind 3 _
   rw [hfl]
   refine Kc k.Floor.Kind.1 ?_
   cases hch:s.Floor.Kind.contains 3
   ·exact hF
   ·refine hT ⟨hf,hz64,fun i z hz=>(hzone i z hz).1,hs3,hr2,fun i x hx=>(hap i x hx).1,fun i x hx=>(hsh i x hx).1,hrb,fun z hz=>?_,hbs,hch⟩ ⟨fun i z hz=>(hzone i z hz).2,fun i x hx=>(hap i x hx).2,fun i x hx=>(hsh i x hx).2⟩
    rcases XR (fun z:Qk=>decide (((z.Cells.countP (YU s):Nat):Int)<z.Keep)) s.Zones with ⟨i,y,hy,e,_⟩ | ⟨e,hb⟩
    ·exfalso;rw [e] at h;have:=of_decide_eq_true h;omega
    ·have:=hb z hz;simp at this;exact this
theorem Q1R {s:ApiSite} (k:OkApiSite s) {cells most:Int} (hfew:FewS s cells most) (hm:most≤1000000) {post:Bool→Prop} (hF:post false) (hT:Q1U s→post true):Xx s post:=Q16 k hfew hm hF (fun h _=>hT h)
end Go.Taq
/- The mathematics, part NC: what may stand where (rules): cells, classes, who is carried, what stands at a cell, rooms. -/
set_option linter.unusedVariables false
set_option linter.unusedSimpArgs false
namespace Go.Taq
open Go
def stB (s:ApiSite) (c:Int):Bool:=isC s.Floor c&&Q04 (kd s.Floor c)
def clsS (s:ApiSite) (i:Int):ByteArray:=if 0≤i∧i<s.Shelves.length then (s.Shelves.getD i.toNat default).Class else ByteArray.empty
def nev (s:ApiSite) (a b:ByteArray):Bool:=apB s.Aparts a b
def carr (st:ApiState) (i:Int):Int:=if i<0 then -1 else fidx (fun r:ApiRobot=>r.Load == i) st.Robots
def carB (st:ApiState) (i:Int):Bool:=decide (0≤carr st i)
theorem Q10 {st:ApiState} {i:Int} (h:0≤i):carB st i=st.Robots.any fun r=>r.Load == i:=by
 unfold carB carr
 rw [if_neg (by omega)]
 have:=Q01 (p:=fun r:ApiRobot=>r.Load == i) (xs:=st.Robots)
 rw [←this]
def optI (x:Int):Option Int:=if 0≤x then some x else none
def atP (st:ApiState) (c:Int) (i:Nat):Bool:=(st.Shelves.getD i 0 == c)&&!carB st i
def atS (st:ApiState) (c:Int):Int:=fnat (atP st c) st.Shelves.length
theorem Q3k {p:Nat→Bool} {a n:Nat} (h:a<n):fnat (fun i=>decide (a≤i)&&p i) n=if p a=true then (a:Int) else fnat (fun i=>decide (a+1≤i)&&p i) n:=by
 by_cases hp:p a=true
 ·rw [if_pos hp]
  exact Q3e h (by simp [hp]) (fun j hj=>by simp;intro h';omega)
 ·rw [if_neg hp]
  have:(fun i=>decide (a≤i)&&p i)=fun i=>decide (a+1≤i)&&p i:=by
   funext i
   by_cases e:i=a
   ·subst e;simp [hp]
   ·have:(a≤i)=(a+1≤i):=by simp;omega
    simp only [this]
  rw [this]
theorem Q6e (p:Nat→Bool) (n:Nat):fnat (fun i=>decide (0≤i)&&p i) n=fnat p n:=by simp
theorem Q6E (p:Nat→Bool) (n:Nat):fnat (fun i=>decide (n≤i)&&p i) n=-1:=Q3n fun i hi=>by simp;intro;omega
section
variable {s:ApiSite} {st:ApiState}
theorem Q1Z {c:Int} {post:Bool→Prop} (hp:post (stB s c)):G0 s c post:=by
 unfold G0 Kz
 refine Jn.mk (fun b=>b=stB s c) (Q0t (Ite.mk (fun h=>?_) (fun h=>?_))) (fun b hb=>by rw [hb];exact hp)
 ·have hc:isC s.Floor c=true:=h
  refine⟨_,WP hc,?_⟩
  unfold stB Q04;rw [hc]
  refine Ite.mk (fun h'=>by simp [h']) (fun h'=>by simp [h'])
 ·have hc:isC s.Floor c=false:=h
  unfold stB;rw [hc];rfl
theorem Q08 {i:Int} {post:ByteArray→Prop} (hp:post (clsS s i)):XU s i post:=by
 unfold XU
 refine Jor2 (Ite.mk (fun h=>?_) (fun h=>?_))
 ·unfold clsS at hp;rw [if_neg (by simp at h;omega)] at hp;exact hp
 ·have h':0≤i∧i<s.Shelves.length:=by simp at h;omega
  unfold clsS at hp;rw [if_pos h'] at hp
  refine⟨s.Shelves.getD i.toNat default,?_,hp⟩
  rw [Q0u h'.1 h'.2,List.getD_eq_getElem?_getD,List.getElem?_eq_getElem (by omega)];rfl
theorem Q1h (k:OkApiSite s) {post:List (Q9×Bool)→Prop} (hp:∀m:List (Q9×Bool),(∀a b,(lk m ⟨a,b⟩).getD false=s.Aparts.any fun x=>(seq x.A a&&seq x.B b)||(seq x.A b&&seq x.B a))→post m):XK s post:=by
 unfold XK
 refine Jn.mk (fun m=>∀a b,(lk m ⟨a,b⟩).getD false=s.Aparts.any fun x=>(seq x.A a&&seq x.B b)||(seq x.A b&&seq x.B a))
  (Km k.Aparts.1 (fun t:List (Q9×Bool)×Int=>t.2) (fun n (t:List (Q9×Bool)×Int)=>∀a b,(lk t.1 ⟨a,b⟩).getD false=(s.Aparts.take n).any fun x=>(seq x.A a&&seq x.B b)||(seq x.A b&&seq x.B a)) rfl (fun a b=>rfl) (fun n x t hx ht hI=>⟨by rw [ht],fun a b=>?_⟩) (fun t h=>by rwa [List.take_length] at h)) (fun m h=>hp m h)
 rw [QL hx,List.any_append,Wu,Wu]
 by_cases e1:(⟨x.B,x.A⟩:Q9)=⟨a,b⟩
 ·rw [if_pos e1]
  simp only [Q9.mk.injEq] at e1
  simp [e1.1,e1.2,Q0Q.2]
 ·rw [if_neg e1]
  by_cases e2:x=⟨a,b⟩
  ·rw [if_pos e2];subst e2;simp [Q0Q.2]
  ·rw [if_neg e2,hI]
   have h1:(seq x.A a&&seq x.B b)=false:=by
    rw [Bool.eq_false_iff];intro h;simp only [Bool.and_eq_true,Q0Q] at h;exact e2 (by cases x;simp at h;simp [h])
   have h2:(seq x.A b&&seq x.B a)=false:=by
    rw [Bool.eq_false_iff];intro h;simp only [Bool.and_eq_true,Q0Q] at h;exact e1 (by rw [h.1,h.2])
   simp [h1,h2]
theorem Q8F {m:List (Q9×Bool)} (hm:∀a b,(lk m ⟨a,b⟩).getD false=s.Aparts.any fun x=>(seq x.A a&&seq x.B b)||(seq x.A b&&seq x.B a)) {a b:ByteArray} (ha:nosh a=false) (hb:nosh b=false):(lk m ⟨a,b⟩).getD false=nev s a b:=by
 rw [hm];unfold nev apB;rw [ha,hb];rfl
theorem Q2E (k:OkApiSite s) {a b:ByteArray} {post:Bool→Prop} (hp:post (nev s a b)):Gt s a b post:=by
 unfold Gt
 refine Jn.mk (fun r=>r=nev s a b) (Ite.mk (fun h=>?_) (fun h=>Ite.mk (fun h'=>?_) (fun h'=>Q1h k (fun m hm=>Q8F hm h h')))) (fun r hr=>by rw [hr];exact hp)
 ·have:nosh a=true:=h
  unfold nev apB;rw [this];rfl
 ·have:nosh b=true:=h'
  unfold nev apB;rw [this];simp
theorem YK (k:QZ st) {i:Int} {post:Int→Prop} (hp:post (carr st i)):Xh st i post:=by
 unfold Xh
 refine Ite.mk (fun h=>?_) (fun h=>?_)
 ·unfold carr at hp;rw [if_pos (by simpa using h)] at hp;exact hp
 ·unfold carr at hp;rw [if_neg (by simpa using h)] at hp
  unfold Qo
  refine Zx k.Robots.1 (fun r:ApiRobot=>r.Load == i) (T:=fun r post=>Xc r i post) (fun r _ q hq=>?_) hp
  unfold Xc;exact hq
theorem Q0W (k:QZ st) (hl:st.Shelves.length≤1000000) {post:List (Int×Int)→Prop} (hp:∀m:List (Int×Int),(∀c,lk m c=optI (atS st c))→post m):Xp st post:=by
 unfold Xp
 refine Jn.mk (fun m=>∀i:Int,(lk m i).getD false=st.Robots.any fun r=>r.Load == i)
  (Km k.Robots.1 (fun t:List (Int×Bool)×Int=>t.2) (fun n (t:List (Int×Bool)×Int)=>∀i:Int,(lk t.1 i).getD false=(st.Robots.take n).any fun r=>r.Load == i) rfl (fun i=>rfl) (fun n r t hr ht hI=>⟨by rw [ht],fun i=>?_⟩) (fun t h=>by rwa [List.take_length] at h)) (fun cm hcm=>?_)
 ·rw [QL hr,List.any_append,Wu]
  by_cases e:r.Load=i
  ·rw [if_pos e];simp [e]
  ·rw [if_neg e,hI];simp [e]
 unfold Kf
 refine⟨by omega,Each.inv (bkw st.Shelves) (fun j m=>∀c,lk m c=optI (fnat (fun i=>decide (st.Shelves.length-j≤i)&&atP st c i) st.Shelves.length)) (fun c=>?_) (fun j x m hx hI Y hY=>?_) (fun m h=>hp m (fun c=>?_))⟩
 ·rw [Nat.sub_zero,Q6E];rfl
 ·have hj:j<st.Shelves.length:=by have:=(List.getElem?_eq_some_iff.1 hx).1;rwa [Q41] at this
  have hg:=Q5r (xs:=st.Shelves) (m:=st.Shelves.length-(j+1)) (by omega)
  rw [show st.Shelves.length-(st.Shelves.length-(j+1)+1)=j by omega,hx] at hg
  cases hg
  have e1:st.Shelves.length-j=st.Shelves.length-(j+1)+1:=by omega
  have hcar:(lk cm ((st.Shelves.length-(j+1):Nat):Int)).getD false=carB st ((st.Shelves.length-(j+1):Nat):Int):=by rw [hcm,Q10 (by omega)]
  refine Jn.mk' ?_
  dsimp only
  rw [hcar]
  refine Ite.mk (fun h=>hY _ (fun c=>?_)) (fun h=>hY _ (fun c=>?_))
  ·rw [Wu,Q3k (by omega)]
   by_cases e:st.Shelves.getD (st.Shelves.length-(j+1)) 0=c
   ·rw [if_pos e,if_pos (by unfold atP;simp only [Bool.and_eq_true,beq_iff_eq];exact⟨e,h⟩)]
    unfold optI;rw [if_pos (by omega)]
   ·rw [if_neg e,if_neg (by unfold atP;simp only [Bool.and_eq_true,beq_iff_eq];exact fun h=>e h.1),hI,e1]
  ·rw [Q3k (by omega),if_neg (by unfold atP;simp only [Bool.and_eq_true];exact fun h'=>by rw [h] at h';cases h'.2),hI,e1]
 ·rw [h c,Q41,Nat.sub_self];unfold atS;rw [Q6e]
theorem Q7i (st:ApiState) (c:Int):-1≤atS st c∧atS st c<st.Shelves.length:=by
 rcases Yh (atP st c) st.Shelves.length with ⟨i,h1,h2,_⟩ | ⟨h,_⟩ <;> unfold atS <;> omega
theorem Q3W (x:Int):(optI x).isSome=decide (0≤x):=by
 unfold optI;by_cases h:0≤x <;> simp [h]
theorem Q2a (k:QZ st) (hl:st.Shelves.length≤1000000) {c:Int} {post:Int→Prop} (hp:post (atS st c)):Wp s st c post:=by
 unfold Wp
 refine Q0W k hl (fun m hm=>?_)
 have:=Q7i st c
 rw [hm,Q3W]
 refine Ite.mk (fun h=>?_) (fun h=>?_)
 ·simp at h;unfold optI;rw [if_pos h];exact hp
 ·simp at h;rw [show (-1:Int)=atS st c by omega];exact hp
end
end Go.Taq
/- The mathematics, part ND: what is near, which shelves disturb each other, dropping (rules). -/
set_option linter.unusedVariables false
set_option linter.unusedSimpArgs false
namespace Go.Taq
open Go
def Q0n (f:ApiFloor) (a b:Int):Bool:=isC f b&&([0,1,2,3]:List Int).any fun d=>nbr f a d == b
theorem Q0L {f:ApiFloor} (h:RF f) {a b:Int} {post:Bool→Prop} (hp:post (Q0n f a b)):Gb f a b post:=by
 unfold Gb
 refine Q0A h (Ite.mk (fun hb=>?_) (fun hb=>?_))
 ·simp only [Bool.not_eq_true'] at hb
  unfold Q0n at hp;rw [hb] at hp;exact hp
 ·simp only [Bool.not_eq_false'] at hb
  unfold Q0n at hp;rw [hb] at hp
  exact Q7g (xs:=[0,1,2,3]) (by simp [maxLen]) (fun d=>nbr f a d == b) (T:=fun x q=>X3 f a x (fun r=>q (r == b))) (fun x _ q hq=>Zh h hq) hp
section
variable {s:ApiSite} {st:ApiState}
def badP (s:ApiSite) (st:ApiState) (a b:Nat):Bool:=Q0n s.Floor (st.Shelves.getD a 0) (st.Shelves.getD b 0)&&nev s (clsS s a) (clsS s b)&&!carB st a&&!carB st b
def Q0l (s:ApiSite) (st:ApiState) (a:Nat):Int:=fnat (fun b=>decide (a<b)&&badP s st a b) st.Shelves.length
def Y3 (s:ApiSite) (st:ApiState):Int×Int×Bool:=
 let a:=fnat (fun a=>decide (0≤Q0l s st a)) st.Shelves.length
 if a<0 then (0,0,false) else (a,Q0l s st a.toNat,true)
end
end Go.Taq
/- The mathematics, part NE: dropping; the rules' statements: bounds, examples. -/
set_option linter.unusedVariables false
set_option linter.unusedSimpArgs false
namespace Go.Taq
open Go
def dHit (st:ApiState) (shelf c:Int) (i:Nat):Bool:=!((i:Int) == shelf)&&!carB st i&&(st.Shelves.getD i 0 == c)
def dAp (s:ApiSite) (st:ApiState) (shelf c:Int) (i:Nat):Bool:=!((i:Int) == shelf)&&!carB st i&&Q0n s.Floor (st.Shelves.getD i 0) c&&nev s (clsS s shelf) (clsS s i)
def Q2x (s:ApiSite) (st:ApiState) (shelf c:Int):Int:=
 if shelf<0∨shelf≥st.Shelves.length then 4 else if stB s c=false then 13 else if (List.range st.Shelves.length).any (dHit st shelf c)=true then 13 else if (List.range st.Shelves.length).any (dAp s st shelf c)=true then 17 else 0
theorem Zi (p:Nat→Bool) (n:Nat):(List.range (n+1)).any p=((List.range n).any p||p n):=by rw [List.range_succ,List.any_append];simp
theorem ZV {p:Nat→Bool} {n i:Nat} (hi:i<n) (hp:p i=true):(List.range n).any p=true:=List.any_eq_true.2 ⟨i,by simpa using hi,hp⟩
section
variable {s:ApiSite} {st:ApiState}
theorem Q8i {l:List Int} {n:Nat} {x:Int} (h:l[n]?=some x):l.getD n 0=x:=by rw [List.getD_eq_getElem?_getD,h];rfl
theorem Q3G (ks:OkApiSite s) (k:QZ st) (hf:RF s.Floor) (hl:st.Shelves.length≤1000000) {shelf c:Int} {post:Int→Prop} (hp:post (Q2x s st shelf c)):GY s st shelf c post:=by
 unfold GY
 refine Jor2 (Ite.mk (fun h=>?_) (fun h=>Q1Z (Ite.mk (fun h2=>?_) (fun h2=>?_))))
 ·unfold Q2x at hp;rw [if_pos (by simp at h;omega)] at hp;exact hp
 ·unfold Q2x at hp;rw [if_neg (by simp at h;omega),if_pos (by simpa using h2)] at hp;exact hp
 ·unfold Q2x at hp;rw [if_neg (by simp at h;omega),if_neg (by simp at h2;simp [h2])] at hp
  refine Jn.mk (fun e=>(List.range st.Shelves.length).any (dHit st shelf c)=false∧e=if (List.range st.Shelves.length).any (dAp s st shelf c)=true then 17 else 0)
   (Q0y (xs:=st.Shelves) k.Shelves.1 (fun t:Int×Int=>t.2) (fun n (t:Int×Int)=>(List.range n).any (dHit st shelf c)=false∧t.1=if (List.range n).any (dAp s st shelf c)=true then 17 else 0) rfl ⟨rfl,rfl⟩ (fun n x t hx ht hI=>?_) (fun t h=>h)) (fun e he=>by rw [he.1] at hp;rw [he.2];exact hp)
  have hn:=(List.getElem?_eq_some_iff.1 hx).1
  have hxg:=Q8i hx
  rw [ht]
  refine Jn.mk (fun e=>(List.range (n+1)).any (dHit st shelf c)=false∧e=if (List.range (n+1)).any (dAp s st shelf c)=true then 17 else 0) ⟨x,QD rfl hx,?_⟩ (fun e he=>⟨rfl,he⟩)
  rw [Zi,Zi,hI.1,hI.2]
  refine Jn.mk (fun b=>(b=true→dHit st shelf c n=false∧dAp s st shelf c n=false)∧(b=false→((n:Int) == shelf)=false∧carB st n=false∧(x≠c→Q0n s.Floor x c=true))) ?_ (fun b hb=>Ite.mk (fun h3=>?_) (fun h3=>?_))
  ·refine Ite.mk (fun h3=>⟨fun _=>⟨by unfold dHit;rw [h3];rfl,by unfold dAp;rw [h3];rfl⟩,fun h=>by cases h⟩) (fun h3=>Ite.mk (fun h4=>Q0L hf (Ite.mk (fun h5=>YK k ⟨fun h6=>?_,fun h6=>?_⟩) (fun h5=>⟨fun _=>⟨?_,?_⟩,fun h=>by cases h⟩))) (fun h4=>YK k ⟨fun h6=>?_,fun h6=>?_⟩))
   ·have:carB st n=true:=by unfold carB;simpa using h6
    exact⟨by unfold dHit;rw [this];simp,by unfold dAp;rw [this];simp⟩
   ·have:carB st n=false:=by unfold carB;simpa using h6
    exact⟨h3,this,fun _=>h5⟩
   ·unfold dHit;rw [hxg];simp at h4;simp [h4]
   ·unfold dAp;rw [hxg,h5];simp
   ·have:carB st n=true:=by unfold carB;simpa using h6
    exact⟨by unfold dHit;rw [this];simp,by unfold dAp;rw [this];simp⟩
   ·have:carB st n=false:=by unfold carB;simpa using h6
    exact⟨h3,this,fun h=>absurd (by simpa using h4) h⟩
  ·rw [(hb.1 h3).1,(hb.1 h3).2];exact⟨by simp,by simp⟩
  ·obtain⟨g1,g2,g3⟩:=hb.2 h3
   refine Ite.mk (fun h4=>?_) (fun h4=>Q08 (Q08 (Q2E ks ?_)))
   ·have:dHit st shelf c n=true:=by unfold dHit;rw [g1,g2,hxg,h4];rfl
    rw [ZV hn this] at hp;exact hp
   ·have e1:dHit st shelf c n=false:=by unfold dHit;rw [hxg,h4];simp
    have e2:dAp s st shelf c n=nev s (clsS s shelf) (clsS s n):=by unfold dAp;rw [g1,g2,hxg,g3 (by simpa using h4)];rfl
    rw [e1,e2]
    refine Jn.mk (fun e=>e=if ((List.range n).any (dAp s st shelf c)||nev s (clsS s shelf) (clsS s n))=true then 17 else 0) (Ite.mk (fun h5=>by rw [h5];simp) (fun h5=>by rw [h5];simp)) (fun e he=>⟨by simp,he⟩)
end
structure FitS (s:ApiSite) (st:ApiState):Prop where
 r:Q1U s
 few:FewS s 60 20
 rob:st.Robots.length≤20
 len:st.Shelves.length=s.Shelves.length
 cell:∀c,c∈st.Shelves→isC s.Floor c=true
theorem FitS.sl {s:ApiSite} {st:ApiState} (h:FitS s st):st.Shelves.length≤20:=by have:=h.few.shelves;have:=h.len;omega
theorem FitS.zn {s:ApiSite} {st:ApiState} (h:FitS s st):∀z,z∈s.Zones→0≤z.Keep∧z.Cells.length≤1000000:=fun z hz=>⟨(h.r.zm hz).elim fun _ q=>q.keep,by have:=(h.few.zone z hz).1;omega⟩
/-! ## the examples -/
theorem YP {α:Type} {X:α→Prop} {xs:List α} (h1:xs.length≤1000) (h2:∀x,x∈xs→X x):OkL X xs:=⟨Nat.le_trans h1 (by decide),h2⟩
theorem WC {x:Int} (h:-1000000≤x∧x≤1000000):I64 x:=by constructor <;> omega
end Go.Taq
