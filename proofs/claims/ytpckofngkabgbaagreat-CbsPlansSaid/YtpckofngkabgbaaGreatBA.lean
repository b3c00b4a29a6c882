/- The mathematics, several parts in one text. -/
import Derived.Test.YtpckofngkabgbaaGreatMF
/- The mathematics, part R0: more about loops and joins, and lists. -/
set_option linter.unusedVariables false
namespace Go.Taq
open Go
theorem Loop.inv {σ:Type} {body:σ→(σ→Prop)→Prop} {s0:σ} (n:Nat) (I:Nat→σ→Prop) (h0:I 0 s0) (hs:∀i s,i<n→I i s→body s (I (i+1))) (he:∀s,I n s→body s (fun _=>False)):Loop body s0:=by
 intro X hX
 have key:∀k i,i+k=n→∀s,I i s→X s:=by
  intro k
  induction k with
  | zero=>intro i hi s h;have:i=n:=by omega
          subst this;exact hX _ _ (he s h) (fun _ h=>h.elim)
  | succ k ih=>intro i hi s h;exact hX _ _ (hs i s (by omega) h) (fun s' e=>ih (i+1) (by omega) s' e)
 exact key n 0 (by omega) s0 h0
theorem Jn.ex {σ α:Type} {P:α→Prop} {A:α→(σ→Prop)→Prop} {k:σ→Prop} (x:α) (hx:P x) (h:Jn (A x) k):Jn (fun J=>∃x,P x∧A x J) k:=by
 obtain⟨J,h1,h2⟩:=h
 exact⟨J,h1,x,hx,h2⟩
theorem WK {i n:Nat} (h:i<n) (hn:n≤maxLen):w64 ((i:Int)+1)=((i+1:Nat):Int):=by
 rw [K8 (by omega) (by simp [maxLen] at hn;omega)];simp
theorem Ite.lt {i n:Int} {A B:Prop} (h:i<n) (k:A):Ite (decide (i<n)) A B:=Ite.t (by simpa using h) k
theorem Ite.nlt {i n:Int} {A B:Prop} (h:¬i<n) (k:B):Ite (decide (i<n)) A B:=Ite.f (by simpa using h) k
theorem Q3t {α:Type} {xs:List α} (hm:xs.length≤maxLen) (p:α→Bool) {T:α→(Bool→Prop)→Prop} (hT:∀x,x∈xs→∀{post:Bool→Prop},post (p x)→T x post) {A:Int→α→Prop} {B:Prop}
  (hA:∀(i:Nat) x,xs[i]?=some x→p x=true→xs.findIdx? p=some i→A (i:Int) x) (hB:(∀x,x∈xs→p x=false)→xs.findIdx? p=none→B):
  Jn (fun (J:Unit→Prop)=>Loop (fun (s:Int) Y=>Ite (decide (s<(xs.length:Int))) (∃x,idx xs s=some x∧T x (fun b=>Ite b (A s x) (Y (w64 (s+1))))) (J ())) 0) (fun _=>B):=by
 refine Jn.mk (fun _=>B) (Loop.find xs p (fun i x hi hx hp=>?_) (fun i x hi hx hp hf=>?_) (fun hn hf=>?_)) (fun _ h=>h)
 ·exact Ite.lt (by omega) ⟨x,Qo rfl hx,hT x (List.mem_of_getElem? hx) (Ite.f hp (WK hi hm))⟩
 ·exact Ite.lt (by omega) ⟨x,Qo rfl hx,hT x (List.mem_of_getElem? hx) (Ite.t hp (hA i x hx hp hf))⟩
 ·exact Ite.nlt (by omega) (hB hn hf)
theorem Q41 {α:Type} {p:α→Bool} {xs:List α} {i:Nat} (h:xs.findIdx? p=some i):xs.any p=true:=by
 obtain⟨hm,hp,_⟩:=List.findIdx?_eq_some_iff_getElem.1 h
 exact List.any_eq_true.2 ⟨_,List.getElem_mem hm,hp⟩
theorem Q48 {α:Type} {p:α→Bool} {xs:List α} (h:∀x,x∈xs→p x=false):xs.any p=false:=by
 rw [List.any_eq_false];intro x hx;simp [h x hx]
section
variable {α:Type} {xs:List α} (hm:xs.length≤maxLen)
include hm
theorem Q5G (p:α→Bool) {T:α→(Bool→Prop)→Prop} (hT:∀x,x∈xs→∀{post:Bool→Prop},post (p x)→T x post) {post:Bool→Prop} (hp:post (xs.any p)):
  Jn (fun (J:Unit→Prop)=>Loop (fun (s:Int) Y=>Ite (decide (s<(xs.length:Int))) (∃x,idx xs s=some x∧T x (fun b=>Ite b (post true) (Y (w64 (s+1))))) (J ())) 0) (fun _=>post false):=
 Q3t hm p hT (A:=fun _ _=>post true) (fun i x _ _ hf=>by rw [←Q41 hf];exact hp) (fun hn _=>by rw [←Q48 hn];exact hp)
theorem Q00 (p:α→Bool) {T:α→(Bool→Prop)→Prop} (hT:∀x,x∈xs→∀{post:Bool→Prop},post (p x)→T x post) {post:Int→Prop} (hp:post (fidx p xs)):
  Jn (fun (J:Unit→Prop)=>Loop (fun (s:Int) Y=>Ite (decide (s<(xs.length:Int))) (∃x,idx xs s=some x∧T x (fun b=>Ite b (post s) (Y (w64 (s+1))))) (J ())) 0) (fun _=>post (-1)):=
 Q3t hm p hT (A:=fun s _=>post s) (fun i x _ _ hf=>by rw [fidx,hf] at hp;exact hp) (fun hn hf=>by rw [fidx,hf] at hp;exact hp)
theorem Q6O {p:α→Bool} {post:Bool→Prop} (hp:post (xs.any p)):
  Jn (fun (J:Unit→Prop)=>Loop (fun (s:Int) Y=>Ite (decide (s<(xs.length:Int))) (∃x,idx xs s=some x∧Ite (p x) (post true) (Y (w64 (s+1)))) (J ())) 0) (fun _=>post false):=
 Q5G hm p (T:=fun x post=>post (p x)) (fun _ _ _ h=>h) hp
theorem Q5B {p:α→Bool} {post:Int→Prop} (hp:post (fidx p xs)):
  Jn (fun (J:Unit→Prop)=>Loop (fun (s:Int) Y=>Ite (decide (s<(xs.length:Int))) (∃x,idx xs s=some x∧Ite (p x) (post s) (Y (w64 (s+1)))) (J ())) 0) (fun _=>post (-1)):=
 Q00 hm p (T:=fun x post=>post (p x)) (fun _ _ _ h=>h) hp
end
theorem Q4I {α:Type} (xs:List α) (hl:xs.length≤maxLen) {most:Int} {T:Int→(Bool→Prop)→Prop} (P:α→Prop) {E:Prop} {post:Bool→Prop} (hT:∀(i:Nat) x,idx xs (i:Int)=some x→∀{q:Bool→Prop},q true→(P x→q false)→T (i:Int) q) (hF:post false) (hE:(xs.length≤most→∀x,x∈xs→P x)→E):
  Jn (fun (J2:Unit→Prop)=>Loop (fun (s3:Int) Y4=>Jn (fun (J6:Bool→Prop)=>Ite (decide (s3<(xs.length:Int))) (J6 (decide (s3≤most))) (J6 false)) (fun (x5:Bool)=>Ite x5 (T s3 (fun b=>Ite b (post false) (Y4 (w64 (s3+1))))) (J2 ()))) 0) (fun _=>E):=by
 refine Jn.mk (fun _=>xs.length≤most→∀x,x∈xs→P x) (Loop.inv xs.length (fun i (t:Int)=>t=(i:Int)∧∀(j:Nat) x,j<i→xs[j]?=some x→P x) ⟨rfl,fun j x h=>by omega⟩ (fun i t hi h=>?_) (fun t h=>?_)) (fun _ h=>hE h)
 ·obtain⟨rfl,h⟩:=h
  refine Q23 (Ite.mk (fun h1=>?_) (fun h1 h2=>?_))
  ·have hx:xs[i]?=some (xs[i]'hi):=List.getElem?_eq_getElem hi
   refine hT i _ (Qo rfl hx) (Ite.t rfl hF) (fun hP=>Ite.f rfl ⟨WK hi hl,fun j x hj hxj=>?_⟩)
   by_cases e:j=i
   ·subst e;rw [hx] at hxj;cases hxj;exact hP
   ·exact h j x (by omega) hxj
  ·simp at h1;omega
 ·obtain⟨rfl,h⟩:=h
  refine Q23 (Ite.f (by simp) (fun _ x hx=>?_))
  obtain⟨j,hj⟩:=List.getElem?_of_mem hx
  exact h j x (List.getElem?_eq_some_iff.1 hj).1 hj
theorem sub0 {α:Type} {xs:List α} {i:Nat}:sub xs 0 (i:Int)=xs.take i:=by simp [sub]
theorem Q2I {x y:ByteArray}:seq x y=true↔x=y:=by
 unfold seq
 rw [beq_iff_eq]
 constructor
 ·intro h
  have:x.data.toList=y.data.toList:=by simpa [ByteArray.toList_eq] using h
  cases x;cases y;simp_all
 ·rintro rfl;rfl
end Go.Taq
/- The mathematics, part R: right sites. -/
set_option linter.unusedVariables false
namespace Go.Taq
open Go
def shAt (l:List QB) (c:Int):Int:=fidx (fun x:QB=>x.Cell == c) l
def zAt (l:List Qx) (c:Int):Bool:=l.any fun z=>z.Cells.contains c
def rbAt (l:List QK) (c:Int):Bool:=l.any fun x=>x.Cell == c
def Q12 (k:Int):Bool:=(k == 1)||(k == 2)
def Q14 (k:Int):Bool:=(k != 0)&&(k != 4)&&(k != 5)
def nosh (x:ByteArray):Bool:=seq x ByteArray.empty
def apB (l:List Qk) (a b:ByteArray):Bool:=!nosh a&&!nosh b&&l.any fun x=>(seq x.A a&&seq x.B b)||(seq x.A b&&seq x.B a)
def WB:Int→List QF→Prop
 | _,[]=>True
 | t,x :: r=>t≤x.From∧x.From<x.To∧x.To≤20000∧WB x.To r
def Yc (s:ApiSite) (c:Int):Bool:=Q12 (kd s.Floor c)&&decide (shAt s.Shelves c<0)
end Go.Taq
/- The mathematics, part S: right sites, whole. -/
set_option linter.unusedVariables false
namespace Go.Taq
open Go
structure Q28 (s:ApiSite) (before:List Qx) (z:Qx):Prop where
 named:1≤z.Name.size∧z.Name.size≤20
 name:∀y,y∈before→seq y.Name z.Name=false
 ne:z.Cells≠[]
 sp:1≤z.Speed∧z.Speed≤100
 keep:0≤z.Keep
 spans:WB 0 z.Shut
 cell:∀c,c∈z.Cells→isC s.Floor c=true∧Q14 (kd s.Floor c)=true∧zAt before c=false
 asc:∀(i:Nat) x y,z.Cells[i]?=some x→z.Cells[i+1]?=some y→x<y
theorem Q5Z {l:List Int} (h:∀(i:Nat) x y,l[i]?=some x→l[i+1]?=some y→x<y):Asc l:=by
 have key:∀(d i:Nat) x y,l[i]?=some x→l[i+d+1]?=some y→x<y:=by
  intro d
  induction d with
  | zero=>intro i x y hx hy;exact h i x y hx hy
  | succ d ih=>
   intro i x y hx hy
   have hlt:=(List.getElem?_eq_some_iff.1 hy).1
   have hz:l[i+d+1]?=some (l[i+d+1]'(by omega)):=List.getElem?_eq_getElem _
   exact Int.lt_trans (ih i x _ hx hz) (h (i+d+1) _ y hz (by rw [←hy];congr 1))
 intro i j x y hij hx hy
 exact key (j-i-1) i x y hx (by rw [←hy];congr 1;omega)
theorem Q28.ascL {s:ApiSite} {b:List Qx} {z:Qx} (h:Q28 s b z):Asc z.Cells:=Q5Z h.asc
def Q1p (s:ApiSite) (i:Nat) (d:Int):Prop:=∃x y,s.Shelves[i]?=some x∧0≤nbr s.Floor x.Cell d∧0≤shAt s.Shelves (nbr s.Floor x.Cell d)∧shAt s.Shelves (nbr s.Floor x.Cell d)<i∧idx s.Shelves (shAt s.Shelves (nbr s.Floor x.Cell d))=some y∧apB s.Aparts x.Class y.Class=true
structure YH (s:ApiSite):Prop where
 fl:RF s.Floor
 z64:s.Zones.length≤64
 zone:∀(i:Nat) z,s.Zones[i]?=some z→Q28 s (s.Zones.take i) z
 sh3:s.Shelves.length≤3000
 r2:s.Robots.length≤200
 ap:∀(i:Nat) x,s.Aparts[i]?=some x→1≤x.A.size∧1≤x.B.size∧apB (s.Aparts.take i) x.A x.B=false
 sh:∀(i:Nat) x,s.Shelves[i]?=some x→isC s.Floor x.Cell=true∧Q12 (kd s.Floor x.Cell)=true∧shAt (s.Shelves.take i) x.Cell<0
 rb:∀(i:Nat) x,s.Robots[i]?=some x→isC s.Floor x.Cell=true∧0≤x.Charge∧x.Charge≤1000000∧kd s.Floor x.Cell≠0∧rbAt (s.Robots.take i) x.Cell=false
 room:∀z,z∈s.Zones→z.Keep≤(z.Cells.countP (Yc s):Nat)
 apart:∀(i:Nat) (d:Int),0≤d→d<4→¬Q1p s i d
 charger:s.Floor.Kind.contains 3=true
theorem YH.zm {s:ApiSite} (h:YH s) {z:Qx} (hz:z∈s.Zones):∃i:Nat,Q28 s (s.Zones.take i) z:=by
 obtain⟨i,hi⟩:=List.getElem?_of_mem hz
 exact⟨i,h.zone i z hi⟩
theorem YH.rs {s:ApiSite} (h:YH s):RS s where
 fl:=h.fl
 asc z hz:=(h.zm hz).elim fun _ q=>q.ascL
 zc z hz c hc:=(h.zm hz).elim fun _ q=>(q.cell c hc).1
 sp z hz:=(h.zm hz).elim fun _ q=>q.sp
theorem Q2v {f:ApiFloor} {n:Int} {post:Bool→Prop} (hF:post false) (hT:f.Kind.length≤n→f.Out.length≤n→post true):Xl f n post:=by
 unfold Xl
 refine Jn.mk' (Ite.mk (fun h1=>?_) (fun h1=>hF))
 simp at h1
 cases hb:decide ((f.Out.length:Int)≤n)
 ·exact hF
 ·exact hT h1 (by simpa using hb)
structure FewS (s:ApiSite) (cells most:Int):Prop where
 kind:s.Floor.Kind.length≤cells
 zones:s.Zones.length≤most
 aparts:s.Aparts.length≤most
 shelves:s.Shelves.length≤most
 robots:s.Robots.length≤most
 zone:∀z,z∈s.Zones→z.Cells.length≤cells∧z.Shut.length≤20
theorem Q2s {s:ApiSite} (k:OkApiSite s) {cells most:Int} (hm:0≤most∧most≤1000000) {post:Bool→Prop} (hF:post false) (hT:FewS s cells most→post true):Xp s cells most post:=by
 unfold Xp
 refine Q4I s.Zones k.Zones.1 (T:=fun s3 q=>Jn (fun (J10:Bool→Prop)=>∃x11,idx s.Zones s3=some x11∧Ite (decide ((x11.Cells.length:Int)>cells)) (J10 true) (Ite (decide ((x11.Shut.length:Int)>20)) (J10 true) (J10 (decide ((x11.Name.size:Int)>40))))) q) (fun z=>z.Cells.length≤cells∧z.Shut.length≤20) (fun i x hx q q1 q2=>Jn.ex x hx (Jor3 ?_)) hF (fun hz=>?_)
 ·cases hb:(decide ((x.Cells.length:Int)>cells)||decide ((x.Shut.length:Int)>20)||decide ((x.Name.size:Int)>40))
  ·simp only [Bool.or_eq_false_iff,decide_eq_false_iff_not] at hb
   exact q2 ⟨by omega,by omega⟩
  ·exact q1
 refine Q4I s.Aparts k.Aparts.1 (T:=fun s3 q=>Jn (fun (J10:Bool→Prop)=>∃x11,idx s.Aparts s3=some x11∧Ite (decide ((x11.A.size:Int)>40)) (J10 true) (J10 (decide ((x11.B.size:Int)>40)))) q) (fun z=>True) (fun i x hx q q1 q2=>Jn.ex x hx (Jor2 ?_)) hF (fun _=>?_)
 ·cases hb:(decide ((x.A.size:Int)>40)||decide ((x.B.size:Int)>40))
  ·exact q2 trivial
  ·exact q1
 refine Q4I s.Shelves k.Shelves.1 (T:=fun s3 q=>∃x11,idx s.Shelves s3=some x11∧q (decide ((x11.Class.size:Int)>40))) (fun z=>True) (fun i x hx q q1 q2=>⟨x,hx,?_⟩) hF (fun _=>?_)
 ·cases hb:(decide ((x.Class.size:Int)>40))
  ·exact q2 trivial
  ·exact q1
 refine Jn.mk' (Q2v (Ite.f rfl hF) (fun f1 f2=>Ite.t rfl (Ite.mk (fun h1=>Ite.mk (fun h2=>Ite.mk (fun h3=>?_) (fun _=>hF)) (fun _=>hF)) (fun _=>hF))))
 simp at h1 h2 h3
 cases hb:decide ((s.Robots.length:Int)≤most)
 ·exact hF
 ·exact hT ⟨f1,h1,h2,h3,by simpa using hb,hz h1⟩
end Go.Taq
/- Chapter 24 (cbs), part A: right trips, what a robot can do in a place, walks. -/
set_option linter.unusedVariables false
set_option linter.unusedSimpArgs false
namespace Go.Taq
open Go
theorem kw {x:Int} (h1:-1000000≤x) (h2:x≤1000000000):w64 x=x:=K8 (by omega) (by omega)
theorem kw1 {n:Nat} (h:n≤1000000000):w64 ((n:Int)+1)=((n+1:Nat):Int):=by rw [K8 (by omega) (by omega)];simp
def opC (s:ApiSite) (c:Int):Bool:=isC s.Floor c&&(kd s.Floor c != 0)
theorem Y7 {s:ApiSite} {c:Int} {post:Bool→Prop} (hp:post (opC s c)):XQ s c post:=by
 unfold XQ
 refine Jn.eq (opC s c) (Ite.mk (fun h1=>Ite.mk (fun h2=>?_) (fun h2=>?_)) (fun h1=>?_)) hp
 ·have a1:0≤c:=of_decide_eq_true h1
  have a2:c<(s.Floor.Kind.length:Int):=of_decide_eq_true h2
  have hx:s.Floor.Kind[c.toNat]?=some (s.Floor.Kind[c.toNat]'(by omega)):=List.getElem?_eq_getElem _
  refine⟨kd s.Floor c,?_,?_⟩
  ·unfold idx kd;rw [if_pos a1,hx,List.getD_eq_getElem?_getD,hx];rfl
  ·simp [opC,isC,a1,a2]
 ·have a2:¬c<(s.Floor.Kind.length:Int):=of_decide_eq_false h2
  simp [opC,isC,a2]
 ·have a1:¬0≤c:=of_decide_eq_false h1
  simp [opC,isC,a1]
def rT (s:ApiSite):List (Int×Bool)→List (Int×Bool)→List ApiTrip→Bool
 | _,_,[]=>true
 | m1,m2,x :: r=>if (opC s x.From&&opC s x.To&&!((lk m1 x.From).getD false)&&!((lk m2 x.To).getD false))=true then rT s (upd m1 x.From true) (upd m2 x.To true) r else false
def ZH (s:ApiSite) (trips:List ApiTrip):Bool:=rT s [] [] trips&&(decide (1≤trips.length)&&decide (trips.length≤4))
theorem Q0b {s:ApiSite} {trips:List ApiTrip} (hl:trips.length≤1000000) {post:Bool→Prop} (hp:post (ZH s trips)):XT s trips post:=by
 unfold XT
 refine Jn.mk (fun _=>rT s [] [] trips=true) (Loop.inv trips.length (fun i (t:List (Int×Bool)×List (Int×Bool)×Int)=>t.2.2=(i:Int)∧rT s t.1 t.2.1 (trips.drop i)=rT s [] [] trips) ⟨rfl,rfl⟩ (fun i t hi hI=>?_) (fun t hI=>?_)) (fun _ h=>?_)
 ·obtain⟨m1,m2,c⟩:=t
  obtain⟨rfl,hI⟩:=hI
  simp only at hI
  have hx:trips[i]?=some (trips[i]'hi):=List.getElem?_eq_getElem hi
  have hd:trips.drop i=trips[i]'hi :: trips.drop (i+1):=List.drop_eq_getElem_cons hi
  generalize trips[i]'hi=x at hx hd
  rw [hd,rT] at hI
  refine Ite.lt (by show (i:Int)<_;omega) ⟨x,Qo rfl hx,?_⟩
  refine Jn.eq (!(opC s x.From&&opC s x.To&&!((lk m1 x.From).getD false)&&!((lk m2 x.To).getD false))) (Y7 (Ite.mk (fun h1=>Y7 (Ite.mk (fun h2=>Ite.mk (fun h3=>?_) (fun h3=>?_)) (fun h2=>?_))) (fun h1=>?_))) (Ite.mk (fun e=>?_) (fun e=>?_))
  ·rw [h1,h2,h3];rfl
  ·rw [h1,h2,h3];simp
  ·rw [h2];simp
  ·rw [h1];simp
  ·simp only [Bool.not_eq_true'] at e
   rw [if_neg (by rw [e];decide)] at hI
   have:ZH s trips=false:=by unfold ZH;rw [←hI];rfl
   rw [this] at hp;exact hp
  ·simp only [Bool.not_eq_false'] at e
   rw [if_pos e] at hI
   exact⟨by show w64 ((i:Int)+1)=_;rw [kw1 (by omega)],hI⟩
 ·obtain⟨m1,m2,c⟩:=t
  obtain⟨rfl,hI⟩:=hI
  rw [List.drop_length] at hI
  exact Ite.nlt (by show ¬(trips.length:Int)<_;omega) hI.symm
 ·refine Jn.eq (decide (1≤trips.length)&&decide (trips.length≤4)) (Ite.mk (fun e=>?_) (fun e=>?_)) ?_
  ·have:1≤trips.length:=by have:=of_decide_eq_true e;omega
   simp only [this,decide_true,Bool.true_and]
   rw [decide_eq_decide];omega
  ·have:¬1≤trips.length:=by have:=of_decide_eq_false e;omega
   simp [this]
  ·unfold ZH at hp;rw [h] at hp;exact hp
theorem Q6d {s:ApiSite}:∀{trips:List ApiTrip} {m1 m2:List (Int×Bool)},rT s m1 m2 trips=true→(∀x,x∈trips→opC s x.From=true∧opC s x.To=true∧(lk m1 x.From).getD false=false∧(lk m2 x.To).getD false=false)∧trips.Pairwise (fun x y=>x.From≠y.From∧x.To≠y.To)
 | [],m1,m2,_=>⟨fun x h=>by simp at h,.nil⟩
 | x :: r,m1,m2,h=>by
  rw [rT] at h
  split at h
  ·rename_i e
   simp only [Bool.and_eq_true,Bool.not_eq_true'] at e
   obtain⟨h1,h2⟩:=Q6d h
   refine⟨fun y hy=>?_,.cons (fun y hy=>?_) h2⟩
   ·rcases List.mem_cons.1 hy with rfl | hy
    ·exact⟨e.1.1.1,e.1.1.2,e.1.2,e.2⟩
    ·obtain⟨a1,a2,a3,a4⟩:=h1 y hy
     rw [GG] at a3 a4
     refine⟨a1,a2,?_,?_⟩
     ·split at a3
      ·simp at a3
      ·exact a3
     ·split at a4
      ·simp at a4
      ·exact a4
   ·obtain⟨a1,a2,a3,a4⟩:=h1 y hy
    rw [GG] at a3 a4
    refine⟨fun e=>?_,fun e=>?_⟩
    ·rw [if_pos e] at a3;simp at a3
    ·rw [if_pos e] at a4;simp at a4
  ·cases h
theorem Q08 {s:ApiSite} {trips:List ApiTrip} (h:ZH s trips=true):(∀x,x∈trips→opC s x.From=true∧opC s x.To=true)∧trips.Pairwise (fun x y=>x.From≠y.From∧x.To≠y.To)∧1≤trips.length∧trips.length≤4:=by
 simp only [ZH,Bool.and_eq_true,decide_eq_true_eq] at h
 obtain⟨h1,h2⟩:=Q6d h.1
 exact⟨fun x hx=>⟨(h1 x hx).1,(h1 x hx).2.1⟩,h2,h.2.1,h.2.2⟩
theorem Q0g {c t:Int}:Q1M [] c t=false:=rfl
theorem Q5C (a b:Int):imax a b=imax b a:=by simp only [imax];split <;> split <;> omega
/-! ## what a robot can do in a place -/
def mv1 (s:ApiSite) (avoid:List Int) (t:Int) (q:CbsPlace) (d:Nat):List Ke:=
 if ((nx s.Floor q.cell d).2&&(q.rest == 0)&&opn s (nx s.Floor q.cell d).1 t&&!(avoid.contains (nx s.Floor q.cell d).1))=true
 then [{act:=1+(d:Int),to_:={cell:=(nx s.Floor q.cell d).1,rest:=spd s (nx s.Floor q.cell d).1-1,done:=false}}] else []
def mvs (s:ApiSite) (avoid:List Int) (t:Int) (q:CbsPlace):List Ke:=
 {act:=0,to_:={cell:=q.cell,rest:=imax 0 (q.rest-1),done:=false}} :: ((List.range 6).map (mv1 s avoid t q)).flatten
theorem Q2b {s:ApiSite} {avoid:List Int} {t:Int} {q:CbsPlace} {d:Nat}:(mv1 s avoid t q d).length≤1:=by
 unfold mv1;split <;> simp
theorem Q06 {p:CbsProblem} (k:OkApiSite p.s) (h:RS p.s) (hav:p.avoid.length≤maxLen) (ht:0≤p.tick∧p.tick≤20000) {q:CbsPlace} (hq:0≤q.rest∧q.rest≤1000) {n:Nat} (hn:n≤1000) {post:List Ke→Prop}
  (hp:post (mvs p.s p.avoid (p.tick+n) q)):Kt p q (n:Int) post:=by
 unfold Kt
 have e0:w64 (q.rest-1)=q.rest-1:=kw (by omega) (by omega)
 have e1:w64 (p.tick+(n:Int))=p.tick+n:=kw (by omega) (by omega)
 rw [e0,e1]
 refine Jn.mk (fun l=>l=mvs p.s p.avoid (p.tick+n) q) (Loop.inv 6 (fun i (t:List Ke×Int)=>t.2=(i:Int)∧t.1={act:=0,to_:={cell:=q.cell,rest:=imax 0 (q.rest-1),done:=false}} :: ((List.range i).map (mv1 p.s p.avoid (p.tick+n) q)).flatten∧t.1.length≤i+1) ⟨rfl,rfl,Nat.le_refl _⟩ (fun i t hi hI=>?_) (fun t hI=>?_)) (fun l e=>by subst e;exact hp)
 ·obtain⟨l,c⟩:=t
  obtain⟨rfl,hl,hlen⟩:=hI
  simp only at hl hlen
  refine Ite.t (decide_eq_true (by show (i:Int)<6;omega)) (Wf h.fl ?_)
  have hr:((List.range (i+1)).map (mv1 p.s p.avoid (p.tick+n) q)).flatten=((List.range i).map (mv1 p.s p.avoid (p.tick+n) q)).flatten++mv1 p.s p.avoid (p.tick+n) q i:=by
   rw [List.range_succ];simp
  have hw:w64 ((i:Int)+1)=((i+1:Nat):Int):=kw1 (by omega)
  have hsp:=Q2O h (nx p.s.Floor q.cell i).1
  refine Jn.eq ((nx p.s.Floor q.cell i).2&&(q.rest == 0)&&opn p.s (nx p.s.Floor q.cell i).1 (p.tick+n)&&!(p.avoid.contains (nx p.s.Floor q.cell i).1)) ?_ (Jn.mk (fun l'=>l'=l++mv1 p.s p.avoid (p.tick+n) q i) (Ite.mk (fun e=>?_) (fun e=>?_)) (fun l' e=>?_))
  ·refine Ite.mk (fun h1=>Ite.mk (fun h2=>ZG k h (Ite.mk (fun h3=>XZ hav ?_) (fun h3=>?_))) (fun h2=>?_)) (fun h1=>?_)
   ·rw [h1,h2,h3];simp
   ·rw [h1,h2,h3];simp
   ·rw [h1,h2];simp
   ·rw [h1];simp
  ·refine WJ k h ⟨by show l.length+1≤_;omega,?_⟩
   have e2:w64 (1+(i:Int))=1+(i:Int):=kw (by omega) (by omega)
   have e3:w64 (spd p.s (nx p.s.Floor q.cell i).1-1)=spd p.s (nx p.s.Floor q.cell i).1-1:=kw (by omega) (by omega)
   rw [e2,e3]
   unfold mv1;rw [if_pos e]
  ·unfold mv1;rw [if_neg (by rw [e];decide)];simp
  ·subst e
   refine⟨hw,?_,?_⟩
   ·show l++_=_
    rw [hr,hl];simp
   ·show (l++_).length≤_
    have:=Q2b (s:=p.s) (avoid:=p.avoid) (t:=p.tick+n) (q:=q) (d:=i)
    simp;omega
 ·obtain⟨l,c⟩:=t
  obtain⟨rfl,hl,hlen⟩:=hI
  exact Ite.f (decide_eq_false (by show ¬((6:Nat):Int)<6;omega)) hl
theorem Z0 {s:ApiSite} (h:RS s) {avoid:List Int} {t:Int} {q:CbsPlace} (hq:0≤q.rest) {m:Ke} (hm:m∈mvs s avoid t q):
  YZ s [] avoid t (q.cell,q.rest) m.act=((m.to_.cell,m.to_.rest),0)∧0≤m.act∧m.act<7∧m.to_.done=false ∧
  (m.act=0∧m.to_.cell=q.cell∨1≤m.act∧nx s.Floor q.cell (m.act-1)=(m.to_.cell,true)):=by
 rcases List.mem_cons.1 hm with rfl | hm
 ·refine⟨?_,by simp,by simp,rfl,.inl ⟨rfl,rfl⟩⟩
  simp only [YZ,if_pos,Q0g,Bool.false_eq_true,if_false]
  rw [Q5C]
 ·obtain⟨l,hl,hml⟩:=List.mem_flatten.1 hm
  obtain⟨d,hd,rfl⟩:=List.mem_map.1 hl
  have hd6:d<6:=by simpa using hd
  unfold mv1 at hml
  split at hml
  ·rename_i e
   simp only [List.mem_singleton] at hml
   subst hml
   simp only [Bool.and_eq_true,beq_iff_eq,Bool.not_eq_true'] at e
   obtain⟨⟨⟨e1,e2⟩,e3⟩,e4⟩:=e
   have ha:(1:Int)+(d:Int)-1=(d:Int):=by omega
   refine⟨?_,by simp only [];omega,by simp only [];omega,rfl,.inr ⟨by simp only [];omega,?_⟩⟩
   ·simp only [YZ]
    rw [if_neg (by omega),if_neg (by rw [e2];omega),ha,if_neg (by rw [e1,e4];simp),if_neg (by rw [e3];simp),if_neg (by simp [Q0g])]
   ·simp only [ha]
    rw [Prod.ext_iff];exact⟨rfl,e1⟩
  ·simp at hml
end Go.Taq
/- Chapter 24 (cbs), part B: the keys of a map in order, a list turned round, walks of one robot. -/
set_option linter.unusedVariables false
set_option linter.unusedSimpArgs false
namespace Go.Taq
open Go
theorem Q3s:∀(n:Nat) (o:List Int),o.Nodup→(∀x,x∈o→0≤x∧x<n)→o.length≤n
 | 0,o,_,h=>by
  cases o with
  | nil=>simp
  | cons x r=>have:=h x (by simp);omega
 | n+1,o,hn,h=>by
  by_cases hm:(n:Int)∈o
  ·have h1:=Q3s n (o.erase n) (hn.erase _) (fun x hx=>by
    have h2:=(hn.mem_erase_iff).1 hx
    have:=h x h2.2
    have:=h2.1
    omega)
   rw [List.length_erase_of_mem hm] at h1
   omega
  ·have:=Q3s n o hn (fun x hx=>by
    have:=h x hx
    have:x≠n:=fun e=>hm (e▸hx)
    omega)
   omega
theorem Q4l {α:Type} (f:α→Int) {N:Nat} {xs:List α} (hn:xs.Nodup) (hf:∀x,x∈xs→0≤f x∧f x<N) (hi:∀x,x∈xs→∀y,y∈xs→f x=f y→x=y):xs.length≤N:=by
 have h1:(xs.map f).Nodup:=by
  rw [List.Nodup,List.pairwise_map]
  exact List.Pairwise.imp_of_mem (fun ha hb hab e=>hab (hi _ ha _ hb e)) hn
 have:=Q3s N (xs.map f) h1 (fun x hx=>by
  obtain⟨y,hy,rfl⟩:=List.mem_map.1 hx
  exact hf y hy)
 simpa using this
theorem Q2J {κ α:Type} [DecidableEq κ] {layer:List (κ×α)} (hB:∀ks:List κ,ks.Nodup→(∀x,x∈ks→lk layer x≠none)→ks.length+1≤1099511627776) {J:List κ→Prop} (hJ:∀ks:List κ,ks.Nodup→(∀x,x∈ks↔lk layer x≠none)→J ks):
  Loop (fun (s9:List κ×List κ) Y10=>(∀x11 x12,lk layer x11=some x12∧x11∉s9.2→(s9.1.length+([x11]:List κ).length≤1099511627776)∧Y10 ((s9.1++([x11]:List κ)),(x11 :: s9.2)))∧((∀x,lk layer x≠none→x∈s9.2)→J s9.1)) (([],[]):List κ×List κ):=by
 refine Loop.mk (fun s=>s.1.Nodup∧(∀x,x∈s.1→lk layer x≠none)∧∀x,x∈s.1↔x∈s.2) (fun s=>left layer s.2) ⟨.nil,fun x h=>(by simp at h),fun x=>Iff.rfl⟩ (fun s hI=>?_)
 obtain⟨ks,seen⟩:=s
 obtain⟨h1,h2,h3⟩:=hI
 simp only at h1 h2 h3
 refine⟨fun x v ⟨hx,hns⟩=>⟨hB ks h1 h2,⟨?_,?_,?_⟩,Q1D layer hx hns⟩,fun hall=>hJ ks h1 (fun x=>⟨h2 x,fun h=>(h3 x).2 (hall x h)⟩)⟩
 ·show (ks++[x]).Nodup
  rw [List.nodup_append]
  refine⟨h1,by simp,fun a ha b hb=>?_⟩
  simp at hb;subst hb
  rintro rfl
  exact hns ((h3 a).1 ha)
 ·intro y hy
  rcases List.mem_append.1 hy with h | h
  ·exact h2 y h
  ·simp at h;subst h;rw [hx];simp
 ·intro y
  show y∈ks++[x]↔y∈x :: seen
  rw [List.mem_append,List.mem_cons,h3 y]
  simp [or_comm]
theorem Q0T {xs:List Int} (hl:xs.length≤100000) {post:List Int→Prop} (hp:post xs.reverse):QL xs post:=by
 unfold QL
 have w0:w64 ((xs.length:Int)-1)=(xs.length:Int)-1:=kw (by omega) (by omega)
 rw [w0]
 refine Jn.mk (fun ys=>ys=xs.reverse) (Loop.mk (fun (s:List Int×Int×Int)=>∃a:Nat,s.2.1=(a:Int)∧s.2.2=(xs.length:Int)-1-a∧s.1.length=xs.length∧(2*a≤xs.length+1)∧∀m:Nat,m<xs.length→s.1[m]?=if m<a∨xs.length≤m+a then xs[xs.length-1-m]? else xs[m]?) (fun s=>(s.2.2-s.2.1+1).toNat) ⟨0,rfl,by simp,rfl,by omega,fun m hm=>by rw [if_neg (by omega)]⟩ (fun s hI=>?_)) (fun ys e=>by subst e;exact hp)
 obtain⟨l,i,j⟩:=s
 obtain⟨a,h1,h2,h3,h5,h4⟩:=hI
 simp only at h1 h2 h3 h4
 subst h1
 refine Ite.mk (fun e=>?_) (fun e=>?_)
 ·have e':(a:Int)<j:=of_decide_eq_true e
  obtain⟨b,hb⟩:∃b:Nat,j=(b:Int):=⟨j.toNat,by omega⟩
  subst hb
  have hal:a<xs.length:=by omega
  have hbl:b<xs.length:=by omega
  have ga:l[a]?=some (xs[a]'hal):=by rw [h4 a hal,if_neg (by omega)];exact List.getElem?_eq_getElem hal
  have gb:l[b]?=some (xs[b]'hbl):=by rw [h4 b hbl,if_neg (by omega)];exact List.getElem?_eq_getElem hbl
  have gc:(l.set a (xs[b]'hbl))[b]?=some (xs[b]'hbl):=by rw [List.getElem?_set_ne (by omega)];exact gb
  have w1:w64 ((a:Int)+1)=((a+1:Nat):Int):=kw1 (by omega)
  have w2:w64 ((b:Int)-1)=(b:Int)-1:=kw (by omega) (by omega)
  refine⟨_,Qo rfl gb,_,Qo rfl ga,_,Qo rfl gc,⟨a+1,w1,?_,by simp [h3],by omega,fun m hm=>?_⟩,?_⟩
  ·show w64 ((b:Int)-1)=_;rw [w2];omega
  ·show ((l.set a (xs[b]'hbl)).set b (xs[a]'hal))[m]?=_
   by_cases c1:m=b
   ·subst c1
    rw [List.getElem?_set_self (by simp [h3];omega),if_pos (by omega),show xs.length-1-m=a by omega]
    exact (List.getElem?_eq_getElem hal).symm
   ·rw [List.getElem?_set_ne (fun e=>c1 e.symm)]
    by_cases c2:m=a
    ·subst c2
     rw [List.getElem?_set_self (by omega),if_pos (by omega),show xs.length-1-m=b by omega]
     exact (List.getElem?_eq_getElem hbl).symm
    ·rw [List.getElem?_set_ne (fun e=>c2 e.symm),h4 m hm]
     by_cases c3:m<a∨xs.length≤m+a
     ·rw [if_pos c3,if_pos (by omega)]
     ·rw [if_neg c3,if_neg (by omega)]
  ·show (w64 ((b:Int)-1)-w64 ((a:Int)+1)+1).toNat<((b:Int)-(a:Int)+1).toNat
   rw [w1,w2];omega
 ·have e':¬(a:Int)<j:=of_decide_eq_false e
  show l=xs.reverse
  apply List.ext_getElem?
  intro m
  by_cases c:m<xs.length
  ·rw [h4 m c,List.getElem?_reverse c]
   split
   ·rfl
   ·rw [show xs.length-1-m=m by omega]
  ·rw [List.getElem?_eq_none (by omega),List.getElem?_eq_none (by simp;omega)]
/-! ## the places of a layer in order -/
def pO (q:CbsPlace):Prop:=0≤q.cell∧q.cell≤100∧0≤q.rest∧q.rest≤100
def cfO (a b:CbsPlace):Int:=if a.cell-b.cell≠0 then a.cell-b.cell else a.rest-b.rest
theorem swoO:SWOc fun x y:Subtype pO=>cfO x.1 y.1:=by
 refine⟨fun x=>?_,fun x y z=>?_,fun x y z=>?_⟩
 ·simp [cfO]
 ·simp only [cfO];repeat' split
  all_goals omega
 ·simp only [cfO];repeat' split
  all_goals omega
theorem Q4j {x y:Int} {post:Int→Prop} (hp:post (if x≠0 then x else y)):Gf [x,y] post:=by
 unfold Gf
 have e1:w64 ((0:Int)+1)=1:=by decide
 have e2:w64 ((1:Int)+1)=2:=by decide
 refine Jn.mk' (Loop.step (Ite.t (by simp) ⟨x,rfl,Ite.mk (fun h=>?_) (fun h=>?_)⟩))
 ·have h:x≠0:=by simpa using h
  rw [if_pos h] at hp;exact hp
 ·have h:¬x≠0:=by simpa using h
  rw [if_neg h] at hp
  rw [e1]
  refine Loop.step (Ite.t (by simp) ⟨y,rfl,Ite.mk (fun h=>hp) (fun h2=>?_)⟩)
  have h2:y=0:=by simpa using h2
  rw [e2]
  refine Loop.step (Ite.f (by simp) ?_)
  subst h2;exact hp
def Ge (q:CbsPlace):Int:=(q.cell*101+q.rest)*2+(if q.done=true then 1 else 0)
theorem Q3Q {q:CbsPlace} (h:pO q):0≤Ge q∧Ge q<20402:=by
 obtain⟨h1,h2,h3,h4⟩:=h
 unfold Ge;split <;> omega
theorem YY {a b:CbsPlace} (ha:pO a) (hb:pO b) (h:Ge a=Ge b):a=b:=by
 obtain⟨c,r,d⟩:=a
 obtain⟨c',r',d'⟩:=b
 obtain⟨h1,h2,h3,h4⟩:=ha
 obtain⟨g1,g2,g3,g4⟩:=hb
 simp only at h1 h2 h3 h4 g1 g2 g3 g4
 simp only [Ge] at h
 have hd:d=d':=by
  cases d <;> cases d' <;> simp at h ⊢ <;> omega
 subst hd
 have hc:c=c':=by split at h <;> omega
 subst hc
 have hr:r=r':=by split at h <;> omega
 subst hr;rfl
theorem Q3V {layer:List (CbsPlace×CbsOrigin)} (h:∀x,lk layer x≠none→pO x) {post:List CbsPlace→Prop} (hp:∀ys:List CbsPlace,ys.length≤20402→(∀x,x∈ys↔lk layer x≠none)→post ys):Kn layer post:=by
 unfold Kn
 have hB:∀ks:List CbsPlace,ks.Nodup→(∀x,x∈ks→lk layer x≠none)→ks.length≤20402:=fun ks h1 h2=>
  Q4l Ge h1 (fun x hx=>Q3Q (h x (h2 x hx))) (fun x hx y hy e=>YY (h x (h2 x hx)) (h y (h2 y hy)) e)
 refine Jn.mk (fun ks=>ks.Nodup∧∀x,x∈ks↔lk layer x≠none) (Q2J (J:=fun ks:List CbsPlace=>ks.Nodup∧∀x,x∈ks↔lk layer x≠none) (fun ks h1 h2=>by have:=hB ks h1 h2;omega) (fun ks h1 h2=>⟨h1,h2⟩)) (fun ks ⟨h1,h2⟩=>?_)
 have hlen:=hB ks h1 (fun x hx=>(h2 x).1 hx)
 refine⟨pO,cfO,⟨by decide,by decide,by decide,by decide⟩,swoO,fun x hx=>h x ((h2 x).1 hx),fun x y hx hy=>?_,by omega,fun ys hperm _=>hp ys (by rw [hperm.length_eq];exact hlen) (fun x=>by rw [hperm.mem_iff];exact h2 x)⟩
 unfold Kv
 obtain⟨h1,h2,h3,h4⟩:=hx
 obtain⟨g1,g2,g3,g4⟩:=hy
 rw [kw (by omega) (by omega),kw (by omega) (by omega)]
 exact Q4j rfl
end Go.Taq
/- Chapter 24 (cbs), part C: the shortest walk of one robot. -/
set_option linter.unusedVariables false
set_option linter.unusedSimpArgs false
namespace Go.Taq
open Go
def Gw (s:ApiSite) (avoid:List Int) (t:Int) (q q':Int×Int) (w:List Int):Prop:=runF s [] avoid t q w=(q',0)∧∀a,a∈w→0≤a∧a<7
theorem Gw.nil {s:ApiSite} {avoid:List Int} {t:Int} {q:Int×Int}:Gw s avoid t q q []:=⟨rfl,fun a h=>by simp at h⟩
theorem Gw.cons {s:ApiSite} {avoid:List Int} {t:Int} {q q1 q':Int×Int} {a:Int} {w:List Int} (hs:YZ s [] avoid t q a=(q1,0)) (ha:0≤a∧a<7) (h:Gw s avoid (t+1) q1 q' w):Gw s avoid t q q' (a :: w):=by
 refine⟨?_,fun b hb=>?_⟩
 ·rw [runF,hs,if_pos rfl];exact h.1
 ·rcases List.mem_cons.1 hb with rfl | hb
  ·exact ha
  ·exact h.2 b hb
structure Q3n (s:ApiSite) (avoid:List Int) (tick most:Int) (x:ApiTrip) (w:List Int):Prop where
 len:(w.length:Int)≤most
 run:∃r,Gw s avoid tick (x.From,0) (x.To,r) w
theorem Q3n.check {s:ApiSite} {avoid:List Int} {tick most:Int} {x:ApiTrip} {w:List Int} (h:Q3n s avoid tick most x w) (h1:opC s x.From=true) (h2:opC s x.To=true) (ht:0≤tick∧tick≤20000):Q1U s x.From x.To tick [] avoid w=0:=by
 obtain⟨r,hr,ha⟩:=h.run
 have hf:w.any Wd=false:=by
  rw [List.any_eq_false]
  intro a hm
  have:=ha a hm
  simp [Wd];omega
 have hR:YA s x.From x.To tick=true:=by
  unfold opC at h1 h2
  simp only [YA,h1,h2,Bool.true_and]
  simp [ht.1,ht.2]
 unfold Q1U
 rw [hR,hf,hr]
 simp [Q0g]
structure Lay (s:ApiSite) (avoid:List Int) (tick a:Int) (ls:List (List (CbsPlace×CbsOrigin))):Prop where
 z:∀l,ls[0]?=some l→∀q,lk l q≠none→q={cell:=a,rest:=0,done:=false}
 s:∀(k:Nat) l l',ls[k]?=some l→ls[k+1]?=some l'→∀q o,lk l' q=some o→lk l o.from_≠none∧({act:=o.act,to_:=q}:Ke)∈mvs s avoid (tick+k) o.from_
def Nxt (s:ApiSite) (avoid:List Int) (tick:Int) (k:Nat) (l nxt:List (CbsPlace×CbsOrigin)):Prop:=∀q o,lk nxt q=some o→lk l o.from_≠none∧({act:=o.act,to_:=q}:Ke)∈mvs s avoid (tick+k) o.from_
section
variable {s:ApiSite} {avoid:List Int} {tick a:Int} {ls:List (List (CbsPlace×CbsOrigin))}
theorem Lay.q (h:RS s) (ha:isC s.Floor a=true) (hL:Lay s avoid tick a ls):∀(k:Nat) l,ls[k]?=some l→∀q,lk l q≠none→isQ s (q.cell,q.rest)∧q.done=false
 | 0,l,hl,q,hq=>by
  have:=hL.z l hl q hq
  subst this
  exact⟨⟨ha,by simp,by simp⟩,rfl⟩
 | k+1,l',hl',q,hq=>by
  have hk:k<ls.length:=by have:=(List.getElem?_eq_some_iff.1 hl').1;omega
  have hl:ls[k]?=some (ls[k]'hk):=List.getElem?_eq_getElem hk
  obtain⟨o,ho⟩:∃o,lk l' q=some o:=by
   cases hx:lk l' q with
   | none=>exact absurd hx hq
   | some o=>exact⟨o,rfl⟩
  obtain⟨h1,h2⟩:=hL.s k _ l' hl hl' q o ho
  obtain⟨g1,g2⟩:=Lay.q h ha hL k _ hl o.from_ h1
  obtain⟨m1,m2,m3,m4,_⟩:=Z0 h g1.2.1 h2
  have:=Q1H h g1 (by rw [m1])
  rw [m1] at this
  exact⟨this,m4⟩
theorem Q4e (h60:s.Floor.Kind.length≤100) {q:CbsPlace} (hq:isQ s (q.cell,q.rest)):pO q:=by
 obtain⟨h1,h2,h3⟩:=hq
 simp only [isC,Bool.and_eq_true,decide_eq_true_eq] at h1 h2 h3
 exact⟨h1.1,by omega,h2,by omega⟩
theorem Lay.push (hL:Lay s avoid tick a ls) {k:Nat} {l nxt:List (CbsPlace×CbsOrigin)} (hk:ls.length=k+1) (hl:ls[k]?=some l) (hN:Nxt s avoid tick k l nxt):Lay s avoid tick a (ls++[nxt]):=by
 refine⟨fun l0 h0=>hL.z l0 (by rw [List.getElem?_append_left (by omega)] at h0;exact h0),fun j l1 l2 h1 h2=>?_⟩
 by_cases c:j+1<ls.length
 ·rw [List.getElem?_append_left (by omega)] at h1
  rw [List.getElem?_append_left c] at h2
  exact hL.s j l1 l2 h1 h2
 ·have hj:=(List.getElem?_eq_some_iff.1 h2).1
  simp at hj
  have:j=k:=by omega
  subst this
  rw [List.getElem?_append_left (by omega)] at h1
  rw [hl] at h1;cases h1
  rw [List.getElem?_append_right (by omega),show j+1-ls.length=0 by omega] at h2
  simp at h2;subst h2
  exact hN
end
theorem S_cbs_walk {p:CbsProblem} (k:OkApiSite p.s) (h:RS p.s) (h60:p.s.Floor.Kind.length≤100) (hav:p.avoid.length≤maxLen) (ht:0≤p.tick∧p.tick≤20000) (hm:0≤p.most∧p.most≤1000) {i:Nat} {x:ApiTrip} (hx:p.trips[i]?=some x) (hf:isC p.s.Floor x.From=true)
  {bans:List (Kl×Bool)} {post:List Int×Bool→Prop} (hp1:∀w,Q3n p.s p.avoid p.tick p.most x w→post (w,true)) (hp0:post ([],false)):KD p (i:Int) bans post:=by
 unfold KD
 refine Jn.mk (fun _=>True) (Loop.mk (fun _=>True) (fun s=>left bans s.2) trivial (fun st _=>?_)) (fun last _=>?_)
 ·obtain⟨c,seen⟩:=st
  refine⟨fun b v ⟨hb,hns⟩=>?_,fun _=>trivial⟩
  refine Jn.mk (fun _=>True) (Ite.mk (fun _=>⟨x,Qo rfl hx,trivial⟩) (fun _=>trivial)) (fun b' _=>Jn.mk (fun _=>True) (Ite.mk (fun _=>trivial) (fun _=>trivial)) (fun c' _=>⟨trivial,Q1D bans hb hns⟩))
 ·refine⟨x,Qo rfl hx,?_⟩
  obtain⟨n,hn⟩:∃n:Nat,p.most=(n:Int):=⟨p.most.toNat,by omega⟩
  have h0:Lay p.s p.avoid p.tick x.From [upd ([]:List (CbsPlace×CbsOrigin)) {cell:=x.From,rest:=0,done:=false} {from_:={cell:=0,rest:=0,done:=false},act:=0}]:=by
   refine⟨fun l hl q hq=>?_,fun j l l' h1 h2=>?_⟩
   ·simp at hl;subst hl
    rw [GG] at hq
    split at hq
    ·rename_i e;exact e.symm
    ·exact absurd rfl hq
   ·have:=(List.getElem?_eq_some_iff.1 h2).1
    simp at this
  refine Jn.mk (fun _=>True) (Loop.inv (n+1) (fun j (t:List (List (CbsPlace×CbsOrigin))×Int)=>t.2=(j:Int)∧t.1.length=j+1∧Lay p.s p.avoid p.tick x.From t.1) ⟨rfl,rfl,h0⟩ (fun j t hj hI=>?_) (fun t hI=>?_)) (fun _ _=>hp0)
  ·obtain⟨ls,c⟩:=t
   obtain⟨rfl,hlen,hL⟩:=hI
   simp only at hlen hL
   refine Ite.t (decide_eq_true (by show (j:Int)≤_;omega)) ?_
   obtain⟨l,hl⟩:∃l,ls[j]?=some l:=⟨_,List.getElem?_eq_getElem (by omega)⟩
   have hset:ls.set (Int.toNat (j:Int)) l=ls:=set_idx (Qo rfl hl)
   refine Jn.mk (fun ls'=>ls'.length=j+2∧Lay p.s p.avoid p.tick x.From ls') ⟨l,Qo rfl hl,Q3V (fun q hq=>Q4e h60 (hL.q h hf j l hl q hq).1) (fun ys hys hmem=>?_)⟩ (fun ls' ⟨h1,h2⟩=>⟨by show w64 ((j:Int)+1)=_;rw [kw1 (by omega)],h1,h2⟩)
   refine Jn.mk (fun nxt=>Nxt p.s p.avoid p.tick j l nxt) (Loop.inv ys.length (fun m (t:List (CbsPlace×CbsOrigin)×Int)=>t.2=(m:Int)∧Nxt p.s p.avoid p.tick j l t.1) ⟨rfl,fun q o ho=>by cases ho⟩ (fun m t hm' hI=>?_) (fun t hI=>?_)) (fun nxt hN=>?_)
   ·obtain⟨nxt,c⟩:=t
    obtain⟨rfl,hN⟩:=hI
    simp only at hN
    have hy:ys[m]?=some (ys[m]'hm'):=List.getElem?_eq_getElem hm'
    generalize ys[m]'hm'=q at hy
    have hq:lk l q≠none:=(hmem q).1 (List.mem_of_getElem? hy)
    obtain⟨hqQ,hqd⟩:=hL.q h hf j l hl q hq
    refine Ite.lt (by show (m:Int)<_;omega) (Jn.mk (fun nxt'=>Nxt p.s p.avoid p.tick j l nxt') ⟨q,Qo rfl hy,?_⟩ (fun nxt' hN'=>⟨by show w64 ((m:Int)+1)=_;rw [kw1 (by omega)],hN'⟩))
    refine Jn.mk (fun b=>b=true→q.cell=x.To) ⟨x,Qo rfl hx,Ite.mk (fun e=>fun _=>by simpa using e) (fun e=>fun h=>by cases h)⟩ (fun b hb=>Ite.mk (fun e=>?_) (fun e=>?_))
    ·-- the goal: back along the origins
     subst e
     have hto:=hb rfl
     refine Jn.mk (fun w=>w.length=j∧∃r,Gw p.s p.avoid p.tick (x.From,0) (x.To,r) w.reverse) (Loop.mk (fun (t:List (List (CbsPlace×CbsOrigin))×Int×Int×Int×Bool×List Int)=>∃(i:Nat) (li:List (CbsPlace×CbsOrigin)),t.1=ls∧t.2.1=(i:Int)∧ls[i]?=some li∧lk li {cell:=t.2.2.1,rest:=t.2.2.2.1,done:=t.2.2.2.2.1}≠none∧t.2.2.2.2.2.length+i=j∧∃r,Gw p.s p.avoid (p.tick+i) (t.2.2.1,t.2.2.2.1) (x.To,r) t.2.2.2.2.2.reverse)
      (fun t=>t.2.1.toNat) ⟨j,l,hset,rfl,hl,hq,by simp,q.rest,by rw [←hto];exact .nil⟩ (fun t hI=>?_)) (fun w ⟨hwl,r,hw⟩=>Q0T (by omega) (hp1 _ ⟨by rw [List.length_reverse];omega,r,hw⟩))
     obtain⟨ls',c,cc,cr,cd,acts⟩:=t
     obtain⟨i,li,e1,e2,e3,e4,e5,r,hw⟩:=hI
     simp only at e1 e2 e4 e5 hw
     subst e1;subst e2
     refine Ite.mk (fun e=>?_) (fun e=>?_)
     ·have hi:0<i:=by have h9:(i:Int)>0:=of_decide_eq_true e;omega
      obtain⟨i',rfl⟩:∃i',i=i'+1:=⟨i-1,by omega⟩
      obtain⟨li',hli'⟩:∃li',ls'[i']?=some li':=⟨_,List.getElem?_eq_getElem (by omega)⟩
      obtain⟨o,ho⟩:∃o,lk li {cell:=cc,rest:=cr,done:=cd}=some o:=by
       cases hx:lk li {cell:=cc,rest:=cr,done:=cd} with
       | none=>exact absurd hx e4
       | some o=>exact⟨o,rfl⟩
      obtain⟨g1,g2⟩:=hL.s i' li' li hli' e3 _ o ho
      obtain⟨g3,g4⟩:=hL.q h hf i' li' hli' o.from_ g1
      obtain⟨m1,m2,m3,m4,_⟩:=Z0 h g3.2.1 g2
      simp only at m1 m2 m3
      refine⟨li,Qo rfl e3,by show acts.length+1≤_;omega,?_⟩
      rw [ho]
      simp only [Option.getD_some]
      refine⟨⟨i',li',set_idx (Qo rfl e3),?_,hli',g1,by simp;omega,r,?_⟩,?_⟩
      ·show w64 (((i'+1:Nat):Int)-1)=_;rw [kw (by omega) (by omega)];omega
      ·show Gw p.s p.avoid (p.tick+i') (o.from_.cell,o.from_.rest) (x.To,r) (acts++[o.act]).reverse
       rw [List.reverse_append]
       refine .cons m1 ⟨m2,m3⟩ ?_
       rw [Int.add_assoc,show (i':Int)+1=((i'+1:Nat):Int) by omega]
       exact hw
      ·show (w64 (((i'+1:Nat):Int)-1)).toNat<(((i'+1:Nat):Int)).toNat
       rw [kw (by omega) (by omega)];omega
     ·have hi:i=0:=by have h9:¬(i:Int)>0:=of_decide_eq_false e;omega
      subst hi
      refine⟨by simpa using e5,r,?_⟩
      have:=hL.z li e3 _ e4
      simp only [CbsPlace.mk.injEq] at this
      obtain⟨rfl,rfl,_⟩:=this
      simpa using hw
    ·refine Ite.mk (fun _=>hN) (fun _=>Q06 k h hav ht ⟨hqQ.2.1,by have:=hqQ.2.2;simp only at this;omega⟩ (by omega) ?_)
     have hml:(mvs p.s p.avoid (p.tick+j) q).length≤1000:=by
      unfold mvs
      have:(((List.range 6).map (mv1 p.s p.avoid (p.tick+j) q)).flatten).length≤6*1:=by
       rw [List.length_flatten]
       simp only [List.map_map]
       have key:∀l:List Nat,(l.map (List.length ∘ mv1 p.s p.avoid (p.tick+j) q)).sum≤l.length*1:=fun l=>by
        induction l with
        | nil=>simp
        | cons d l ih=>
         have:=Q2b (s:=p.s) (avoid:=p.avoid) (t:=p.tick+j) (q:=q) (d:=d)
         simp only [List.map_cons,List.sum_cons,Function.comp,List.length_cons] at ih ⊢
         omega
       have:=key (List.range 6)
       simpa using this
      simp only [List.length_cons];omega
     refine Jn.mk (fun nxt'=>Nxt p.s p.avoid p.tick j l nxt') (Loop.inv (mvs p.s p.avoid (p.tick+j) q).length (fun m (t:List (CbsPlace×CbsOrigin)×Int)=>t.2=(m:Int)∧Nxt p.s p.avoid p.tick j l t.1) ⟨rfl,hN⟩ (fun m t hm'' hI=>?_) (fun t hI=>?_)) (fun _ h=>h)
     ·obtain⟨nxt',c⟩:=t
      obtain⟨rfl,hN'⟩:=hI
      simp only at hN'
      have hmv:(mvs p.s p.avoid (p.tick+j) q)[m]?=some ((mvs p.s p.avoid (p.tick+j) q)[m]'hm''):=List.getElem?_eq_getElem hm''
      generalize (mvs p.s p.avoid (p.tick+j) q)[m]'hm''=mv at hmv
      refine Ite.lt (by show (m:Int)<_;omega) ⟨mv,Qo rfl hmv,?_⟩
      refine Jn.mk (fun _=>True) (Ite.mk (fun _=>trivial) (fun _=>trivial)) (fun b _=>Jn.mk (fun nxt''=>Nxt p.s p.avoid p.tick j l nxt'') (Ite.mk (fun _=>?_) (fun _=>hN')) (fun nxt'' h'=>⟨by show w64 ((m:Int)+1)=_;rw [kw1 (by omega)],h'⟩))
      intro q' o ho
      rw [GG] at ho
      split at ho
      ·rename_i e;subst e;cases ho
       exact⟨hq,List.mem_of_getElem? hmv⟩
      ·exact hN' q' o ho
     ·obtain⟨nxt',c⟩:=t
      obtain⟨rfl,hN'⟩:=hI
      exact Ite.nlt (by show ¬((_:Nat):Int)<_;omega) hN'
   ·obtain⟨nxt,c⟩:=t
    obtain⟨rfl,hN⟩:=hI
    exact Ite.nlt (by show ¬(ys.length:Int)<_;omega) hN
   ·rw [hset]
    have e1:(ls++[nxt]).set ls.length nxt=ls++[nxt]:=by simp
    rw [e1]
    exact⟨by omega,by simp [hlen],hL.push hlen hl hN⟩
  ·obtain⟨ls,c⟩:=t
   obtain⟨rfl,_,_⟩:=hI
   exact Ite.f (decide_eq_false (by show ¬((n+1:Nat):Int)≤_;omega)) trivial
end Go.Taq
/- The mathematics, part Z: distances by breadth first search (floor.spread). -/
set_option linter.unusedVariables false
namespace Go.Taq
open Go
def gI (l:List Int) (c:Int):Int:=l.getD c.toNat (-1)
def gB (l:List Bool) (c:Int):Bool:=l.getD c.toNat false
theorem Q09 {l:List Int} {c c' v:Int} (h0:0≤c) (h1:c<l.length) (h2:0≤c'):gI (l.set c.toNat v) c'=if c=c' then v else gI l c':=by
 unfold gI
 rw [List.getD_eq_getElem?_getD,List.getD_eq_getElem?_getD,List.getElem?_set]
 by_cases e:c=c'
 ·subst e;rw [if_pos rfl,if_pos (by omega),if_pos rfl];rfl
 ·rw [if_neg (by omega),if_neg e]
theorem Q5E {l:List Bool} {c c':Int} {v:Bool} (h0:0≤c) (h1:c<l.length) (h2:0≤c'):gB (l.set c.toNat v) c'=if c=c' then v else gB l c':=by
 unfold gB
 rw [List.getD_eq_getElem?_getD,List.getD_eq_getElem?_getD,List.getElem?_set]
 by_cases e:c=c'
 ·subst e;rw [if_pos rfl,if_pos (by omega),if_pos rfl];rfl
 ·rw [if_neg (by omega),if_neg e]
theorem Q1S:∀{l:List Bool} {i:Nat},l[i]?=some true→(l.set i false).count true+1=l.count true
 | [],i,h=>by simp at h
 | b :: l,0,h=>by simp at h;subst h;simp
 | b :: l,i+1,h=>by
  have ih:=Q1S (l:=l) (i:=i) (by simpa using h)
  simp only [List.set_cons_succ,List.count_cons]
  omega
theorem Q40 {l:List Bool} {c:Int} (h0:0≤c) (h1:c<l.length) (h:gB l c=true):(l.set c.toNat false).count true+1=l.count true:=by
 refine Q1S ?_
 unfold gB at h
 rw [List.getD_eq_getElem?_getD,List.getElem?_eq_getElem (by omega)] at h
 rw [List.getElem?_eq_getElem (by omega)]
 simpa using h
def okc (f:ApiFloor) (l:List Int) (c:Int):Prop:=isC f c=true∧kd f c≠0∧c∉l
def Pth (f:ApiFloor) (mv:Int→Int→Int×Bool) (src l:List Int):Nat→Int→Prop
 | 0,c=>c∈src∧okc f l c
 | k+1,c=>∃p d,Pth f mv src l k p∧0≤d∧d<6∧mv p d=(c,true)∧okc f l c
theorem Pth.ok {f:ApiFloor} {mv:Int→Int→Int×Bool} {src l:List Int}:∀{k:Nat} {c:Int},Pth f mv src l k c→okc f l c
 | 0,c,h=>h.2
 | k+1,c,⟨_,_,_,_,_,_,h⟩=>h
structure Bfs (f:ApiFloor) (mv:Int→Int→Int×Bool) (src l:List Int) (out queue:List Int) (opn:List Bool) (K:Nat):Prop where
 ol:out.length=f.Kind.length
 pl:opn.length=f.Kind.length
 op:∀c,isC f c=true→(gB opn c=true↔okc f l c∧gI out c=-1)
 pt:∀c,isC f c=true→gI out c=-1∨∃k:Nat,gI out c=k∧Pth f mv src l k c∧k+1≤K
 qu:∀q,q∈queue→isC f q=true∧0≤gI out q
 le:∀c q,isC f c=true→q∈queue→gI out c≤gI out q+1
 so:queue.Pairwise (fun p q=>gI out p≤gI out q)
 ct:K+opn.count true≤f.Kind.length
section
variable {f:ApiFloor} {mv:Int→Int→Int×Bool} {src l out queue:List Int} {opn:List Bool} {K:Nat}
theorem Bfs.put (hb:Bfs f mv src l out queue opn K) {c:Int} {k:Nat} (hc:gB opn c=true) (hcc:isC f c=true) (hP:okc f l c→Pth f mv src l k c) (hk:k≤K) (hle:∀q,q∈queue→gI out q≤k∧(k:Int)≤gI out q+1) (hall:∀q,isC f q=true→gI out q≤k+1):
  Bfs f mv src l (out.set c.toNat k) (queue++[c]) (opn.set c.toNat false) (K+1):=by
 have hc':=Xx.1 hcc
 have c0:=hc'.1
 have c1:c<out.length:=by rw [hb.ol];exact hc'.2
 have c2:c<opn.length:=by rw [hb.pl];exact hc'.2
 obtain⟨ho,hn1⟩:=(hb.op c hcc).1 hc
 have gq:∀q,q∈queue→gI (out.set c.toNat k) q=gI out q:=fun q hq=>by
  obtain⟨q1,q2⟩:=hb.qu q hq
  rw [Q09 c0 c1 (Xx.1 q1).1,if_neg]
  rintro rfl;omega
 refine⟨by simp [hb.ol],by simp [hb.pl],fun q hq=>?_,fun q hq=>?_,fun q hq=>?_,fun q r hq hr=>?_,?_,?_⟩
 ·have q0:=(Xx.1 hq).1
  rw [Q5E c0 c2 q0,Q09 c0 c1 q0]
  by_cases e:c=q
  ·rw [if_pos e,if_pos e];constructor
   ·intro h;cases h
   ·rintro⟨_,h⟩;omega
  ·rw [if_neg e,if_neg e];exact hb.op q hq
 ·have q0:=(Xx.1 hq).1
  rw [Q09 c0 c1 q0]
  by_cases e:c=q
  ·subst e;rw [if_pos rfl];exact .inr ⟨k,rfl,hP ho,by omega⟩
  ·rw [if_neg e]
   rcases hb.pt q hq with h | ⟨j,h1,h2,h3⟩
   ·exact .inl h
   ·exact .inr ⟨j,h1,h2,by omega⟩
 ·rcases List.mem_append.1 hq with hq | hq
  ·rw [gq q hq];exact hb.qu q hq
  ·simp at hq;subst hq
   rw [Q09 c0 c1 c0,if_pos rfl];exact⟨hcc,by omega⟩
 ·have q0:=(Xx.1 hq).1
  rw [Q09 c0 c1 q0]
  rcases List.mem_append.1 hr with hr | hr
  ·rw [gq r hr]
   split
   ·exact (hle r hr).2
   ·exact hb.le q r hq hr
  ·simp at hr;subst hr
   rw [Q09 c0 c1 c0,if_pos rfl]
   split
   ·omega
   ·exact hall q hq
 ·rw [List.pairwise_append]
  refine⟨?_,by simp,fun a ha b hb'=>?_⟩
  ·refine hb.so.imp_of_mem (fun {a b} ha hb' h=>?_)
   rw [gq a ha,gq b hb'];exact h
  ·simp at hb';subst hb'
   rw [gq a ha,Q09 c0 c1 c0,if_pos rfl];exact (hle a ha).1
 ·have:=Q40 c0 c2 hc
  have:=hb.ct
  omega
end
end Go.Taq
/- The mathematics, part BA: floor.Back, floor.Path. -/
set_option linter.unusedVariables false
set_option linter.unusedSimpArgs false
namespace Go.Taq
open Go
def opp (d:Int):Int:=if d=0 then 2 else if d=1 then 3 else if d=2 then 0 else if d=3 then 1 else if d=4 then 5 else if d=5 then 4 else -1
def bk (f:ApiFloor) (c d:Int):Int×Bool:=
 if nbr f c (opp d)<0 then (0,false) else if (nx f (nbr f c (opp d)) d).2=false then (0,false) else (nbr f c (opp d),true)
section
variable {f:ApiFloor}
def PB (f:ApiFloor) (b:Int) (l:List Int) (k:Nat) (c:Int):Prop:=Pth f (bk f) [b] l k c
def Dm (f:ApiFloor) (b:Int) (l:List Int) (m:Nat) (c:Int):Prop:=PB f b l m c∧∀i,PB f b l i c→m≤i
structure WayL (f:ApiFloor) (l:List Int) (a b:Int) (k:Nat) (p:List Int):Prop where
 len:p.length=k+1
 hd:p[0]?=some a
 lst:p[k]?=some b
 st:∀j,j<k→∃(x y d:Int),p[j]?=some x∧p[j+1]?=some y∧0≤d∧d<6∧nx f x d=(y,true)
 ok:∀x,x∈p→okc f l x
 pb:∀(j:Nat) x,p[j]?=some x→PB f b l (k-j) x
 kb:k<f.Kind.length
 ft:∀j,j<k→∃(x y d:Int),p[j]?=some x∧p[j+1]?=some y∧0≤d∧d<6∧nx f x d=(y,true)∧Dm f b l (k-(j+1)) y∧∀d',0≤d'→d'<d→¬((nx f x d').2=true∧Dm f b l (k-(j+1)) (nx f x d').1)
theorem PB.mono {b:Int} {l l':List Int} (h:∀x,x∈l'→x∈l):∀{k:Nat} {c:Int},PB f b l k c→PB f b l' k c
 | 0,c,⟨h1,h2,h3,h4⟩=>⟨h1,h2,h3,fun hm=>h4 (h _ hm)⟩
 | k+1,c,⟨p,d,h0,h1,h2,h3,h4,h5,h6⟩=>⟨p,d,PB.mono h h0,h1,h2,h3,h4,h5,fun hm=>h6 (h _ hm)⟩
theorem PB.congr {b:Int} {l l':List Int} (h:∀c,c∈l↔c∈l') {k:Nat} {c:Int}:PB f b l k c↔PB f b l' k c:=⟨fun g=>g.mono fun x hx=>(h x).2 hx,fun g=>g.mono fun x hx=>(h x).1 hx⟩
theorem Dm.congr {b:Int} {l l':List Int} (h:∀c,c∈l↔c∈l') {k:Nat} {c:Int}:Dm f b l k c↔Dm f b l' k c:=by
 unfold Dm;rw [PB.congr h]
 exact⟨fun g=>⟨g.1,fun i hi=>g.2 i ((PB.congr h).2 hi)⟩,fun g=>⟨g.1,fun i hi=>g.2 i ((PB.congr h).1 hi)⟩⟩
theorem WayL.uniq {a b:Int} {l l':List Int} {k:Nat} {p p':List Int} (h:WayL f l a b k p) (h':WayL f l' a b k p') (hm:∀c,c∈l↔c∈l'):p=p':=by
 have key:∀j,j≤k→p[j]?=p'[j]?:=by
  intro j
  induction j with
  | zero=>intro _;rw [h.hd,h'.hd]
  | succ j ih=>
   intro hj
   obtain⟨x,y,d,g1,g2,g3,g4,g5,g6,g7⟩:=h.ft j (by omega)
   obtain⟨x',y',d',q1,q2,q3,q4,q5,q6,q7⟩:=h'.ft j (by omega)
   have e:=ih (by omega)
   rw [g1,q1] at e
   cases e
   have hd:d=d':=by
    rcases Int.lt_trichotomy d d' with hlt | he | hlt
    ·exact absurd ⟨by rw [g5],by rw [g5];exact (Dm.congr hm).1 g6⟩ (q7 d g3 hlt)
    ·exact he
    ·exact absurd ⟨by rw [q5],by rw [q5];exact (Dm.congr hm).2 q6⟩ (g7 d' q3 hlt)
   subst hd
   rw [g5] at q5
   rw [g2,q2]
   exact congrArg some (congrArg Prod.fst q5)
 apply List.ext_getElem?
 intro j
 by_cases hj:j≤k
 ·exact key j hj
 ·rw [List.getElem?_eq_none (by rw [h.len];omega),List.getElem?_eq_none (by rw [h'.len];omega)]
end
end Go.Taq
