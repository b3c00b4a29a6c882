/- The mathematics, several parts in one text. -/
import Derived.Test.YtdcfcldpjfepiaaGreatMR
import Derived.Test.YtdcfcldpjfepiaaGreatLibZR
import Derived.Test.YtdcfcldpjfepiaaGreatMR0
/- The mathematics, part S: right sites, whole. -/
set_option linter.unusedVariables false
namespace Go.Taq
open Go
structure Q4D (s:ApiSite) (before:List Qy) (z:Qy):Prop where
 named:1≤z.Name.size∧z.Name.size≤20
 name:∀y,y∈before→seq y.Name z.Name=false
 ne:z.Cells≠[]
 sp:1≤z.Speed∧z.Speed≤100
 keep:0≤z.Keep
 spans:YD 0 z.Shut
 cell:∀c,c∈z.Cells→isC s.Floor c=true∧Q2N (kd s.Floor c)=true∧zAt before c=false
 asc:∀(i:Nat) x y,z.Cells[i]?=some x→z.Cells[i+1]?=some y→x<y
theorem Q7F {l:List Int} (h:∀(i:Nat) x y,l[i]?=some x→l[i+1]?=some y→x<y):Asc l:=by
 have key:∀(d i:Nat) x y,l[i]?=some x→l[i+d+1]?=some y→x<y:=by
  intro d
  induction d with
  | zero=>intro i x y hx hy;exact h i x y hx hy
  | succ d ih=>
   intro i x y hx hy
   have hlt:=(List.getElem?_eq_some_iff.1 hy).1
   have hz:l[i+d+1]?=some (l[i+d+1]'(by omega)):=List.getElem?_eq_getElem _
   exact Int.lt_trans (ih i x _ hx hz) (h (i+d+1) _ y hz (by rw [←hy];congr 1))
 intro i j x y hij hx hy
 exact key (j-i-1) i x y hx (by rw [←hy];congr 1;omega)
theorem Q4D.ascL {s:ApiSite} {b:List Qy} {z:Qy} (h:Q4D s b z):Asc z.Cells:=Q7F h.asc
def Q3e (s:ApiSite) (i:Nat) (d:Int):Prop:=∃x y,s.Shelves[i]?=some x∧0≤nbr s.Floor x.Cell d∧0≤shAt s.Shelves (nbr s.Floor x.Cell d)∧shAt s.Shelves (nbr s.Floor x.Cell d)<i∧idx s.Shelves (shAt s.Shelves (nbr s.Floor x.Cell d))=some y∧apB s.Aparts x.Class y.Class=true
structure Ws (s:ApiSite):Prop where
 fl:RF s.Floor
 z64:s.Zones.length≤64
 zone:∀(i:Nat) z,s.Zones[i]?=some z→Q4D s (s.Zones.take i) z
 sh3:s.Shelves.length≤3000
 r2:s.Robots.length≤200
 ap:∀(i:Nat) x,s.Aparts[i]?=some x→1≤x.A.size∧1≤x.B.size∧apB (s.Aparts.take i) x.A x.B=false
 sh:∀(i:Nat) x,s.Shelves[i]?=some x→isC s.Floor x.Cell=true∧Q1m (kd s.Floor x.Cell)=true∧shAt (s.Shelves.take i) x.Cell<0
 rb:∀(i:Nat) x,s.Robots[i]?=some x→isC s.Floor x.Cell=true∧0≤x.Charge∧x.Charge≤1000000∧kd s.Floor x.Cell≠0∧rbAt (s.Robots.take i) x.Cell=false
 room:∀z,z∈s.Zones→z.Keep≤(z.Cells.countP (Zu s):Nat)
 apart:∀(i:Nat) (d:Int),0≤d→d<4→¬Q3e s i d
 charger:s.Floor.Kind.contains 3=true
theorem Ws.zm {s:ApiSite} (h:Ws s) {z:Qy} (hz:z∈s.Zones):∃i:Nat,Q4D s (s.Zones.take i) z:=by
 obtain⟨i,hi⟩:=List.getElem?_of_mem hz
 exact⟨i,h.zone i z hi⟩
theorem Ws.rs {s:ApiSite} (h:Ws s):RS s where
 fl:=h.fl
 asc z hz:=(h.zm hz).elim fun _ q=>q.ascL
 zc z hz c hc:=(h.zm hz).elim fun _ q=>(q.cell c hc).1
 sp z hz:=(h.zm hz).elim fun _ q=>q.sp
theorem Q4j {f:ApiFloor} {n:Int} {post:Bool→Prop} (hF:post false) (hT:f.Kind.length≤n→f.Out.length≤n→post true):XC f n post:=by
 unfold XC
 refine Jn.mk' (Ite.mk (fun h1=>?_) (fun h1=>hF))
 simp at h1
 cases hb:decide ((f.Out.length:Int)≤n)
 ·exact hF
 ·exact hT h1 (by simpa using hb)
structure FewS (s:ApiSite) (cells most:Int):Prop where
 kind:s.Floor.Kind.length≤cells
 zones:s.Zones.length≤most
 aparts:s.Aparts.length≤most
 shelves:s.Shelves.length≤most
 robots:s.Robots.length≤most
 zone:∀z,z∈s.Zones→z.Cells.length≤cells∧z.Shut.length≤20
theorem Q4E {s:ApiSite} (k:OkApiSite s) {cells most:Int} (hm:0≤most∧most≤1000000) {post:Bool→Prop} (hF:post false) (hT:FewS s cells most→post true):XI s cells most post:=by
 unfold XI
 refine Q6Y s.Zones k.Zones.1 (T:=fun s3 q=>Jn (fun (J10:Bool→Prop)=>∃x11,idx s.Zones s3=some x11∧Ite (decide ((x11.Cells.length:Int)>cells)) (J10 true) (Ite (decide ((x11.Shut.length:Int)>20)) (J10 true) (J10 (decide ((x11.Name.size:Int)>40))))) q) (fun z=>z.Cells.length≤cells∧z.Shut.length≤20) (fun i x hx q q1 q2=>Jn.ex x hx (Jor3 ?_)) hF (fun hz=>?_)
 ·cases hb:(decide ((x.Cells.length:Int)>cells)||decide ((x.Shut.length:Int)>20)||decide ((x.Name.size:Int)>40))
  ·simp only [Bool.or_eq_false_iff,decide_eq_false_iff_not] at hb
   exact q2 ⟨by omega,by omega⟩
  ·exact q1
 refine Q6Y s.Aparts k.Aparts.1 (T:=fun s3 q=>Jn (fun (J10:Bool→Prop)=>∃x11,idx s.Aparts s3=some x11∧Ite (decide ((x11.A.size:Int)>40)) (J10 true) (J10 (decide ((x11.B.size:Int)>40)))) q) (fun z=>True) (fun i x hx q q1 q2=>Jn.ex x hx (Jor2 ?_)) hF (fun _=>?_)
 ·cases hb:(decide ((x.A.size:Int)>40)||decide ((x.B.size:Int)>40))
  ·exact q2 trivial
  ·exact q1
 refine Q6Y s.Shelves k.Shelves.1 (T:=fun s3 q=>∃x11,idx s.Shelves s3=some x11∧q (decide ((x11.Class.size:Int)>40))) (fun z=>True) (fun i x hx q q1 q2=>⟨x,hx,?_⟩) hF (fun _=>?_)
 ·cases hb:(decide ((x.Class.size:Int)>40))
  ·exact q2 trivial
  ·exact q1
 refine Jn.mk' (Q4j (Ite.f rfl hF) (fun f1 f2=>Ite.t rfl (Ite.mk (fun h1=>Ite.mk (fun h2=>Ite.mk (fun h3=>?_) (fun _=>hF)) (fun _=>hF)) (fun _=>hF))))
 simp at h1 h2 h3
 cases hb:decide ((s.Robots.length:Int)≤most)
 ·exact hF
 ·exact hT ⟨f1,h1,h2,h3,by simpa using hb,hz h1⟩
end Go.Taq
/- The mathematics, part QA: loops whose state has a counter and more; ranges over lists; lists of places. -/
set_option linter.unusedVariables false
set_option linter.unusedSimpArgs false
namespace Go.Taq
open Go
theorem Kh {α τ:Type} {xs:List α} (hm:xs.length≤maxLen) (ix:τ→Int) (I:Nat→τ→Prop) {t0:τ} (hi0:ix t0=0) (h0:I 0 t0) {R:α→τ→(τ→Prop)→Prop} {E:τ→Prop}
  (hs:∀(i:Nat) x t,xs[i]?=some x→ix t=(i:Int)→I i t→R x t (fun t'=>ix t'=w64 ((i:Int)+1)∧I (i+1) t'))
  (he:∀t,I xs.length t→E t):
  Loop (fun t Y=>Ite (decide (ix t<(xs.length:Int))) (∃x,idx xs (ix t)=some x∧R x t Y) (E t)) t0:=by
 refine Loop.inv xs.length (fun i t=>ix t=(i:Int)∧I i t) ⟨by simpa using hi0,h0⟩ (fun i t hi h=>?_) (fun t h=>?_)
 ·have hx:xs[i]?=some (xs[i]'hi):=List.getElem?_eq_getElem hi
  refine Ite.lt (by omega) ⟨_,by rw [h.1];exact Qq rfl hx,?_⟩
  have:=hs i _ t hx h.1 h.2
  rw [Yt hi hm] at this;exact this
 ·exact Ite.nlt (by omega) (he t h.2)
theorem Wh {α τ:Type} {xs:List α} (hm:xs.length≤maxLen) (ix:τ→Int) (I:Nat→τ→Prop) {t0:τ} (hi0:ix t0=0) (h0:I 0 t0) {R:τ→(τ→Prop)→Prop} {E:τ→Prop}
  (hs:∀(i:Nat) x t,xs[i]?=some x→ix t=(i:Int)→I i t→R t (fun t'=>ix t'=w64 ((i:Int)+1)∧I (i+1) t'))
  (he:∀t,I xs.length t→E t):
  Loop (fun t Y=>Ite (decide (ix t<(xs.length:Int))) (R t Y) (E t)) t0:=by
 refine Loop.inv xs.length (fun i t=>ix t=(i:Int)∧I i t) ⟨by simpa using hi0,h0⟩ (fun i t hi h=>?_) (fun t h=>?_)
 ·have hx:xs[i]?=some (xs[i]'hi):=List.getElem?_eq_getElem hi
  refine Ite.lt (by omega) ?_
  have:=hs i _ t hx h.1 h.2
  rw [Yt hi hm] at this;exact this
 ·exact Ite.nlt (by omega) (he t h.2)
theorem Each.inv {α σ:Type} {body:α→σ→(σ→Prop)→Prop} {k:σ→Prop}:∀(ys:List α) (I:Nat→σ→Prop) {s0:σ},I 0 s0→(∀(i:Nat) x s,ys[i]?=some x→I i s→∀Y:σ→Prop,(∀s',I (i+1) s'→Y s')→body x s Y)→(∀s,I ys.length s→k s)→Each body k ys s0
 | [],I,s0,h0,_,he=>he _ h0
 | y :: ys,I,s0,h0,hs,he=>hs 0 y s0 rfl h0 _ fun s' h'=>Each.inv ys (fun i=>I (i+1)) h' (fun i x s hx hI Y hY=>hs (i+1) x s (by simpa using hx) hI Y hY) (fun s h=>he s h)
theorem Q24 {τ:Type} (n:Nat) (ix:τ→Int) (I:Nat→τ→Prop) {t0:τ} (hn:n≤maxLen) (hi0:ix t0=0) (h0:I 0 t0) {R:τ→(τ→Prop)→Prop} {E:τ→Prop}
  (hs:∀(i:Nat) t,i<n→ix t=(i:Int)→I i t→R t (fun t'=>ix t'=w64 ((i:Int)+1)∧I (i+1) t'))
  (he:∀t,I n t→E t):
  Loop (fun t Y=>Ite (decide (ix t<(n:Int))) (R t Y) (E t)) t0:=by
 refine Loop.inv n (fun i t=>ix t=(i:Int)∧I i t) ⟨by simpa using hi0,h0⟩ (fun i t hi h=>?_) (fun t h=>?_)
 ·refine Ite.lt (by omega) ?_
  have:=hs i t hi h.1 h.2
  rw [Yt hi hn] at this;exact this
 ·exact Ite.nlt (by omega) (he t h.2)
def fnat (p:Nat→Bool) (n:Nat):Int:=match (List.range n).find? p with | some i=>i | none=>-1
theorem Q45 {p:Nat→Bool} {n i:Nat} (hi:i<n) (hp:p i=true) (hb:∀j,j<i→p j=false):fnat p n=i:=by
 unfold fnat
 have:(List.range n).find? p=some i:=by
  rw [List.find?_eq_some_iff_getElem]
  refine⟨hp,i,by simpa using hi,by simp,fun j hj=>?_⟩
  simp [hb j hj]
 rw [this]
theorem Q27 {p:Nat→Bool} {n:Nat} (h:∀i,i<n→p i=false):fnat p n=-1:=by
 unfold fnat
 have:(List.range n).find? p=none:=by
  rw [List.find?_eq_none]
  intro x hx;simp at hx;simp [h x hx]
 rw [this]
theorem Q5j (p:Nat→Bool) (n:Nat):(∃i:Nat,i<n∧fnat p n=i∧p i=true∧∀j,j<i→p j=false)∨(fnat p n=-1∧∀i,i<n→p i=false):=by
 cases h:(List.range n).find? p with
 | none=>
  refine .inr ?_
  have h':∀i,i<n→p i=false:=fun i hi=>by
   have:=List.find?_eq_none.1 h i (by simpa using hi);simpa using this
  exact⟨Q27 h',h'⟩
 | some i=>
  refine .inl ⟨i,?_⟩
  have hp:p i=true:=List.find?_some h
  have hlt:i<n:=by have:=List.mem_of_find?_eq_some h;simpa using this
  have hb':∀j,j<i→p j=false:=by
   rw [List.find?_eq_some_iff_getElem] at h
   obtain⟨_,k,hk,hki,hall⟩:=h
   simp at hki;subst hki
   intro j hj;have:=hall j hj;simpa using this
  exact⟨hlt,Q45 hlt hp hb',hp,hb'⟩
theorem Xz {α:Type} (p:α→Bool) (xs:List α):(∃(i:Nat) (x:α),xs[i]?=some x∧fidx p xs=i∧p x=true∧∀(j:Nat) (y:α),j<i→xs[j]?=some y→p y=false)∨(fidx p xs=-1∧∀x,x∈xs→p x=false):=by
 unfold fidx
 cases h:xs.findIdx? p with
 | none=>
  refine .inr ⟨rfl,fun x hx=>?_⟩
  rw [List.findIdx?_eq_none_iff] at h;exact h x hx
 | some i=>
  obtain⟨hlt,hp,hb⟩:=List.findIdx?_eq_some_iff_getElem.1 h
  refine .inl ⟨i,xs[i],List.getElem?_eq_getElem hlt,rfl,hp,fun j y hj hy=>?_⟩
  have:=hb j hj
  have hyj:=(List.getElem?_eq_some_iff.1 hy).2
  rw [←hyj];simpa using this
theorem QI {α:Type} {xs:List α} {i:Nat} {x:α} (h:xs[i]?=some x):xs.take (i+1)=xs.take i++[x]:=by
 rw [List.take_add_one,h];rfl
end Go.Taq
/- The mathematics, part NA: right floors and right sites, as the program sees them (floor.Right, survey.Right). -/
set_option linter.unusedVariables false
namespace Go.Taq
open Go
theorem Q75 {x y k:Int}:imax x y>k↔x>k∨y>k:=by unfold imax;split <;> omega
theorem Q32 {f:ApiFloor} {post:Bool→Prop} (hF:post false) (hT:RF f→post true):W6 f post:=by
 unfold W6
 refine Jor3 (Ite.mk (fun _=>hF) (fun h1=>?_))
 simp only [Bool.or_eq_false_iff,decide_eq_false_iff_not,Q4G,Q75] at h1
 obtain⟨⟨a1,a2⟩,a3⟩:=h1
 have e:=Q4t (f:=f) (by omega) (by omega) (by omega) (by omega) (by omega) (by omega)
 unfold Ga
 rw [e.1]
 refine Jor3 (Ite.mk (fun _=>hF) (fun h2=>?_))
 simp only [Bool.or_eq_false_iff,decide_eq_false_iff_not,bne_eq_false_iff_eq] at h2
 obtain⟨⟨b1,b2⟩,b3⟩:=h2
 have hl:f.Kind.length≤maxLen:=by unfold maxLen;omega
 refine Jn.mk (fun _=>∀(i:Nat) x y,f.Kind[i]?=some x→f.Out[i]?=some y→0≤x∧x<7∧0≤y∧y≤63)
  (Kh hl (fun s=>s) (fun n _=>∀(i:Nat) x y,i<n→f.Kind[i]?=some x→f.Out[i]?=some y→0≤x∧x<7∧0≤y∧y≤63) rfl (fun i x y h=>by omega) (fun n x t hx ht hall=>?_) (fun t h i x y hx hy=>h i x y (List.getElem?_eq_some_iff.1 hx).1 hx hy)) (fun _ h=>hT ?_)
 ·have hn:=(List.getElem?_eq_some_iff.1 hx).1
  have ho:f.Out[n]?=some (f.Out[n]'(by omega)):=List.getElem?_eq_getElem _
  refine Jn.eq (decide (x<0)||decide (x≥7)||decide (f.Out[n]'(by omega)<0)||decide (f.Out[n]'(by omega)>63)) ?_ ?_
  ·refine Ite.mk (fun h=>by rw [h];rfl) (fun h=>Ite.mk (fun h'=>by rw [h,h'];rfl) (fun h'=>⟨_,by rw [ht];exact Qq rfl ho,Ite.mk (fun h''=>by rw [h,h',h''];rfl) (fun h''=>by rw [h,h',h''];rfl)⟩))
  ·refine Ite.mk (fun _=>hF) (fun h3=>⟨by rw [ht],fun i x' y' hi hx' hy'=>?_⟩)
   simp only [Bool.or_eq_false_iff,decide_eq_false_iff_not] at h3
   by_cases e:i=n
   ·subst e;rw [hx] at hx';rw [ho] at hy';cases hx';cases hy';omega
   ·exact hall i x' y' (by omega) hx' hy'
 ·exact⟨by omega,by omega,by omega,by omega,by omega,by omega,by omega,by omega,by omega,h⟩
def Q57 (x:ByteArray):Bool:=decide ((x.size:Int)<1)||decide ((x.size:Int)>20)||(decide (((x.data.toList.headD 0).toNat:Int)≥48)&&decide (((x.data.toList.headD 0).toNat:Int)≤57))
def Q7B:ByteArray:=ByteArray.mk #[97,98,99,100,101,102,103,104,105,106,107,108,109,110,111,112,113,114,115,116,117,118,119,120,121,122,65,66,67,68,69,70,71,72,73,74,75,76,77,78,79,80,81,82,83,84,85,86,87,88,89,90,48,49,50,51,52,53,54,55,56,57,95,45]
def nmB (x:ByteArray):Bool:=!Q57 x&&!(x.data.toList.any fun c=>decide (Q1X Q7B (c.toNat:Int)<0))
theorem Q6L {x:ByteArray} (h:nmB x=true):1≤x.size∧x.size≤20:=by
 unfold nmB Q57 at h
 simp only [Bool.and_eq_true,Bool.not_eq_true',Bool.or_eq_false_iff,decide_eq_false_iff_not] at h
 omega
theorem ZZ {x:ByteArray} {post:Bool→Prop} (hx:OkS x) (hp:post (nmB x)):KR x post:=by
 unfold KR
 have hl:x.data.toList.length=x.size:=Array.length_toList
 have hm:x.data.toList.length≤maxLen:=by rw [hl];exact hx
 refine Jn.eq (Q57 x) (Ite.mk (fun h1=>?_) (fun h1=>Ite.mk (fun h2=>?_) (fun h2=>?_))) (Ite.mk (fun h=>?_) (fun h=>?_))
 ·unfold Q57;rw [h1];rfl
 ·unfold Q57;rw [h1,h2];rfl
 ·have hx0:x.data.toList[0]?=some (x.data.toList[0]'(by simp at h1;omega)):=List.getElem?_eq_getElem _
  have hh:x.data.toList.headD 0=x.data.toList[0]'(by simp at h1;omega):=by rw [List.headD_eq_head?_getD,List.head?_eq_getElem?,hx0];rfl
  unfold Q57;rw [h1,h2,hh]
  exact⟨_,Qq rfl hx0,Ite.mk (fun h3=>by rw [h3];rfl) (fun h3=>by rw [h3];rfl)⟩
 ·unfold nmB at hp;rw [h] at hp;exact hp
 ·unfold nmB at hp;rw [h] at hp
  rw [show ((x.size:Nat):Int)=((x.data.toList.length:Nat):Int) by rw [hl]]
  exact Q7j hm (p:=fun c:UInt8=>decide (Q1X Q7B (c.toNat:Int)<0)) (post:=fun b=>post (!b)) (by simpa using hp)
theorem YQ {x:ByteArray} {post:Bool→Prop} (hx:OkS x) (hF:post false) (hT:1≤x.size→x.size≤20→nmB x=true→post true):KR x post:=ZZ hx (by
 cases h:nmB x with
 | false=>exact hF
 | true=>exact hT (Q6L h).1 (Q6L h).2 h)
theorem Zb {n a b:Int} {post:Bool→Prop} (hp:post (decide (a≤n)&&decide (n≤b))):XG n a b post:=by
 unfold XG
 exact YS hp
theorem Q2x {k:Int} {post:Bool→Prop} (hp:post (Q2N k)):Gy k post:=by
 unfold Gy
 exact Q9m hp
theorem Z8 {k:Int} {post:Bool→Prop} (hp:post (Q1m k)):XD k post:=by
 unfold XD
 exact Jor2 hp
theorem GU {m:SurveyMaker} {c:Int} {post:Int×Bool→Prop} (hp:post (if isC m.site.Floor c=true then (kd m.site.Floor c,true) else (0,false))):QN m c post:=by
 unfold QN
 refine Jor2 (Ite.mk (fun h=>?_) (fun h=>?_))
 ·have:isC m.site.Floor c=false:=by rw [Q3m];simp at h;omega
  rw [if_neg (by simp [this])] at hp;exact hp
 ·have:isC m.site.Floor c=true:=by rw [QU];simp at h;omega
  rw [if_pos this] at hp
  exact⟨_,GN this,hp⟩
theorem Q3f {l:List Gg} (hm:l.length≤maxLen) {post:Bool→Prop} (hF:post false) (hT:YD 0 l→post true):W7 l post:=by
 unfold W7
 refine Jn.mk (fun _=>YD 0 l) (Kh hm (fun s:Int×Int=>s.2) (fun n (s:Int×Int)=>YD s.1 (l.drop n)→YD 0 l) rfl (fun h=>h) (fun n x t hx ht hI=>?_) (fun t h=>h (by rw [List.drop_length];trivial))) (fun _ h=>hT h)
 have hd:l.drop n=x :: l.drop (n+1):=by
  obtain⟨hlt,he⟩:=List.getElem?_eq_some_iff.1 hx
  rw [List.drop_eq_getElem_cons hlt,he]
 refine Jor3 (Ite.mk (fun _=>hF) (fun h=>⟨by rw [ht],fun h'=>hI ?_⟩))
 simp only [Bool.or_eq_false_iff,decide_eq_false_iff_not] at h
 rw [hd]
 exact⟨by omega,by omega,by omega,h'⟩
theorem Q2o {m:SurveyMaker} {l:List Int} (hm:l.length≤maxLen) {post:Bool→Prop} (hF:post false)
  (hT:l≠[]→(∀c,c∈l→isC m.site.Floor c=true)→(∀(i:Nat) x y,l[i]?=some x→l[i+1]?=some y→x<y)→post true):KH m l post:=by
 unfold KH
 refine Jn.mk (fun _=>(∀c,c∈l→isC m.site.Floor c=true)∧∀(i:Nat) x y,l[i]?=some x→l[i+1]?=some y→x<y)
  (Kh hm (fun s=>s) (fun n _=>(∀(i:Nat) c,i<n→l[i]?=some c→isC m.site.Floor c=true)∧∀(i:Nat) x y,i+1<n→l[i]?=some x→l[i+1]?=some y→x<y) rfl ⟨fun i c h=>by omega,fun i x y h=>by omega⟩ (fun n c t hc ht hI=>?_) (fun t h=>?_)) (fun _ h=>?_)
 ·refine GU ?_
  refine Jn.mk (fun b=>b=false→isC m.site.Floor c=true∧∀x,0<n→l[n-1]?=some x→x<c) ?_ (fun b hb=>Ite.mk (fun _=>hF) (fun hb'=>⟨by rw [ht],?_,?_⟩))
  ·by_cases hcc:isC m.site.Floor c=true
   ·rw [if_pos hcc]
    refine Ite.t rfl (Ite.mk (fun h=>?_) (fun h=>fun _=>⟨hcc,fun x h0=>?_⟩))
    ·simp at h
     have hn:=(List.getElem?_eq_some_iff.1 hc).1
     have hx:l[n-1]?=some (l[n-1]'(by omega)):=List.getElem?_eq_getElem _
     refine⟨l[n-1]'(by omega),?_,fun h'=>⟨hcc,fun x h0 hx'=>?_⟩⟩
     ·have e1:w64 (t-1)=((n-1:Nat):Int):=by rw [ht,Qx (by omega) (by unfold maxLen at hm;omega)];omega
      rw [e1];exact Qq rfl hx
     ·rw [hx] at hx';cases hx';simp at h';exact h'
    ·simp at h;omega
   ·rw [if_neg hcc];exact Ite.f rfl (fun h=>by cases h)
  ·intro i x hi hx
   by_cases e:i=n
   ·subst e;rw [hc] at hx;cases hx;exact (hb hb').1
   ·exact hI.1 i x (by omega) hx
  ·intro i x y hi hx hy
   by_cases e:i+1=n
   ·subst e;rw [hc] at hy;cases hy;exact (hb hb').2 x (by omega) (by simpa using hx)
   ·exact hI.2 i x y (by omega) hx hy
 ·refine⟨fun c hc=>?_,fun i x y hx hy=>h.2 i x y (List.getElem?_eq_some_iff.1 hy).1 hx hy⟩
  obtain⟨i,hi⟩:=List.getElem?_of_mem hc
  exact h.1 i c (List.getElem?_eq_some_iff.1 hi).1 hi
 ·cases l with
  | nil=>simpa using hF
  | cons a r=>exact hT (by simp) h.1 h.2 |> fun h=>by simpa using h
structure MInv (s:ApiSite) (nz na ns nr:Nat) (m:SurveyMaker):Prop where
 fl:m.site.Floor=s.Floor
 zs:m.site.Zones=s.Zones.take nz
 aps:m.site.Aparts=s.Aparts.take na
 sh:m.site.Shelves=s.Shelves.take ns
 rs:m.site.Robots=s.Robots.take nr
 names:∀n,(lk m.names n).isSome=(s.Zones.take nz).any fun z=>seq z.Name n
 zoned:∀c,(lk m.zoned c).getD false=zAt (s.Zones.take nz) c
 shelf:∀c,lk m.shelf c=if 0≤shAt (s.Shelves.take ns) c then some (shAt (s.Shelves.take ns) c) else none
 robot:∀c,(lk m.robot c).getD false=rbAt (s.Robots.take nr) c
theorem Q6N (l:List Qy) (z:Qy) (c:Int):zAt (l++[z]) c=(zAt l c||z.Cells.contains c):=by simp [zAt]
theorem Q1w {s:ApiSite} (k:OkApiSite s) {n:Nat} {m:SurveyMaker} (hI:MInv s n 0 0 0 m) {z:Qy} (hz:s.Zones[n]?=some z) {post:Int×SurveyMaker→Prop} (hE:∀e,e≠0→post (e,m))
  (hT:n<64→(∀y,y∈s.Zones.take n→seq y.Name z.Name=false)→(∀c,c∈z.Cells→isC s.Floor c=true∧Q2N (kd s.Floor c)=true∧zAt (s.Zones.take n) c=false)→∀m',MInv s (n+1) 0 0 0 m'→post (0,m')):
  K3 z m post:=by
 have kz:=k.Zones.2 z (List.mem_of_getElem? hz)
 have hn:=(List.getElem?_eq_some_iff.1 hz).1
 unfold K3
 refine Ite.mk (fun _=>hE 5 (by decide)) (fun h1=>Ite.mk (fun _=>hE 6 (by decide)) (fun h2=>?_))
 rw [hI.names] at h1
 have hlen:m.site.Zones.length=n:=by rw [hI.zs];simp;omega
 rw [hlen] at h2
 simp at h2
 refine Jn.mk (fun _=>∀c,c∈z.Cells→isC s.Floor c=true∧Q2N (kd s.Floor c)=true∧zAt (s.Zones.take n) c=false)
  (Kh kz.Cells.1 (fun t=>t) (fun i _=>∀(j:Nat) c,j<i→z.Cells[j]?=some c→isC s.Floor c=true∧Q2N (kd s.Floor c)=true∧zAt (s.Zones.take n) c=false) rfl (fun j c h=>by omega) (fun i c t hc ht hall=>?_) (fun t h c hc=>?_)) (fun _ hall=>?_)
 ·refine GU ?_
  rw [hI.fl]
  refine Jn.mk (fun b=>b=false→isC s.Floor c=true∧Q2N (kd s.Floor c)=true∧zAt (s.Zones.take n) c=false) (Q2x ?_) (fun b hb=>Ite.mk (fun _=>hE 13 (by decide)) (fun hb'=>⟨by rw [ht],fun j c' hj hc'=>?_⟩))
  ·by_cases hcc:isC s.Floor c=true
   ·rw [if_pos hcc]
    refine Ite.mk (fun h=>?_) (fun _ h=>by cases h)
    rw [hI.zoned]
    exact fun h'=>⟨hcc,h,h'⟩
   ·rw [if_neg hcc]
    exact Ite.f (by decide) (fun h=>by cases h)
  ·by_cases e:j=i
   ·subst e;rw [hc] at hc';cases hc';exact hb hb'
   ·exact hall j c' (by omega) hc'
 ·obtain⟨j,hj⟩:=List.getElem?_of_mem hc
  exact h j c (List.getElem?_eq_some_iff.1 hj).1 hj
 ·refine Jn.mk (fun zm=>∀c,(lk zm c).getD false=(zAt (s.Zones.take n) c||z.Cells.contains c))
   (Kh kz.Cells.1 (fun t:List (Int×Bool)×Int=>t.2) (fun i t=>∀c,(lk t.1 c).getD false=(zAt (s.Zones.take n) c||(z.Cells.take i).contains c)) rfl (fun c=>by simp [hI.zoned]) (fun i x t hx ht h=>⟨by rw [ht],fun c=>?_⟩) (fun t h c=>by have:=h c;rwa [List.take_length] at this)) (fun zm hzm=>⟨by rw [hlen];simp;omega,?_⟩)
  ·rw [WV,QI hx]
   by_cases e:x=c
   ·subst e;simp
   ·rw [if_neg e,h c]
    simp [show ¬c=x from fun h=>e h.symm]
  ·refine hT (by omega) (fun y hy=>?_) hall _ ⟨hI.fl,?_,hI.aps,hI.sh,hI.rs,fun nm=>?_,fun c=>?_,hI.shelf,hI.robot⟩
   ·exact Bool.eq_false_iff.2 (List.any_eq_false.1 h1 y hy)
   ·show m.site.Zones++[z]=_;rw [hI.zs,QI hz]
   ·show (lk (upd m.names z.Name _) nm).isSome=_
    rw [WV,QI hz,List.any_append]
    by_cases e:z.Name=nm
    ·rw [if_pos e];simp [Q1q.2 e]
    ·rw [if_neg e,hI.names]
     have:seq z.Name nm=false:=by rw [Bool.eq_false_iff];exact fun h=>e (Q1q.1 h)
     simp [this]
   ·show (lk zm c).getD false=_
    rw [hzm c,QI hz,Q6N]
theorem Q5I {α:Type} (l:List α) (p q:α→Bool):(l.any fun x=>p x||q x)=(l.any p||l.any q):=by
 induction l with
 | nil=>rfl
 | cons x l ih=>simp only [List.any_cons,ih];cases p x <;> cases q x <;> simp
theorem YW {l:List Q8} (hm:l.length≤maxLen) {v:Q8} {post:Bool→Prop} (hp:post (l.any fun x=>seq x.A v.A&&seq x.B v.B)):Qr l v post:=by
 unfold Qr QQ
 have e:(fun x:Q8=>seq v.A x.A&&(seq v.B x.B&&true))=fun x=>seq x.A v.A&&seq x.B v.B:=by
  funext x
  have c:∀a b,seq a b=seq b a:=fun a b=>by rw [Bool.eq_iff_iff,Q1q,Q1q];exact eq_comm
  rw [Bool.and_true,c v.A,c v.B]
 refine Q7T hm (p:=fun x:Q8=>seq v.A x.A&&(seq v.B x.B&&true)) ?_
 rw [Q0p,e];exact hp
theorem Q02 {l:List Q8} (hm:l.length≤maxLen) {a b:ByteArray} {post:Bool→Prop} (hp:post (apB l a b)):XZ l a b post:=by
 unfold XZ
 refine Jor2 (Ite.mk (fun h=>?_) (fun h=>?_))
 ·have:apB l a b=false:=by
   unfold apB nosh
   cases h1:seq a ByteArray.empty <;> simp_all
  rw [this] at hp;exact hp
 ·have e:apB l a b=((l.any fun x=>seq x.A a&&seq x.B b)||(l.any fun x=>seq x.A b&&seq x.B a)):=by
   simp only [Bool.or_eq_false_iff] at h
   have h1:nosh a=false:=h.1
   have h2:nosh b=false:=h.2
   unfold apB
   rw [h1,h2]
   simp only [Bool.not_false,Bool.true_and]
   exact Q5I l _ _
  refine Jn.mk' (YW hm (Ite.mk (fun h1=>?_) (fun h1=>YW hm ?_)))
  ·rw [e,h1] at hp;exact hp
  ·rw [e,h1] at hp;exact hp
theorem Q1f {s:ApiSite} (k:OkApiSite s) (hf:s.Aparts.length≤1000000) {nz n:Nat} {m:SurveyMaker} (hI:MInv s nz n 0 0 m) {x:Q8} (hx:s.Aparts[n]?=some x) {post:Int×SurveyMaker→Prop} (hE:∀e,e≠0→post (e,m))
  (hT:1≤x.A.size∧1≤x.B.size∧apB (s.Aparts.take n) x.A x.B=false→nmB x.A=true∧nmB x.B=true→∀m',MInv s nz (n+1) 0 0 m'→post (0,m')):K0 x m post:=by
 have kx:=k.Aparts.2 x (List.mem_of_getElem? hx)
 have hn:=(List.getElem?_eq_some_iff.1 hx).1
 have hm:(s.Aparts.take n).length≤maxLen:=Nat.le_trans (by simp;omega) k.Aparts.1
 unfold K0
 refine Jn.mk (fun b=>b=false→(1≤x.A.size∧1≤x.B.size)∧nmB x.A=true∧nmB x.B=true) (YQ kx.A (Ite.f rfl (fun h=>by cases h)) (fun a1 a2 a3=>Ite.t rfl (YQ kx.B (fun h=>by cases h) (fun b1 b2 b3 _=>⟨⟨a1,b1⟩,a3,b3⟩)))) (fun b hb=>Ite.mk (fun _=>hE 12 (by decide)) (fun hb'=>?_))
 obtain⟨⟨a1,b1⟩,hnm⟩:=hb hb'
 rw [hI.aps]
 refine Q02 hm (Ite.mk (fun _=>hE 5 (by decide)) (fun h=>⟨by simp;omega,hT ⟨a1,b1,h⟩ hnm _ ⟨hI.fl,hI.zs,?_,hI.sh,hI.rs,hI.names,hI.zoned,hI.shelf,hI.robot⟩⟩))
 show s.Aparts.take n++[x]=_;rw [QI hx]
theorem Q6n (l:List QD) (x:QD) (c:Int):shAt (l++[x]) c=if 0≤shAt l c then shAt l c else if x.Cell=c then l.length else -1:=by
 unfold shAt
 rcases Xz (fun y:QD=>y.Cell == c) l with ⟨i,y,hy,e,hp,hb⟩ | ⟨e,hb⟩
 ·rw [e,if_pos (by omega)]
  have hlt:=(List.getElem?_eq_some_iff.1 hy).1
  rcases Xz (fun y:QD=>y.Cell == c) (l++[x]) with ⟨i',y',hy',e',hp',hb'⟩ | ⟨e',hb'⟩
  ·rw [e']
   have h1:¬i<i':=fun h=>by
    have:=hb' i y h (by rw [List.getElem?_append_left hlt];exact hy);rw [hp] at this;cases this
   have h2:¬i'<i:=fun h=>by
    have:=hb i' y' h (by rw [List.getElem?_append_left (by omega)] at hy';exact hy');rw [hp'] at this;cases this
   omega
  ·have:=hb' y (List.mem_append_left _ (List.mem_of_getElem? hy));rw [hp] at this;cases this
 ·rw [e,if_neg (by omega)]
  by_cases hc:x.Cell=c
  ·rw [if_pos hc]
   rcases Xz (fun y:QD=>y.Cell == c) (l++[x]) with ⟨i',y',hy',e',hp',hb'⟩ | ⟨e',hb'⟩
   ·rw [e']
    have:i'=l.length:=by
     rcases Nat.lt_or_ge i' l.length with h | h
     ·rw [List.getElem?_append_left h] at hy'
      have:=hb y' (List.mem_of_getElem? hy');rw [hp'] at this;cases this
     ·have:=(List.getElem?_eq_some_iff.1 hy').1;simp at this;omega
    rw [this]
   ·have:=hb' x (by simp);simp [hc] at this
  ·rw [if_neg hc]
   rcases Xz (fun y:QD=>y.Cell == c) (l++[x]) with ⟨i',y',hy',e',hp',hb'⟩ | ⟨e',hb'⟩
   ·rcases List.mem_append.1 (List.mem_of_getElem? hy') with h | h
    ·have:=hb y' h;rw [hp'] at this;cases this
    ·simp at h;subst h;simp [hc] at hp'
   ·exact e'
theorem Q0V {s:ApiSite} (k:OkApiSite s) (hs:s.Shelves.length≤1000000) {nz na n:Nat} {m:SurveyMaker} (hI:MInv s nz na n 0 m) {x:QD} (hx:s.Shelves[n]?=some x) {post:Int×SurveyMaker→Prop} (hE:∀e,e≠0→post (e,m))
  (hT:n<3000→isC s.Floor x.Cell=true∧Q1m (kd s.Floor x.Cell)=true∧shAt (s.Shelves.take n) x.Cell<0→(seq x.Class ByteArray.empty||nmB x.Class)=true→∀m',MInv s nz na (n+1) 0 m'→post (0,m')):QY x m post:=by
 have kx:=k.Shelves.2 x (List.mem_of_getElem? hx)
 have hn:=(List.getElem?_eq_some_iff.1 hx).1
 have hlen:m.site.Shelves.length=n:=by rw [hI.sh];simp;omega
 unfold QY
 refine Jn.mk (fun b=>b=!(seq x.Class ByteArray.empty||nmB x.Class)) (Ite.mk (fun h=>by rw [h];rfl) (fun h=>ZZ kx.Class (by rw [h];rfl))) (fun b hb=>Ite.mk (fun _=>hE 12 (by decide)) (fun hb'=>GU ?_))
 have hnm:(seq x.Class ByteArray.empty||nmB x.Class)=true:=by rw [hb'] at hb;have:=hb.symm;rwa [Bool.not_eq_false'] at this
 rw [hI.fl]
 by_cases hc:isC s.Floor x.Cell=true
 ·rw [if_pos hc]
  refine Ite.f rfl (Z8 (Ite.mk (fun _=>hE 13 (by decide)) (fun h1=>Ite.mk (fun _=>hE 5 (by decide)) (fun h2=>Ite.mk (fun _=>hE 6 (by decide)) (fun h3=>?_)))))
  rw [hlen] at h3 ⊢
  rw [hI.shelf] at h2
  have h2':shAt (s.Shelves.take n) x.Cell<0:=by
   by_cases h:0≤shAt (s.Shelves.take n) x.Cell
   ·rw [if_pos h] at h2;cases h2
   ·omega
  simp at h1 h3
  refine⟨by simp;omega,hT (by omega) ⟨hc,h1,h2'⟩ hnm _ ⟨rfl,hI.zs,hI.aps,?_,hI.rs,hI.names,hI.zoned,fun c=>?_,hI.robot⟩⟩
  ·show m.site.Shelves++[x]=_;rw [hI.sh,QI hx]
  ·show lk (upd m.shelf x.Cell (n:Int)) c=_
   rw [WV,QI hx,Q6n]
   have hl:(s.Shelves.take n).length=n:=by simp;omega
   by_cases e:x.Cell=c
   ·subst e
    have e0:¬0≤shAt (s.Shelves.take n) x.Cell:=by omega
    simp only [if_neg e0,if_true,hl]
    rw [if_pos (by omega)]
   ·rw [if_neg e,if_neg e,hI.shelf c]
    by_cases h:0≤shAt (s.Shelves.take n) c
    ·rw [if_pos h,if_pos h,if_pos h]
    ·rw [if_neg h,if_neg h,if_neg (by omega)]
 ·rw [if_neg hc];exact Ite.t rfl (hE 3 (by decide))
theorem Q6z (l:List QL) (x:QL) (c:Int):rbAt (l++[x]) c=(rbAt l c||x.Cell == c):=by simp [rbAt]
theorem Q1b {s:ApiSite} (k:OkApiSite s) (hs:s.Robots.length≤1000000) {nz na ns n:Nat} {m:SurveyMaker} (hI:MInv s nz na ns n m) {x:QL} (hx:s.Robots[n]?=some x) {post:Int×SurveyMaker→Prop} (hE:∀e,e≠0→post (e,m))
  (hT:n<200→isC s.Floor x.Cell=true∧0≤x.Charge∧x.Charge≤1000000∧kd s.Floor x.Cell≠0∧rbAt (s.Robots.take n) x.Cell=false→∀m',MInv s nz na ns (n+1) m'→post (0,m')):QZ x m post:=by
 have hn:=(List.getElem?_eq_some_iff.1 hx).1
 have hlen:m.site.Robots.length=n:=by rw [hI.rs];simp;omega
 unfold QZ
 refine GU ?_
 rw [hI.fl]
 by_cases hc:isC s.Floor x.Cell=true
 ·rw [if_pos hc]
  refine Jn.mk (fun b=>b=false→0≤x.Charge∧x.Charge≤1000000) (Ite.t rfl (Zb (fun h=>by simp at h;omega))) (fun b hb=>Ite.mk (fun _=>hE 3 (by decide)) (fun hb'=>Ite.mk (fun _=>hE 13 (by decide)) (fun h1=>Ite.mk (fun _=>hE 5 (by decide)) (fun h2=>Ite.mk (fun _=>hE 6 (by decide)) (fun h3=>?_)))))
  rw [hlen] at h3 ⊢
  rw [hI.robot] at h2
  simp at h1 h3
  refine⟨by simp;omega,hT (by omega) ⟨hc,(hb hb').1,(hb hb').2,h1,h2⟩ _ ⟨rfl,hI.zs,hI.aps,hI.sh,?_,hI.names,hI.zoned,hI.shelf,fun c=>?_⟩⟩
  ·show m.site.Robots++[x]=_;rw [hI.rs,QI hx]
  ·show (lk (upd m.robot x.Cell true) c).getD false=_
   rw [WV,QI hx,Q6z]
   by_cases e:x.Cell=c
   ·rw [if_pos e];simp [e]
   ·rw [if_neg e,hI.robot];simp [e]
 ·rw [if_neg hc]
  exact Jn.mk (fun b=>b=true) (Ite.f rfl rfl) (fun b hb=>Ite.t hb (hE 3 (by decide)))
end Go.Taq
/- The mathematics, part NB: survey.Right. -/
set_option linter.unusedVariables false
namespace Go.Taq
open Go
abbrev MAll (s:ApiSite) (m:SurveyMaker):Prop:=MInv s s.Zones.length s.Aparts.length s.Shelves.length s.Robots.length m
section
variable {s:ApiSite} {m:SurveyMaker}
theorem MInv.zs' (h:MAll s m):m.site.Zones=s.Zones:=by rw [h.zs,List.take_length]
theorem MInv.as' (h:MAll s m):m.site.Aparts=s.Aparts:=by rw [h.aps,List.take_length]
theorem MInv.sh' (h:MAll s m):m.site.Shelves=s.Shelves:=by rw [h.sh,List.take_length]
theorem MInv.shelf' (h:MAll s m) (c:Int):lk m.shelf c=if 0≤shAt s.Shelves c then some (shAt s.Shelves c) else none:=by
 have:=h.shelf c;rwa [List.take_length] at this
theorem Q7q {l:List QD} {f:ApiFloor} (hc:∀x,x∈l→isC f x.Cell=true) {c:Int} (h:0≤shAt l c):0≤c:=by
 unfold shAt at h
 rcases Xz (fun y:QD=>y.Cell == c) l with ⟨i,y,hy,e,hp,_⟩ | ⟨e,_⟩
 ·have:=(QU.1 (hc y (List.mem_of_getElem? hy))).1
  rw [←eq_of_beq hp];exact this
 ·rw [e] at h;omega
theorem Q1Y (k:OkApiSite s) (hf:RF s.Floor) (h:MAll s m) (hc:∀x,x∈s.Shelves→isC s.Floor x.Cell=true) {post:Int→Prop} (hF:∀i:Nat,i<s.Shelves.length→(∃d:Int,0≤d∧d<4∧Q3e s i d)→post (i:Int))
  (hT:(∀(i:Nat) (d:Int),0≤d→d<4→¬Q3e s i d)→post (-1)):Kz m post:=by
 unfold Kz
 rw [h.sh',h.fl,h.as']
 refine Jn.mk (fun _=>∀(i:Nat) (d:Int),i<s.Shelves.length→0≤d→d<4→¬Q3e s i d)
  (Wh (xs:=s.Shelves) k.Shelves.1 (fun t=>t) (fun n _=>∀(i:Nat) (d:Int),i<n→0≤d→d<4→¬Q3e s i d) rfl (fun i d h=>by omega) (fun n x t hx ht hall=>?_) (fun t h=>h)) (fun _ h=>hT (fun i d h0 h1 hb=>?_))
 ·have hn:=(List.getElem?_eq_some_iff.1 hx).1
  have hxc:=hc x (List.mem_of_getElem? hx)
  refine Jn.mk (fun _=>∀d:Int,0≤d→d<4→¬Q3e s n d) ⟨x,by rw [ht];exact Qq rfl hx,Q30 hf hxc ?_⟩ (fun _ hd=>⟨by rw [ht],fun i d hi h0 h1=>?_⟩)
  ·have hb:=p_bd hf hxc
   have w:=hf.W4;have hh:=hf.H4;have hd:=hf.D4
   dsimp only
   rw [Qx (x:=pX s.Floor x.Cell+1) (by omega) (by omega),Qx (x:=pY s.Floor x.Cell+1) (by omega) (by omega),Qx (x:=pX s.Floor x.Cell-1) (by omega) (by omega),Qx (x:=pY s.Floor x.Cell-1) (by omega) (by omega)]
   refine Wy hf (Wy hf (Wy hf (Wy hf ?_)))
   have n0:Wf s.Floor (pX s.Floor x.Cell+1) (pY s.Floor x.Cell) (pZ s.Floor x.Cell)=nbr s.Floor x.Cell 0:=by simp [nbr,hxc]
   have n1:Wf s.Floor (pX s.Floor x.Cell) (pY s.Floor x.Cell+1) (pZ s.Floor x.Cell)=nbr s.Floor x.Cell 1:=by simp [nbr,hxc]
   have n2:Wf s.Floor (pX s.Floor x.Cell-1) (pY s.Floor x.Cell) (pZ s.Floor x.Cell)=nbr s.Floor x.Cell 2:=by simp [nbr,hxc]
   have n3:Wf s.Floor (pX s.Floor x.Cell) (pY s.Floor x.Cell-1) (pZ s.Floor x.Cell)=nbr s.Floor x.Cell 3:=by simp [nbr,hxc]
   rw [n0,n1,n2,n3]
   have hl:∀(i:Nat) (c:Int),[nbr s.Floor x.Cell 0,nbr s.Floor x.Cell 1,nbr s.Floor x.Cell 2,nbr s.Floor x.Cell 3][i]?=some c→c=nbr s.Floor x.Cell (i:Int)∧i<4:=fun i c hi=>by
    match i,hi with
    | 0,hi=>simp at hi;exact⟨hi.symm,by omega⟩
    | 1,hi=>simp at hi;exact⟨hi.symm,by omega⟩
    | 2,hi=>simp at hi;exact⟨hi.symm,by omega⟩
    | 3,hi=>simp at hi;exact⟨hi.symm,by omega⟩
   refine Jn.mk (fun _=>∀d:Int,0≤d→d<4→¬Q3e s n d)
    (Kh (xs:=[nbr s.Floor x.Cell 0,nbr s.Floor x.Cell 1,nbr s.Floor x.Cell 2,nbr s.Floor x.Cell 3]) (by simp [maxLen]) (fun t=>t) (fun q _=>∀d:Int,0≤d→d<q→¬Q3e s n d) rfl (fun d h0 h1=>by omega) (fun q c t' hq ht' hqa=>?_) (fun t' h' d h0 h1=>h' d h0 (by simpa using h1))) (fun _ h'=>h')
   obtain⟨rfl,hq4⟩:=hl q c hq
   rw [h.shelf']
   refine Jn.mk (fun b=>b=true↔Q3e s n q) ?_ (fun b hb'=>Ite.mk (fun hbt=>by rw [ht];exact hF n hn ⟨q,by omega,by omega,hb'.1 hbt⟩) (fun hb''=>⟨by rw [ht'],fun d h0 h1=>?_⟩))
   ·by_cases h1:0≤shAt s.Shelves (nbr s.Floor x.Cell q)
    ·rw [if_pos h1]
     refine Ite.t rfl (Ite.mk (fun h2=>?_) (fun h2=>⟨fun h=>(by cases h),?_⟩))
     ·simp at h2
      have hlt:(shAt s.Shelves (nbr s.Floor x.Cell q)).toNat<s.Shelves.length:=by omega
      have hy:s.Shelves[(shAt s.Shelves (nbr s.Floor x.Cell q)).toNat]?=some (s.Shelves[(shAt s.Shelves (nbr s.Floor x.Cell q)).toNat]'hlt):=List.getElem?_eq_getElem _
      refine⟨_,Qq (n:=(shAt s.Shelves (nbr s.Floor x.Cell q)).toNat) (by simp;omega) hy,Q02 k.Aparts.1 ⟨fun h3=>⟨x,_,hx,?_,h1,by omega,Qq (n:=(shAt s.Shelves (nbr s.Floor x.Cell q)).toNat) (by omega) hy,h3⟩,?_⟩⟩
      ·exact Q7q hc h1
      rintro⟨x',y',hx',_,_,_,h5,h6⟩
      rw [hx] at hx';cases hx'
      rw [Qq (n:=(shAt s.Shelves (nbr s.Floor x.Cell q)).toNat) (by omega) hy] at h5;cases h5
      exact h6
     ·simp at h2
      rintro⟨x',y',hx',_,_,h5,_⟩
      rw [hx] at hx';cases hx';exfalso;omega
    ·rw [if_neg h1]
     refine Ite.f rfl ⟨fun h=>(by cases h),?_⟩
     rintro⟨x',y',hx',_,h5,_⟩
     rw [hx] at hx';cases hx';exfalso;omega
   ·by_cases e:d=q
    ·subst e;exact fun hbb=>by rw [hb'.2 hbb] at hb'';cases hb''
    ·exact hqa d h0 (by omega)
  ·by_cases e:i=n
   ·subst e;exact hd d h0 h1
   ·exact hall i d (by omega) h0 h1
 ·obtain⟨x,y,hx,_⟩:=id hb
  exact h i d (List.getElem?_eq_some_iff.1 hx).1 h0 h1 hb
theorem Q4y {p:Int→Bool} {l:List Int} {i:Nat} {c:Int} (h:l[i]?=some c):(l.take (i+1)).countP p=(l.take i).countP p+if p c=true then 1 else 0:=by
 rw [QI h,List.countP_append,List.countP_singleton]
theorem Q1d (k:OkApiSite s) (h:MAll s m) {z:Qy} (hz:z.Cells.length≤maxLen) (hc:∀c,c∈z.Cells→isC s.Floor c=true) {post:Bool→Prop} (hp:post (decide ((z.Cells.countP (Zu s):Nat)<z.Keep))):QX z m post:=by
 unfold QX
 refine Jn.mk (fun n=>n=((z.Cells.countP (Zu s):Nat):Int)) (Kh hz (fun t:Int×Int=>t.2) (fun i (t:Int×Int)=>t.1=(((z.Cells.take i).countP (Zu s):Nat):Int)) rfl rfl (fun i c t hcx ht hI=>?_) (fun t h=>by rw [h,List.take_length])) (fun n hn=>by rw [hn];exact hp)
 have hcc:=hc c (List.mem_of_getElem? hcx)
 have hle:=List.countP_le_length (p:=Zu s) (l:=z.Cells.take i)
 have hle2:(z.Cells.take i).length≤i:=by simp;omega
 have hi:=(List.getElem?_eq_some_iff.1 hcx).1
 rw [h.shelf',h.fl]
 refine Jn.mk (fun b=>b=Zu s c) ?_ (fun b hb=>Jn.mk (fun n=>n=(((z.Cells.take (i+1)).countP (Zu s):Nat):Int)) ?_ (fun n hn=>⟨by rw [ht],hn⟩))
 ·by_cases h1:0≤shAt s.Shelves c
  ·rw [if_pos h1];exact Ite.t rfl (by simp [Zu];omega)
  ·rw [if_neg h1]
   exact Ite.f rfl ⟨_,GN hcc,Z8 (by simp [Zu];omega)⟩
 ·rw [Q4y hcx]
  subst hb
  refine Ite.mk (fun h=>?_) (fun h=>?_)
  ·rw [hI,h,Qx (by omega) (by unfold maxLen at hz;omega)];simp
  ·rw [hI,h];simp
abbrev T17 (α:Type):=Int×Int×Int×List Int×List Int×List Qy×List Q8×List QD×List QL×List (Int×Int)×List (Int×Bool)×List (Int×Bool)×List (ByteArray×Int)×List (Int×Bool)×List Int×List Int×α
def ofT {α:Type} (t:T17 α):SurveyMaker:={site:={Floor:={W:=t.1,H:=t.2.1,D:=t.2.2.1,Kind:=t.2.2.2.1,Out:=t.2.2.2.2.1},Zones:=t.2.2.2.2.2.1,Aparts:=t.2.2.2.2.2.2.1,Shelves:=t.2.2.2.2.2.2.2.1,Robots:=t.2.2.2.2.2.2.2.2.1},shelf:=t.2.2.2.2.2.2.2.2.2.1,robot:=t.2.2.2.2.2.2.2.2.2.2.1,zoned:=t.2.2.2.2.2.2.2.2.2.2.2.1,names:=t.2.2.2.2.2.2.2.2.2.2.2.2.1,oneways:=t.2.2.2.2.2.2.2.2.2.2.2.2.2.1,shelves:=t.2.2.2.2.2.2.2.2.2.2.2.2.2.2.1,zones:=t.2.2.2.2.2.2.2.2.2.2.2.2.2.2.2.1}
abbrev T16:=Int×Int×Int×List Int×List Int×List Qy×List Q8×List QD×List QL×List (Int×Int)×List (Int×Bool)×List (Int×Bool)×List (ByteArray×Int)×List (Int×Bool)×List Int×List Int
def of16 (t:T16):SurveyMaker:={site:={Floor:={W:=t.1,H:=t.2.1,D:=t.2.2.1,Kind:=t.2.2.2.1,Out:=t.2.2.2.2.1},Zones:=t.2.2.2.2.2.1,Aparts:=t.2.2.2.2.2.2.1,Shelves:=t.2.2.2.2.2.2.2.1,Robots:=t.2.2.2.2.2.2.2.2.1},shelf:=t.2.2.2.2.2.2.2.2.2.1,robot:=t.2.2.2.2.2.2.2.2.2.2.1,zoned:=t.2.2.2.2.2.2.2.2.2.2.2.1,names:=t.2.2.2.2.2.2.2.2.2.2.2.2.1,oneways:=t.2.2.2.2.2.2.2.2.2.2.2.2.2.1,shelves:=t.2.2.2.2.2.2.2.2.2.2.2.2.2.2.1,zones:=t.2.2.2.2.2.2.2.2.2.2.2.2.2.2.2}
def lst {α:Type} (t:T17 α):α:=t.2.2.2.2.2.2.2.2.2.2.2.2.2.2.2.2
end
structure Q84 (s:ApiSite):Prop where
 zn:∀(i:Nat) z,s.Zones[i]?=some z→nmB z.Name=true
 an:∀(i:Nat) x,s.Aparts[i]?=some x→nmB x.A=true∧nmB x.B=true
 sn:∀(i:Nat) x,s.Shelves[i]?=some x→(seq x.Class ByteArray.empty||nmB x.Class)=true
theorem Q1T {s:ApiSite} (k:OkApiSite s) {cells most:Int} (hfew:FewS s cells most) (hm:most≤1000000) {post:Bool→Prop} (hF:post false) (hT:Ws s→Q84 s→post true):XX s post:=by
 have f2:=hfew.aparts;have f3:=hfew.shelves;have f4:=hfew.robots
 unfold XX
 refine Q32 (Ite.t rfl hF) (fun hf=>Ite.f rfl ?_)
 unfold Gn
 refine Jn.mk (fun t:T16=>MInv s s.Zones.length 0 0 0 (of16 t)∧s.Zones.length≤64∧∀(i:Nat) z,s.Zones[i]?=some z→Q4D s (s.Zones.take i) z∧nmB z.Name=true)
  (Kh k.Zones.1 (fun t:T17 Int=>lst t) (fun n (t:T17 Int)=>MInv s n 0 0 0 (ofT t)∧n≤64∧∀(i:Nat) z,i<n→s.Zones[i]?=some z→Q4D s (s.Zones.take i) z∧nmB z.Name=true) rfl ⟨⟨rfl,rfl,rfl,rfl,rfl,fun n=>rfl,fun c=>rfl,fun c=>rfl,fun c=>rfl⟩,by omega,fun i z h=>by omega⟩ (fun n z t hz ht hI=>?_) (fun t h=>⟨h.1,h.2.1,fun i z hz=>h.2.2 i z (List.getElem?_eq_some_iff.1 hz).1 hz⟩)) (fun t1 hI1=>?_)
 ·have kz:=k.Zones.2 z (List.mem_of_getElem? hz)
  refine Jn.mk (fun x:T17 Bool=>lst x=false→MInv s (n+1) 0 0 0 (ofT x)∧n<64∧Q4D s (s.Zones.take n) z∧nmB z.Name=true)
   (YQ kz.Name (Ite.f rfl (fun h=>by cases h)) (fun n1 n2 n3=>Ite.t rfl (Zb (Ite.mk (fun h1=>Ite.mk (fun _ h=>by cases h) (fun h2=>Q3f kz.Shut.1 (Ite.f rfl (fun h=>by cases h)) (fun h3=>Ite.t rfl
    (Q2o (m:=ofT t) kz.Cells.1 (Ite.f rfl (fun h=>by cases h)) (fun c1 c2 c3=>Ite.t rfl (Q1w (m:=ofT t) k hI.1 hz (fun e he h=>?_) (fun a1 a2 a3 m' hm' _=>⟨hm',a1,?_⟩))))))) (fun _ h=>by cases h))))) (fun x hx=>Ite.mk (fun _=>hF) (fun hx'=>⟨by show w64 (lst t+1)=_;rw [show lst t=(n:Int) from ht],(hx hx').1,(hx hx').2.1,fun i z' hi hz'=>?_⟩))
  ·exfalso;have:(e != 0)=false:=h;simp at this;exact he this
  ·simp at h1 h2
   exact⟨⟨⟨n1,n2⟩,a2,c1,h1,h2,h3,a3,c3⟩,n3⟩
  ·by_cases e:i=n
   ·subst e;rw [hz] at hz';cases hz';exact (hx hx').2.2
   ·exact hI.2.2 i z' (by omega) hz'
 obtain⟨hI1,hz64,hzone⟩:=hI1
 refine Jn.mk (fun t:T16=>MInv s s.Zones.length s.Aparts.length 0 0 (of16 t)∧∀(i:Nat) x,s.Aparts[i]?=some x→(1≤x.A.size∧1≤x.B.size∧apB (s.Aparts.take i) x.A x.B=false)∧nmB x.A=true∧nmB x.B=true)
  (Kh k.Aparts.1 (fun t:T17 Int=>lst t) (fun n (t:T17 Int)=>MInv s s.Zones.length n 0 0 (ofT t)∧∀(i:Nat) x,i<n→s.Aparts[i]?=some x→(1≤x.A.size∧1≤x.B.size∧apB (s.Aparts.take i) x.A x.B=false)∧nmB x.A=true∧nmB x.B=true) rfl (by exact⟨hI1,fun i z h=>by omega⟩) (fun n x t hx ht hI=>?_) (fun t h=>⟨h.1,fun i z hz=>h.2 i z (List.getElem?_eq_some_iff.1 hz).1 hz⟩)) (fun t2 hI2=>?_)
 ·refine Q1f (m:=ofT t) k (by omega) hI.1 hx (fun e he=>Ite.t (by simpa using he) hF) (fun a nm m' hm'=>Ite.f rfl ⟨by show w64 (lst t+1)=_;rw [show lst t=(n:Int) from ht],hm',fun i x' hi hx'=>?_⟩)
  by_cases e:i=n
  ·subst e;rw [hx] at hx';cases hx';exact⟨a,nm⟩
  ·exact hI.2 i x' (by omega) hx'
 obtain⟨hI2,hap⟩:=hI2
 refine Jn.mk (fun t:T16=>MInv s s.Zones.length s.Aparts.length s.Shelves.length 0 (of16 t)∧s.Shelves.length≤3000∧∀(i:Nat) x,s.Shelves[i]?=some x→(isC s.Floor x.Cell=true∧Q1m (kd s.Floor x.Cell)=true∧shAt (s.Shelves.take i) x.Cell<0)∧(seq x.Class ByteArray.empty||nmB x.Class)=true)
  (Kh k.Shelves.1 (fun t:T17 Int=>lst t) (fun n (t:T17 Int)=>MInv s s.Zones.length s.Aparts.length n 0 (ofT t)∧n≤3000∧∀(i:Nat) x,i<n→s.Shelves[i]?=some x→(isC s.Floor x.Cell=true∧Q1m (kd s.Floor x.Cell)=true∧shAt (s.Shelves.take i) x.Cell<0)∧(seq x.Class ByteArray.empty||nmB x.Class)=true) rfl (by exact⟨hI2,by omega,fun i z h=>by omega⟩) (fun n x t hx ht hI=>?_) (fun t h=>⟨h.1,h.2.1,fun i z hz=>h.2.2 i z (List.getElem?_eq_some_iff.1 hz).1 hz⟩)) (fun t3 hI3=>?_)
 ·refine Q0V (m:=ofT t) k (by omega) hI.1 hx (fun e he=>Ite.t (by simpa using he) hF) (fun l a nm m' hm'=>Ite.f rfl ⟨by show w64 (lst t+1)=_;rw [show lst t=(n:Int) from ht],hm',by omega,fun i x' hi hx'=>?_⟩)
  by_cases e:i=n
  ·subst e;rw [hx] at hx';cases hx';exact⟨a,nm⟩
  ·exact hI.2.2 i x' (by omega) hx'
 obtain⟨hI3,hs3,hsh⟩:=hI3
 refine Jn.mk (fun t:T16=>MAll s (of16 t)∧s.Robots.length≤200∧∀(i:Nat) x,s.Robots[i]?=some x→isC s.Floor x.Cell=true∧0≤x.Charge∧x.Charge≤1000000∧kd s.Floor x.Cell≠0∧rbAt (s.Robots.take i) x.Cell=false)
  (Kh k.Robots.1 (fun t:T17 Int=>lst t) (fun n (t:T17 Int)=>MInv s s.Zones.length s.Aparts.length s.Shelves.length n (ofT t)∧n≤200∧∀(i:Nat) x,i<n→s.Robots[i]?=some x→isC s.Floor x.Cell=true∧0≤x.Charge∧x.Charge≤1000000∧kd s.Floor x.Cell≠0∧rbAt (s.Robots.take i) x.Cell=false) rfl (by exact⟨hI3,by omega,fun i z h=>by omega⟩) (fun n x t hx ht hI=>?_) (fun t h=>⟨h.1,h.2.1,fun i z hz=>h.2.2 i z (List.getElem?_eq_some_iff.1 hz).1 hz⟩)) (fun t4 hI4=>?_)
 ·refine Q1b (m:=ofT t) k (by omega) hI.1 hx (fun e he=>Ite.t (by simpa using he) hF) (fun l a m' hm'=>Ite.f rfl ⟨by show w64 (lst t+1)=_;rw [show lst t=(n:Int) from ht],hm',by omega,fun i x' hi hx'=>?_⟩)
  by_cases e:i=n
  ·subst e;rw [hx] at hx';cases hx';exact a
  ·exact hI.2.2 i x' (by omega) hx'
 obtain⟨hI4,hr2,hrb⟩:=hI4
 refine Jn.mk' (Q1Y (m:=of16 t4) k hf hI4 (fun x hx=>?_) (fun i hi _=>Ite.f (by simp) hF) (fun hbs=>Ite.t (by decide) ?_))
 ·obtain⟨i,hi⟩:=List.getElem?_of_mem hx
  exact (hsh i x hi).1.1
 ·unfold X3
  have hzs:(of16 t4).site.Zones=s.Zones:=hI4.zs'
  show Qc (of16 t4).site.Zones (of16 t4) _
  rw [hzs]
  unfold Qc
  refine Q11 k.Zones.1 (fun z=>decide ((z.Cells.countP (Zu s):Nat)<z.Keep)) (T:=fun z post=>QX z (of16 t4) post) (fun z hz {q} hq=>Q1d k hI4 (k.Zones.2 z hz).Cells.1 (fun c hc=>?_) hq) (Ite.mk (fun h=>?_) (fun _=>hF))
  ·obtain⟨i,hi⟩:=List.getElem?_of_mem hz
   exact ((hzone i z hi).1.cell c hc).1
  ·unfold X4
   have hfl:(of16 t4).site.Floor=s.Floor:=hI4.fl
   show Qj (of16 t4).site.Floor.Kind 3 _
   rw [hfl]
   refine KY k.Floor.Kind.1 ?_
   cases hch:s.Floor.Kind.contains 3
   ·exact hF
   ·refine hT ⟨hf,hz64,fun i z hz=>(hzone i z hz).1,hs3,hr2,fun i x hx=>(hap i x hx).1,fun i x hx=>(hsh i x hx).1,hrb,fun z hz=>?_,hbs,hch⟩ ⟨fun i z hz=>(hzone i z hz).2,fun i x hx=>(hap i x hx).2,fun i x hx=>(hsh i x hx).2⟩
    rcases Xz (fun z:Qy=>decide (((z.Cells.countP (Zu s):Nat):Int)<z.Keep)) s.Zones with ⟨i,y,hy,e,_⟩ | ⟨e,hb⟩
    ·exfalso;rw [e] at h;have:=of_decide_eq_true h;omega
    ·have:=hb z hz;simp at this;exact this
theorem Q2D {s:ApiSite} (k:OkApiSite s) {cells most:Int} (hfew:FewS s cells most) (hm:most≤1000000) {post:Bool→Prop} (hF:post false) (hT:Ws s→post true):XX s post:=Q1T k hfew hm hF (fun h _=>hT h)
end Go.Taq
