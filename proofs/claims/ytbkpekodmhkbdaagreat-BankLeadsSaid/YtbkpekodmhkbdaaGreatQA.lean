/- The mathematics, several parts in one text. -/
import Derived.Test.YtbkpekodmhkbdaaGreatMC
import Derived.Test.YtbkpekodmhkbdaaGreatLibZR
/- The mathematics, part D: zones, what is open, what is taken; a step of a walk. -/
set_option linter.unusedVariables false
namespace Go.Taq
open Go
structure RS (s:ApiSite):Prop where
 fl:RF s.Floor
 asc:∀z,z∈s.Zones→Asc z.Cells
 zc:∀z,z∈s.Zones→∀c,c∈z.Cells→isC s.Floor c=true
 sp:∀z,z∈s.Zones→1≤z.Speed∧z.Speed≤100
def zn (s:ApiSite) (c:Int):Int:=fidx (fun z:Ql=>z.Cells.contains c) s.Zones
def inS (t:Int) (x:XP):Bool:=decide (x.From≤t)&&decide (t<x.To)
def spd (s:ApiSite) (c:Int):Int:=if zn s c<0 then 1 else (s.Zones.getD (zn s c).toNat default).Speed
def opn (s:ApiSite) (c t:Int):Bool:=isC s.Floor c&&(decide (zn s c<0)||!((s.Zones.getD (zn s c).toNat default).Shut.any (inS t)))
theorem zn_lt {s:ApiSite} {c:Int}:-1≤zn s c∧zn s c<s.Zones.length:=Q7w
theorem Q4F {s:ApiSite} {c:Int} (h:0≤zn s c):idx s.Zones (zn s c)=some (s.Zones.getD (zn s c).toNat default):=by
 have:=zn_lt (s:=s) (c:=c)
 rw [YM h (by omega),List.getD_eq_getElem?_getD,List.getElem?_eq_getElem (by omega)];rfl
theorem Q7t {s:ApiSite} {c:Int} (h:0≤zn s c):s.Zones.getD (zn s c).toNat default∈s.Zones:=by
 have:=zn_lt (s:=s) (c:=c)
 rw [List.getD_eq_getElem?_getD,List.getElem?_eq_getElem (by omega)];exact List.getElem_mem _
theorem Q4V {s:ApiSite} (h:RS s) (c:Int):1≤spd s c∧spd s c≤100:=by
 unfold spd
 split
 ·omega
 ·exact h.sp _ (Q7t (by omega))
theorem Zt {s:ApiSite} (k:QX s) (h:RS s) {c:Int} {post:Int→Prop} (hp:post (zn s c)):XL s c post:=by
 unfold XL Qu
 have hl:=k.Zones.1
 simp only [maxLen] at hl
 have step:∀(x:Ql),x∈s.Zones→∀{post:Bool→Prop},post (x.Cells.contains c)→XI x c post:=fun x hx post hp=>by
  unfold XI
  exact YT (k.Zones.2 x hx).Cells.1 (h.asc x hx) (fun _=>hp)
 refine Jn.mk (fun _=>post (-1)) (Loop.find s.Zones (fun z:Ql=>z.Cells.contains c) (fun i x hi hx hpx=>?_) (fun i x hi hx hpx hf=>?_) (fun hn hf=>?_)) (fun _ h=>h)
 ·refine Ite.t (by simp;omega) ⟨x,Qn rfl hx,step x (List.mem_of_getElem? hx) (Ite.f hpx ?_)⟩
  rw [QD (by omega) (by omega)];omega
 ·refine Ite.t (by simp;omega) ⟨x,Qn rfl hx,step x (List.mem_of_getElem? hx) (Ite.t hpx ?_)⟩
  rw [zn,fidx,hf] at hp;exact hp
 ·refine Ite.f (by simp) ?_
  rw [zn,fidx,hf] at hp;exact hp
theorem Zh {s:ApiSite} {c:Int} {post:Bool→Prop} (hp:post (isC s.Floor c)):KQ s c post:=by
 unfold KQ
 refine Zd ?_
 have:(decide (c≥0)&&decide (c<(s.Floor.Kind.length:Int)))=isC s.Floor c:=rfl
 rw [this];exact hp
theorem Q2J {s:ApiSite} (k:QX s) (h:RS s) {c:Int} {post:Int→Prop} (hp:post (spd s c)):GF s c post:=by
 unfold GF
 refine Zt k h (Ite.mk (fun h1=>⟨_,Q4F (by simpa using h1),?_⟩) (fun h1=>?_))
 ·simp at h1;rw [spd,if_neg (by omega)] at hp;exact hp
 ·simp at h1;rw [spd,if_pos (by omega)] at hp;exact hp
theorem Q2M {xs:List XP} {t:Int} (hl:xs.length≤maxLen) {post:Bool→Prop} (hp:post (xs.any (inS t))):Qi xs t post:=by
 unfold Qi Qy
 simp only [maxLen] at hl
 rw [←Z2] at hp
 have step:∀(x:XP) {post:Bool→Prop},post (inS t x)→Gi x t post:=fun x post hp=>by unfold Gi;exact Zd hp
 refine Jn.mk (fun _=>post (decide ((-1:Int)≥0))) (Loop.find xs (inS t) (fun i x hi hx hpx=>?_) (fun i x hi hx hpx hf=>?_) (fun hn hf=>?_)) (fun _ h=>h)
 ·refine Ite.t (by simp;omega) ⟨x,Qn rfl hx,step x (Ite.f hpx ?_)⟩
  rw [QD (by omega) (by omega)];omega
 ·refine Ite.t (by simp;omega) ⟨x,Qn rfl hx,step x (Ite.t hpx ?_)⟩
  rw [fidx,hf] at hp;exact hp
 ·refine Ite.f (by simp) ?_
  rw [fidx,hf] at hp;exact hp
theorem Q3h {s:ApiSite} (k:QX s) (h:RS s) {c t:Int} {post:Bool→Prop} (hp:post (opn s c t)):GU s c t post:=by
 unfold GU
 refine Zt k h ?_
 refine Jn.eq (!isC s.Floor c||decide (zn s c<0)) (Zh (Ite.mk (fun h1=>by rw [h1];rfl) (fun h1=>by rw [h1];rfl))) (Ite.mk (fun h1=>Zh ?_) (fun h1=>?_))
 ·have:opn s c t=isC s.Floor c:=by
   unfold opn
   cases hc:isC s.Floor c
   ·rfl
   ·rw [hc] at h1;simp only [Bool.not_true,Bool.false_or] at h1;simp [h1]
  rw [←this];exact hp
 ·simp only [Bool.or_eq_false_iff,Bool.not_eq_false',decide_eq_false_iff_not,Int.not_lt] at h1
  refine⟨_,Q4F h1.2,Q2M (k.Zones.2 _ (Q7t h1.2)).Shut.1 ?_⟩
  have:opn s c t=!((s.Zones.getD (zn s c).toNat default).Shut.any (inS t)):=by
   unfold opn;rw [h1.1,decide_eq_false (Int.not_lt.2 h1.2)];rfl
  rw [←this];exact hp
/-! ## what is taken -/
end Go.Taq
/- The mathematics, part R: right sites. -/
set_option linter.unusedVariables false
namespace Go.Taq
open Go
def shAt (l:List QE) (c:Int):Int:=fidx (fun x:QE=>x.Cell == c) l
def zAt (l:List Ql) (c:Int):Bool:=l.any fun z=>z.Cells.contains c
def rbAt (l:List QC) (c:Int):Bool:=l.any fun x=>x.Cell == c
def Zi (k:Int):Bool:=(k == 1)||(k == 2)
def Q2h (k:Int):Bool:=(k != 0)&&(k != 4)&&(k != 5)
def nosh (x:ByteArray):Bool:=seq x ByteArray.empty
def apB (l:List Qb) (a b:ByteArray):Bool:=!nosh a&&!nosh b&&l.any fun x=>(seq x.A a&&seq x.B b)||(seq x.A b&&seq x.B a)
def W0:Int→List XP→Prop
 | _,[]=>True
 | t,x :: r=>t≤x.From∧x.From<x.To∧x.To≤20000∧W0 x.To r
def Y0 (s:ApiSite) (c:Int):Bool:=Zi (kd s.Floor c)&&decide (shAt s.Shelves c<0)
end Go.Taq
/- The mathematics, part S: right sites, whole. -/
set_option linter.unusedVariables false
namespace Go.Taq
open Go
structure Q1g (s:ApiSite) (before:List Ql) (z:Ql):Prop where
 named:1≤z.Name.size∧z.Name.size≤20
 name:∀y,y∈before→seq y.Name z.Name=false
 ne:z.Cells≠[]
 sp:1≤z.Speed∧z.Speed≤100
 keep:0≤z.Keep
 spans:W0 0 z.Shut
 cell:∀c,c∈z.Cells→isC s.Floor c=true∧Q2h (kd s.Floor c)=true∧zAt before c=false
 asc:∀(i:Nat) x y,z.Cells[i]?=some x→z.Cells[i+1]?=some y→x<y
theorem Q8x {l:List Int} (h:∀(i:Nat) x y,l[i]?=some x→l[i+1]?=some y→x<y):Asc l:=by
 have key:∀(d i:Nat) x y,l[i]?=some x→l[i+d+1]?=some y→x<y:=by
  intro d
  induction d with
  | zero=>intro i x y hx hy;exact h i x y hx hy
  | succ d ih=>
   intro i x y hx hy
   have hlt:=(List.getElem?_eq_some_iff.1 hy).1
   have hz:l[i+d+1]?=some (l[i+d+1]'(by omega)):=List.getElem?_eq_getElem _
   exact Int.lt_trans (ih i x _ hx hz) (h (i+d+1) _ y hz (by rw [←hy];congr 1))
 intro i j x y hij hx hy
 exact key (j-i-1) i x y hx (by rw [←hy];congr 1;omega)
theorem Q1g.ascL {s:ApiSite} {b:List Ql} {z:Ql} (h:Q1g s b z):Asc z.Cells:=Q8x h.asc
def Q31 (s:ApiSite) (i:Nat) (d:Int):Prop:=∃x y,s.Shelves[i]?=some x∧0≤nbr s.Floor x.Cell d∧0≤shAt s.Shelves (nbr s.Floor x.Cell d)∧shAt s.Shelves (nbr s.Floor x.Cell d)<i∧idx s.Shelves (shAt s.Shelves (nbr s.Floor x.Cell d))=some y∧apB s.Aparts x.Class y.Class=true
structure Q1o (s:ApiSite):Prop where
 fl:RF s.Floor
 z64:s.Zones.length≤64
 zone:∀(i:Nat) z,s.Zones[i]?=some z→Q1g s (s.Zones.take i) z
 sh3:s.Shelves.length≤3000
 r2:s.Robots.length≤200
 ap:∀(i:Nat) x,s.Aparts[i]?=some x→1≤x.A.size∧1≤x.B.size∧apB (s.Aparts.take i) x.A x.B=false
 sh:∀(i:Nat) x,s.Shelves[i]?=some x→isC s.Floor x.Cell=true∧Zi (kd s.Floor x.Cell)=true∧shAt (s.Shelves.take i) x.Cell<0
 rb:∀(i:Nat) x,s.Robots[i]?=some x→isC s.Floor x.Cell=true∧0≤x.Charge∧x.Charge≤1000000∧kd s.Floor x.Cell≠0∧rbAt (s.Robots.take i) x.Cell=false
 room:∀z,z∈s.Zones→z.Keep≤(z.Cells.countP (Y0 s):Nat)
 apart:∀(i:Nat) (d:Int),0≤d→d<4→¬Q31 s i d
 charger:s.Floor.Kind.contains 3=true
theorem Q1o.zm {s:ApiSite} (h:Q1o s) {z:Ql} (hz:z∈s.Zones):∃i:Nat,Q1g s (s.Zones.take i) z:=by
 obtain⟨i,hi⟩:=List.getElem?_of_mem hz
 exact⟨i,h.zone i z hi⟩
theorem Q1o.rs {s:ApiSite} (h:Q1o s):RS s where
 fl:=h.fl
 asc z hz:=(h.zm hz).elim fun _ q=>q.ascL
 zc z hz c hc:=(h.zm hz).elim fun _ q=>(q.cell c hc).1
 sp z hz:=(h.zm hz).elim fun _ q=>q.sp
theorem Q43 {f:ApiFloor} {n:Int} {post:Bool→Prop} (hF:post false) (hT:f.Kind.length≤n→f.Out.length≤n→post true):Xq f n post:=by
 unfold Xq
 refine Jn.mk' (Ite.mk (fun h1=>?_) (fun h1=>hF))
 simp at h1
 cases hb:decide ((f.Out.length:Int)≤n)
 ·exact hF
 ·exact hT h1 (by simpa using hb)
structure FewS (s:ApiSite) (cells most:Int):Prop where
 kind:s.Floor.Kind.length≤cells
 zones:s.Zones.length≤most
 aparts:s.Aparts.length≤most
 shelves:s.Shelves.length≤most
 robots:s.Robots.length≤most
 zone:∀z,z∈s.Zones→z.Cells.length≤cells∧z.Shut.length≤20
theorem Q47 {s:ApiSite} (k:QX s) {cells most:Int} (hm:0≤most∧most≤1000000) {post:Bool→Prop} (hF:post false) (hT:FewS s cells most→post true):Xk s cells most post:=by
 unfold Xk
 refine Q85 s.Zones k.Zones.1 (T:=fun s3 q=>Jn (fun (J10:Bool→Prop)=>∃x11,idx s.Zones s3=some x11∧Ite (decide ((x11.Cells.length:Int)>cells)) (J10 true) (Ite (decide ((x11.Shut.length:Int)>20)) (J10 true) (J10 (decide ((x11.Name.size:Int)>40))))) q) (fun z=>z.Cells.length≤cells∧z.Shut.length≤20) (fun i x hx q q1 q2=>Jn.ex x hx (Jor3 ?_)) hF (fun hz=>?_)
 ·cases hb:(decide ((x.Cells.length:Int)>cells)||decide ((x.Shut.length:Int)>20)||decide ((x.Name.size:Int)>40))
  ·simp only [Bool.or_eq_false_iff,decide_eq_false_iff_not] at hb
   exact q2 ⟨by omega,by omega⟩
  ·exact q1
 refine Q85 s.Aparts k.Aparts.1 (T:=fun s3 q=>Jn (fun (J10:Bool→Prop)=>∃x11,idx s.Aparts s3=some x11∧Ite (decide ((x11.A.size:Int)>40)) (J10 true) (J10 (decide ((x11.B.size:Int)>40)))) q) (fun z=>True) (fun i x hx q q1 q2=>Jn.ex x hx (Jor2 ?_)) hF (fun _=>?_)
 ·cases hb:(decide ((x.A.size:Int)>40)||decide ((x.B.size:Int)>40))
  ·exact q2 trivial
  ·exact q1
 refine Q85 s.Shelves k.Shelves.1 (T:=fun s3 q=>∃x11,idx s.Shelves s3=some x11∧q (decide ((x11.Class.size:Int)>40))) (fun z=>True) (fun i x hx q q1 q2=>⟨x,hx,?_⟩) hF (fun _=>?_)
 ·cases hb:(decide ((x.Class.size:Int)>40))
  ·exact q2 trivial
  ·exact q1
 refine Jn.mk' (Q43 (Ite.f rfl hF) (fun f1 f2=>Ite.t rfl (Ite.mk (fun h1=>Ite.mk (fun h2=>Ite.mk (fun h3=>?_) (fun _=>hF)) (fun _=>hF)) (fun _=>hF))))
 simp at h1 h2 h3
 cases hb:decide ((s.Robots.length:Int)≤most)
 ·exact hF
 ·exact hT ⟨f1,h1,h2,h3,by simpa using hb,hz h1⟩
end Go.Taq
/- The mathematics, part QA: loops whose state has a counter and more; ranges over lists; lists of places. -/
set_option linter.unusedVariables false
set_option linter.unusedSimpArgs false
namespace Go.Taq
open Go
theorem Kg {α τ:Type} {xs:List α} (hm:xs.length≤maxLen) (ix:τ→Int) (I:Nat→τ→Prop) {t0:τ} (hi0:ix t0=0) (h0:I 0 t0) {R:α→τ→(τ→Prop)→Prop} {E:τ→Prop}
  (hs:∀(i:Nat) x t,xs[i]?=some x→ix t=(i:Int)→I i t→R x t (fun t'=>ix t'=w64 ((i:Int)+1)∧I (i+1) t'))
  (he:∀t,I xs.length t→E t):
  Loop (fun t Y=>Ite (decide (ix t<(xs.length:Int))) (∃x,idx xs (ix t)=some x∧R x t Y) (E t)) t0:=by
 refine Loop.inv xs.length (fun i t=>ix t=(i:Int)∧I i t) ⟨by simpa using hi0,h0⟩ (fun i t hi h=>?_) (fun t h=>?_)
 ·have hx:xs[i]?=some (xs[i]'hi):=List.getElem?_eq_getElem hi
  refine Ite.lt (by omega) ⟨_,by rw [h.1];exact Qn rfl hx,?_⟩
  have:=hs i _ t hx h.1 h.2
  rw [Xx hi hm] at this;exact this
 ·exact Ite.nlt (by omega) (he t h.2)
theorem Q2C {α τ:Type} {xs:List α} (hm:xs.length≤maxLen) (ix:τ→Int) (I:Nat→τ→Prop) {t0:τ} (hi0:ix t0=0) (h0:I 0 t0) {R:τ→(τ→Prop)→Prop} {E:τ→Prop}
  (hs:∀(i:Nat) x t,xs[i]?=some x→ix t=(i:Int)→I i t→R t (fun t'=>ix t'=w64 ((i:Int)+1)∧I (i+1) t'))
  (he:∀t,I xs.length t→E t):
  Loop (fun t Y=>Ite (decide (ix t<(xs.length:Int))) (R t Y) (E t)) t0:=by
 refine Loop.inv xs.length (fun i t=>ix t=(i:Int)∧I i t) ⟨by simpa using hi0,h0⟩ (fun i t hi h=>?_) (fun t h=>?_)
 ·have hx:xs[i]?=some (xs[i]'hi):=List.getElem?_eq_getElem hi
  refine Ite.lt (by omega) ?_
  have:=hs i _ t hx h.1 h.2
  rw [Xx hi hm] at this;exact this
 ·exact Ite.nlt (by omega) (he t h.2)
theorem Each.inv {α σ:Type} {body:α→σ→(σ→Prop)→Prop} {k:σ→Prop}:∀(ys:List α) (I:Nat→σ→Prop) {s0:σ},I 0 s0→(∀(i:Nat) x s,ys[i]?=some x→I i s→∀Y:σ→Prop,(∀s',I (i+1) s'→Y s')→body x s Y)→(∀s,I ys.length s→k s)→Each body k ys s0
 | [],I,s0,h0,_,he=>he _ h0
 | y :: ys,I,s0,h0,hs,he=>hs 0 y s0 rfl h0 _ fun s' h'=>Each.inv ys (fun i=>I (i+1)) h' (fun i x s hx hI Y hY=>hs (i+1) x s (by simpa using hx) hI Y hY) (fun s h=>he s h)
theorem Q2e {τ:Type} (n:Nat) (ix:τ→Int) (I:Nat→τ→Prop) {t0:τ} (hn:n≤maxLen) (hi0:ix t0=0) (h0:I 0 t0) {R:τ→(τ→Prop)→Prop} {E:τ→Prop}
  (hs:∀(i:Nat) t,i<n→ix t=(i:Int)→I i t→R t (fun t'=>ix t'=w64 ((i:Int)+1)∧I (i+1) t'))
  (he:∀t,I n t→E t):
  Loop (fun t Y=>Ite (decide (ix t<(n:Int))) (R t Y) (E t)) t0:=by
 refine Loop.inv n (fun i t=>ix t=(i:Int)∧I i t) ⟨by simpa using hi0,h0⟩ (fun i t hi h=>?_) (fun t h=>?_)
 ·refine Ite.lt (by omega) ?_
  have:=hs i t hi h.1 h.2
  rw [Xx hi hn] at this;exact this
 ·exact Ite.nlt (by omega) (he t h.2)
def fnat (p:Nat→Bool) (n:Nat):Int:=match (List.range n).find? p with | some i=>i | none=>-1
theorem Q3E {p:Nat→Bool} {n i:Nat} (hi:i<n) (hp:p i=true) (hb:∀j,j<i→p j=false):fnat p n=i:=by
 unfold fnat
 have:(List.range n).find? p=some i:=by
  rw [List.find?_eq_some_iff_getElem]
  refine⟨hp,i,by simpa using hi,by simp,fun j hj=>?_⟩
  simp [hb j hj]
 rw [this]
theorem Q3Q {p:Nat→Bool} {n:Nat} (h:∀i,i<n→p i=false):fnat p n=-1:=by
 unfold fnat
 have:(List.range n).find? p=none:=by
  rw [List.find?_eq_none]
  intro x hx;simp at hx;simp [h x hx]
 rw [this]
theorem Ya (p:Nat→Bool) (n:Nat):(∃i:Nat,i<n∧fnat p n=i∧p i=true∧∀j,j<i→p j=false)∨(fnat p n=-1∧∀i,i<n→p i=false):=by
 cases h:(List.range n).find? p with
 | none=>
  refine .inr ?_
  have h':∀i,i<n→p i=false:=fun i hi=>by
   have:=List.find?_eq_none.1 h i (by simpa using hi);simpa using this
  exact⟨Q3Q h',h'⟩
 | some i=>
  refine .inl ⟨i,?_⟩
  have hp:p i=true:=List.find?_some h
  have hlt:i<n:=by have:=List.mem_of_find?_eq_some h;simpa using this
  have hb':∀j,j<i→p j=false:=by
   rw [List.find?_eq_some_iff_getElem] at h
   obtain⟨_,k,hk,hki,hall⟩:=h
   simp at hki;subst hki
   intro j hj;have:=hall j hj;simpa using this
  exact⟨hlt,Q3E hlt hp hb',hp,hb'⟩
theorem XO {α:Type} (p:α→Bool) (xs:List α):(∃(i:Nat) (x:α),xs[i]?=some x∧fidx p xs=i∧p x=true∧∀(j:Nat) (y:α),j<i→xs[j]?=some y→p y=false)∨(fidx p xs=-1∧∀x,x∈xs→p x=false):=by
 unfold fidx
 cases h:xs.findIdx? p with
 | none=>
  refine .inr ⟨rfl,fun x hx=>?_⟩
  rw [List.findIdx?_eq_none_iff] at h;exact h x hx
 | some i=>
  obtain⟨hlt,hp,hb⟩:=List.findIdx?_eq_some_iff_getElem.1 h
  refine .inl ⟨i,xs[i],List.getElem?_eq_getElem hlt,rfl,hp,fun j y hj hy=>?_⟩
  have:=hb j hj
  have hyj:=(List.getElem?_eq_some_iff.1 hy).2
  rw [←hyj];simpa using this
theorem Qz {α:Type} {xs:List α} {i:Nat} {x:α} (h:xs[i]?=some x):xs.take (i+1)=xs.take i++[x]:=by
 rw [List.take_add_one,h];rfl
theorem Q1q {α:Type} {xs:List α} (hm:xs.length≤maxLen) (z0:α) (p:α→Bool) {T:α→(Bool→Prop)→Prop} (hT:∀x,x∈xs→∀{q:Bool→Prop},q (p x)→T x q) {post:List α→Prop} (hp:post (xs.filter fun x=>!p x)):
  Ite (fidx p xs == (-1)) (post xs) (Jn (fun (J:(List α×Int)→Prop)=>Loop (fun (s:List α×Int×Int) Y=>Ite (decide (s.2.2<(s.1.length:Int)))
   (∃x,idx s.1 s.2.2=some x∧T x (fun b=>Jn (fun (J27:(List α×Int)→Prop)=>Ite (!b) (∃y,idx s.1 s.2.1=some y∧J27 ((s.1.set (Int.toNat s.2.1) x),w64 (s.2.1+1))) (J27 (s.1,s.2.1))) (fun (x26:List α×Int)=>Y (x26.1,x26.2,w64 (s.2.2+1)))))
   (J (s.1,s.2.1))) (xs,fidx p xs,w64 (fidx p xs+1)))
   (fun (x:List α×Int)=>(0≤x.2∧x.2≤(x.1.length:Int)∧(x.1.length:Int)≤(x.1.length:Int))∧((Int.toNat x.2)+(Int.toNat ((x.1.length:Int)-x.2))≤x.1.length) ∧
    (0≤(0:Int)∧(0:Int)≤x.2∧x.2≤((x.1.take (Int.toNat x.2)++(List.replicate (Int.toNat ((x.1.length:Int)-x.2)) z0++x.1.drop ((Int.toNat x.2)+(Int.toNat ((x.1.length:Int)-x.2))))).length:Int)) ∧
    post (sub (x.1.take (Int.toNat x.2)++(List.replicate (Int.toNat ((x.1.length:Int)-x.2)) z0++x.1.drop ((Int.toNat x.2)+(Int.toNat ((x.1.length:Int)-x.2))))) 0 x.2))):=by
 rcases XO p xs with ⟨i0,x0,hx0,e,hp0,hb0⟩ | ⟨e,hb⟩
 ·rw [e]
  have hi0:=(List.getElem?_eq_some_iff.1 hx0).1
  refine Ite.f (beq_eq_false_iff_ne.2 (by omega)) ?_
  rw [Xx hi0 hm]
  have hfirst:(xs.take (i0+1)).filter (fun x=>!p x)=xs.take i0:=by
   rw [Qz hx0,List.filter_append]
   have h1:(xs.take i0).filter (fun x=>!p x)=xs.take i0:=by
    rw [List.filter_eq_self]
    intro y hy
    obtain⟨j,hj⟩:=List.getElem?_of_mem hy
    have hlt:j<i0:=by have:=(List.getElem?_eq_some_iff.1 hj).1;simp at this;omega
    rw [List.getElem?_take,if_pos hlt] at hj
    simp [hb0 j y hlt hj]
   rw [h1];simp [List.filter_cons,hp0]
  refine Jn.mk (fun x:List α×Int=>x.1.length=xs.length∧∃i:Nat,x.2=(i:Int)∧i≤xs.length∧x.1.take i=xs.filter fun x=>!p x)
   (Loop.mk (fun t:List α×Int×Int=>t.1.length=xs.length∧∃i j:Nat,t.2.1=(i:Int)∧t.2.2=(j:Int)∧i<j∧j≤xs.length∧t.1.take i=(xs.take j).filter (fun x=>!p x)∧∀q,j≤q→t.1[q]?=xs[q]?) (fun t=>xs.length-t.2.2.toNat) ⟨rfl,i0,i0+1,rfl,rfl,by omega,by omega,hfirst.symm,fun _ _=>rfl⟩ ?_) ?_
  ·rintro⟨l,ti,tj⟩ ⟨hl,i,j,h1,h2,hij,hj,htk,hrest⟩
   simp only at hl h1 h2 htk hrest
   subst h1;subst h2
   refine Ite.mk (fun h=>?_) (fun h=>?_)
   ·simp [hl] at h
    have hx:xs[j]?=some (xs[j]'h):=List.getElem?_eq_getElem h
    refine⟨xs[j]'h,by rw [Q5R,hrest j (Nat.le_refl _),hx],hT _ (List.getElem_mem h) ?_⟩
    have hli:l[i]?=some (l[i]'(by omega)):=List.getElem?_eq_getElem (by omega)
    refine Jn.mk (fun x:List α×Int=>x.1.length=xs.length∧∃i':Nat,x.2=(i':Int)∧i'<j+1∧x.1.take i'=(xs.take (j+1)).filter (fun x=>!p x)∧∀q,j+1≤q→x.1[q]?=xs[q]?) (Ite.mk (fun hd=>⟨l[i]'(by omega),Qn rfl hli,?_⟩) (fun hd=>?_)) ?_
    ·refine⟨by simp [hl],i+1,by simp only;rw [Xx (by omega:i<xs.length) hm],by omega,?_,fun q hq=>?_⟩
     ·have:(i:Int).toNat=i:=by omega
      simp only [this]
      rw [Qz hx,List.filter_append,←htk]
      have hs:(l.set i (xs[j]'h))[i]?=some (xs[j]'h):=by rw [List.getElem?_set_self (by omega)]
      rw [Qz hs,List.take_set_of_le (Nat.le_refl _)]
      simp [List.filter_cons,hd]
     ·have:(i:Int).toNat=i:=by omega
      simp only [this]
      rw [List.getElem?_set_ne (by omega)]
      exact hrest q (by omega)
    ·refine⟨hl,i,rfl,by omega,?_,fun q hq=>hrest q (by omega)⟩
     simp only
     rw [Qz hx,List.filter_append,←htk]
     simp at hd
     simp [List.filter_cons,hd]
    ·rintro⟨l',ti'⟩ ⟨hl',i',h1',hij',htk',hrest'⟩
     simp only at hl' h1' htk' hrest' ⊢
     subst h1'
     refine⟨⟨hl',i',j+1,rfl,Xx (by omega:j<xs.length) hm,by omega,by omega,htk',hrest'⟩,?_⟩
     rw [Xx (by omega:j<xs.length) hm]
     have e1:((j+1:Nat):Int).toNat=j+1:=by omega
     have e2:((j:Nat):Int).toNat=j:=by omega
     rw [e1,e2];omega
   ·simp [hl] at h
    have:j=xs.length:=by omega
    subst this
    exact⟨hl,i,rfl,by omega,by rw [List.take_length] at htk;exact htk⟩
  ·rintro⟨l,ti⟩ ⟨hl,i,h1,hi,htk⟩
   simp only at hl h1 htk ⊢
   subst h1
   have e1:(i:Int).toNat=i:=by omega
   have e2:((l.length:Int)-(i:Int)).toNat=l.length-i:=by omega
   rw [e1,e2]
   refine⟨⟨by omega,by omega,by omega⟩,by omega,⟨by omega,by omega,by simp;omega⟩,?_⟩
   rw [sub0,List.take_append_of_le_length (by simp;omega),List.take_take,Nat.min_self,htk]
   exact hp
 ·rw [e]
  refine Ite.t (by decide) ?_
  have:xs.filter (fun x=>!p x)=xs:=by
   rw [List.filter_eq_self];intro x hx;simp [hb x hx]
  rw [this] at hp;exact hp
end Go.Taq
