/- The mathematics, several parts in one text. -/
import Derived.Test.YtbpbennpgnjbkaaGreatMR
import Derived.Test.YtbpbennpgnjbkaaGreatLibZR
import Derived.Test.YtbpbennpgnjbkaaGreatMR0
/- The mathematics, part S: right sites, whole. -/
set_option linter.unusedVariables false
namespace Go.Taq
open Go
structure Q4c (s:ApiSite) (before:List ApiZone) (z:ApiZone):Prop where
 named:1≤z.Name.size∧z.Name.size≤20
 name:∀y,y∈before→seq y.Name z.Name=false
 ne:z.Cells≠[]
 sp:1≤z.Speed∧z.Speed≤100
 keep:0≤z.Keep
 spans:Yq 0 z.Shut
 cell:∀c,c∈z.Cells→isC s.Floor c=true∧Q5a (kd s.Floor c)=true∧zAt before c=false
 asc:∀(i:Nat) x y,z.Cells[i]?=some x→z.Cells[i+1]?=some y→x<y
theorem Qa7 {l:List Int} (h:∀(i:Nat) x y,l[i]?=some x→l[i+1]?=some y→x<y):Asc l:=by
 have key:∀(d i:Nat) x y,l[i]?=some x→l[i+d+1]?=some y→x<y:=by
  intro d
  induction d with
  | zero=>intro i x y hx hy;exact h i x y hx hy
  | succ d ih=>
   intro i x y hx hy
   have hlt:=(List.getElem?_eq_some_iff.1 hy).1
   have hz:l[i+d+1]?=some (l[i+d+1]'(by omega)):=List.getElem?_eq_getElem _
   exact Int.lt_trans (ih i x _ hx hz) (h (i+d+1) _ y hz (by rw [←hy];congr 1))
 intro i j x y hij hx hy
 exact key (j-i-1) i x y hx (by rw [←hy];congr 1;omega)
theorem Q4c.ascL {s:ApiSite} {b:List ApiZone} {z:ApiZone} (h:Q4c s b z):Asc z.Cells:=Qa7 h.asc
theorem Q8e {α:Type} {xs:List α} {i:Nat} {x:α} (h:x∈xs.take i):x∈xs:=List.mem_of_mem_take h
theorem Q17 {s:ApiSite} (k:Qz s) (hf:RF s.Floor) {post:Bool→Prop} (hF:post false)
  (hT:s.Zones.length≤64→(∀(i:Nat) z,s.Zones[i]?=some z→Q4c s (s.Zones.take i) z)→post true):Ka s post:=by
 unfold Ka
 refine Jn.mk (fun _=>∀(i:Nat) z,s.Zones[i]?=some z→Q4c s (s.Zones.take i) z) (Loop.each s.Zones k.Zones.1 (fun i=>∀(j:Nat) z,j<i→s.Zones[j]?=some z→Q4c s (s.Zones.take j) z) (fun j z h=>by omega) (fun i z hz hidx hlt hall Y hY=>Ite.lt hlt ?_) (fun h=>Ite.nlt (by omega) (fun i z hz=>h i z (List.getElem?_eq_some_iff.1 hz).1 hz))) (fun _ h=>?_)
 ·have kz:=k.Zones.2 z (List.mem_of_getElem? hz)
  have kt:∀x,x∈s.Zones.take i→x.Cells.length≤maxLen:=fun x hx=>(k.Zones.2 x (Q8e hx)).Cells.1
  have ktl:(s.Zones.take i).length≤maxLen:=Nat.le_trans (by simp;omega) k.Zones.1
  refine Jn.mk (fun _=>Q4c s (s.Zones.take i) z) ⟨z,hidx,Jn.mk (fun b=>b=false→(1≤z.Name.size∧z.Name.size≤20)∧(∀y,y∈s.Zones.take i→seq y.Name z.Name=false)∧z.Cells≠[]∧(1≤z.Speed∧z.Speed≤100)∧0≤z.Keep∧Yq 0 z.Shut) ?_ ?_⟩ ?_
  ·refine YA kz.Name (Ite.f rfl (fun h=>by cases h)) (fun n1 n2=>Ite.t rfl ⟨⟨by omega,by omega,by omega⟩,?_⟩)
   rw [sub0]
   refine Q4l ktl (Ite.mk (fun _ h=>by cases h) (fun h1=>Ite.mk (fun _ h=>by cases h) (fun h2=>Ite.mk (fun _ h=>by cases h) (fun h3=>Ite.mk (fun _ h=>by cases h) (fun h4=>Ite.mk (fun _ h=>by cases h) (fun h5=>?_))))))
   rw [Q1i] at h1
   refine Q42 kz.Shut.1 (fun h=>by simp at h) (fun h6 _=>⟨⟨n1,n2⟩,fun y hy=>?_,?_,?_,?_,h6⟩)
   ·exact Bool.eq_false_iff.2 (List.any_eq_false.1 h1 y hy)
   ·intro e;rw [e] at h2;simp at h2
   ·simp at h3 h4;omega
   ·simp at h5;omega
  ·intro b hb
   refine Ite.mk (fun _=>hF) (fun h1=>?_)
   obtain⟨b1,b2,b3,b4,b5,b6⟩:=hb h1
   refine Jn.mk (fun _=>(∀c,c∈z.Cells→isC s.Floor c=true∧Q5a (kd s.Floor c)=true∧zAt (s.Zones.take i) c=false)∧(∀(i:Nat) x y,z.Cells[i]?=some x→z.Cells[i+1]?=some y→x<y))
    (Loop.each z.Cells kz.Cells.1 (fun m=>(∀(j:Nat) c,j<m→z.Cells[j]?=some c→isC s.Floor c=true∧Q5a (kd s.Floor c)=true∧zAt (s.Zones.take i) c=false)∧(∀(j:Nat) x y,j+1<m→z.Cells[j]?=some x→z.Cells[j+1]?=some y→x<y)) ⟨fun j c h=>by omega,fun j x y h=>by omega⟩ (fun m c hc hidc hlc hm Y2 hY2=>Ite.lt hlc ⟨c,hidc,?_⟩)
     (fun h=>Ite.nlt (by omega) ⟨fun c hc=>?_,fun j x y hx hy=>h.2 j x y (List.getElem?_eq_some_iff.1 hy).1 hx hy⟩)) (fun _ h=>?_)
   ·refine Jn.mk (fun b=>b=false→isC s.Floor c=true∧∀x,0<m→z.Cells[m-1]?=some x→x<c) (Gj hf (Ite.mk (fun h2=>Ite.mk (fun h3=>?_) (fun h3=>fun _=>⟨h2,fun x h0=>by simp at h3;omega⟩)) (fun h2 h=>by cases h))) (fun b hb=>Ite.mk (fun _=>hF) (fun h2=>?_))
    ·simp at h3
     have hl:=kz.Cells.1
     have hx:z.Cells[m-1]?=some (z.Cells[m-1]'(by omega)):=List.getElem?_eq_getElem _
     refine⟨_,Qg (n:=m-1) ?_ hx,fun h4=>⟨h2,fun x h0 hx'=>?_⟩⟩
     ·simp only [maxLen] at hl
      rw [Qy (by omega) (by omega),imax];split <;> omega
     ·rw [hx] at hx';cases hx'
      simp at h4;exact h4
    ·obtain⟨hcc,hasc⟩:=hb h2
     refine Jn.mk (fun b=>b=false→Q5a (kd s.Floor c)=true∧zAt (s.Zones.take i) c=false) ⟨_,Wl hcc,Q4k (Ite.mk (fun h3=>⟨⟨by omega,by omega,by omega⟩,?_⟩) (fun h3 h=>by cases h))⟩ (fun b hb'=>Ite.mk (fun _=>hF) (fun h4=>hY2 ?_))
     ·rw [sub0];exact Q2Y ktl kt (fun h=>⟨h3,h⟩)
     ·obtain⟨q1,q2⟩:=hb' h4
      refine⟨fun j c' hj hc'=>?_,fun j x y hj hx hy=>?_⟩
      ·by_cases e:j=m
       ·subst e;rw [hc] at hc';cases hc';exact⟨hcc,q1,q2⟩
       ·exact hm.1 j c' (by omega) hc'
      ·by_cases e:j+1=m
       ·subst e
        rw [hc] at hy;cases hy
        exact hasc x (by omega) (by simpa using hx)
       ·exact hm.2 j x y (by omega) hx hy
   ·obtain⟨j,hj⟩:=List.getElem?_of_mem hc
    exact h.1 j c (List.getElem?_eq_some_iff.1 hj).1 hj
   ·exact⟨b1,b2,b3,b4,b5,b6,h.1,h.2⟩
  ·intro _ hz'
   refine hY (fun j y hj hy=>?_)
   by_cases e:j=i
   ·subst e;rw [hz] at hy;cases hy;exact hz'
   ·exact hall j y (by omega) hy
 ·cases hb:decide ((s.Zones.length:Int)≤64)
  ·exact hF
  ·exact hT (by simp at hb;omega) h
def Q57 (s:ApiSite) (i:Nat) (d:Int):Prop:=∃x y,s.Shelves[i]?=some x∧0≤nbr s.Floor x.Cell d∧0≤shAt s.Shelves (nbr s.Floor x.Cell d)∧shAt s.Shelves (nbr s.Floor x.Cell d)<i∧idx s.Shelves (shAt s.Shelves (nbr s.Floor x.Cell d))=some y∧apB s.Aparts x.Class y.Class=true
theorem Q90 (l:List ApiShelf) (c:Int):-1≤shAt l c∧shAt l c<l.length:=Q7k
theorem Q39 {s:ApiSite} (k:Qz s) (hf:RF s.Floor) {post:Int→Prop} (hF:∀i:Nat,i<s.Shelves.length→post (i:Int)) (hT:(∀(i:Nat) (d:Int),0≤d→d<4→¬Q57 s i d)→post (-1)):KY s post:=by
 unfold KY
 refine Jn.mk (fun _=>∀(i:Nat) (d:Int),0≤d→d<4→¬Q57 s i d) (Loop.each s.Shelves k.Shelves.1 (fun i=>∀(j:Nat) (d:Int),j<i→0≤d→d<4→¬Q57 s j d) (fun j d h=>by omega) (fun i x hx hidx hlt hall Y hY=>Ite.lt hlt ?_)
  (fun h=>Ite.nlt (by omega) (fun i d h0 h1 hb=>by
   obtain⟨x,y,hx,_⟩:=hb
   exact h i d (List.getElem?_eq_some_iff.1 hx).1 h0 h1 ⟨x,y,hx,‹_›⟩))) (fun _ h=>hT h)
 refine Jn.mk (fun _=>∀d:Int,0≤d→d<4→¬Q57 s i d) (Jn.mk (fun _=>∀d:Int,0≤d→d<4→¬Q57 s i d) (Loop.upto 4 (fun n=>∀d:Int,0≤d→d<n→¬Q57 s i d) (fun d h0 h1=>by omega) (fun n hn hd Y2 hY2=>Ite.lt (by omega) ⟨x,hidx,YH hf (Yn k.Shelves.1 ?_)⟩) (fun h=>Ite.nlt (by omega) h)) (fun _ h=>h)) (fun _ h=>hY (fun j d hj h0 h1=>?_))
 ·have hb:=Q90 s.Shelves (nbr s.Floor x.Cell n)
  refine Jn.mk (fun b=>b=false→¬Q57 s i n) (Ite.mk (fun h1=>Ite.mk (fun h2=>Ite.mk (fun h3=>?_) (fun h3 _=>?_)) (fun h2 _=>?_)) (fun h1 _=>?_)) (fun b hb'=>Ite.mk (fun _=>hF i (by omega)) (fun h4=>?_))
  ·simp at h1 h2 h3
   have e:imax (shAt s.Shelves (nbr s.Floor x.Cell n)) 0=shAt s.Shelves (nbr s.Floor x.Cell n):=by rw [imax];split <;> omega
   rw [e]
   have hy:=Yf (xs:=s.Shelves) h2 (by omega)
   refine⟨_,hy,Q15 k.Aparts.1 (fun h=>?_)⟩
   rintro⟨x',y',hx',_,_,_,hy',hap⟩
   rw [hx] at hx';cases hx'
   rw [hy] at hy';cases hy'
   rw [h] at hap;cases hap
  ·simp at h3
   rintro⟨x',y',hx',_,_,h5,_⟩
   rw [hx] at hx';cases hx'
   omega
  ·simp at h2
   rintro⟨x',y',hx',_,h5,_⟩
   rw [hx] at hx';cases hx'
   omega
  ·simp at h1
   rintro⟨x',y',hx',h5,_⟩
   rw [hx] at hx';cases hx'
   omega
  ·have:=hY2 (fun d h0 h1=>by
    by_cases e:d=n
    ·subst e;exact hb' h4
    ·exact hd d h0 (by omega))
   rw [Qy (by omega) (by omega)];simpa using this
 ·by_cases e:j=i
  ·subst e;exact h d h0 h1
  ·exact hall j d (by omega) h0 h1
structure ZH (s:ApiSite):Prop where
 fl:RF s.Floor
 z64:s.Zones.length≤64
 zone:∀(i:Nat) z,s.Zones[i]?=some z→Q4c s (s.Zones.take i) z
 sh3:s.Shelves.length≤3000
 r2:s.Robots.length≤200
 ap:∀(i:Nat) x,s.Aparts[i]?=some x→1≤x.A.size∧1≤x.B.size∧apB (s.Aparts.take i) x.A x.B=false
 sh:∀(i:Nat) x,s.Shelves[i]?=some x→isC s.Floor x.Cell=true∧Q1o (kd s.Floor x.Cell)=true∧shAt (s.Shelves.take i) x.Cell<0
 rb:∀(i:Nat) x,s.Robots[i]?=some x→isC s.Floor x.Cell=true∧0≤x.Charge∧x.Charge≤1000000∧kd s.Floor x.Cell≠0∧rbAt (s.Robots.take i) x.Cell=false
 room:∀z,z∈s.Zones→z.Keep≤(z.Cells.countP (Zh s):Nat)
 apart:∀(i:Nat) (d:Int),0≤d→d<4→¬Q57 s i d
 charger:s.Floor.Kind.contains 3=true
theorem ZH.zm {s:ApiSite} (h:ZH s) {z:ApiZone} (hz:z∈s.Zones):∃i:Nat,Q4c s (s.Zones.take i) z:=by
 obtain⟨i,hi⟩:=List.getElem?_of_mem hz
 exact⟨i,h.zone i z hi⟩
theorem ZH.rs {s:ApiSite} (h:ZH s):RS s where
 fl:=h.fl
 asc z hz:=(h.zm hz).elim fun _ q=>q.ascL
 zc z hz c hc:=(h.zm hz).elim fun _ q=>(q.cell c hc).1
 sp z hz:=(h.zm hz).elim fun _ q=>q.sp
theorem Q4d {s:ApiSite} (k:Qz s) {post:Bool→Prop} (hF:post false) (hT:ZH s→post true):Xk s post:=by
 unfold Xk
 refine Jn.mk (fun b=>b=false→RF s.Floor∧s.Zones.length≤64∧(∀(i:Nat) z,s.Zones[i]?=some z→Q4c s (s.Zones.take i) z)∧s.Shelves.length≤3000∧s.Robots.length≤200)
  (Q47 (Ite.f rfl (fun h=>by cases h)) (fun hf=>Ite.t rfl (Q17 k hf (Ite.f rfl (fun h=>by cases h)) (fun z1 z2=>Ite.t rfl (Ite.mk (fun _ h=>by cases h) (fun h1 h2=>⟨hf,z1,z2,by simp at h1;omega,by simp at h2;omega⟩)))))) (fun b hb=>Ite.mk (fun _=>hF) (fun hb'=>?_))
 obtain⟨hf,z1,z2,l1,l2⟩:=hb hb'
 refine Jn.mk (fun _=>∀(i:Nat) x,s.Aparts[i]?=some x→1≤x.A.size∧1≤x.B.size∧apB (s.Aparts.take i) x.A x.B=false) (Loop.each s.Aparts k.Aparts.1 (fun i=>∀(j:Nat) x,j<i→s.Aparts[j]?=some x→1≤x.A.size∧1≤x.B.size∧apB (s.Aparts.take j) x.A x.B=false) (fun j z h=>by omega) (fun i x hx hidx hlt hall Y hY=>Ite.lt hlt ⟨x,hidx,?_⟩) (fun h=>Ite.nlt (by omega) (fun i z hz=>h i z (List.getElem?_eq_some_iff.1 hz).1 hz))) (fun _ hap=>?_)
 ·have kx:=k.Aparts.2 x (List.mem_of_getElem? hx)
  refine Jn.mk (fun b=>b=false→1≤x.A.size∧1≤x.B.size∧apB (s.Aparts.take i) x.A x.B=false) (YA kx.A (Ite.f rfl (fun h=>by cases h)) (fun a1 a2=>Ite.t rfl (YA kx.B (Ite.f rfl (fun h=>by cases h)) (fun b1 b2=>Ite.t rfl ⟨⟨by omega,by omega,by omega⟩,?_⟩)))) (fun b hb=>Ite.mk (fun _=>hF) (fun hb'=>hY (fun j y hj hy=>?_)))
  ·rw [sub0];exact Q15 (Nat.le_trans (by simp;omega) k.Aparts.1) (fun h=>⟨a1,b1,h⟩)
  ·by_cases e:j=i
   ·subst e;rw [hx] at hy;cases hy;exact hb hb'
   ·exact hall j y (by omega) hy
 refine Jn.mk (fun _=>∀(i:Nat) x,s.Shelves[i]?=some x→isC s.Floor x.Cell=true∧Q1o (kd s.Floor x.Cell)=true∧shAt (s.Shelves.take i) x.Cell<0) (Loop.each s.Shelves k.Shelves.1 (fun i=>∀(j:Nat) x,j<i→s.Shelves[j]?=some x→isC s.Floor x.Cell=true∧Q1o (kd s.Floor x.Cell)=true∧shAt (s.Shelves.take j) x.Cell<0) (fun j z h=>by omega) (fun i x hx hidx hlt hall Y hY=>Ite.lt hlt ⟨x,hidx,?_⟩) (fun h=>Ite.nlt (by omega) (fun i z hz=>h i z (List.getElem?_eq_some_iff.1 hz).1 hz))) (fun _ hsh=>?_)
 ·have kx:=k.Shelves.2 x (List.mem_of_getElem? hx)
  refine Jn.mk (fun b=>b=false→isC s.Floor x.Cell=true) (Gj hf (Ite.mk (fun h1=>Ite.mk (fun _ _=>h1) (fun _=>YA kx.Class (fun h=>by cases h) (fun _ _ _=>h1))) (fun _ h=>by cases h))) (fun b hb=>Ite.mk (fun _=>hF) (fun hb'=>?_))
  have hc:=hb hb'
  refine Jn.mk (fun b=>b=false→Q1o (kd s.Floor x.Cell)=true∧shAt (s.Shelves.take i) x.Cell<0) ⟨_,Wl hc,Q0h (Ite.mk (fun h1=>⟨⟨by omega,by omega,by omega⟩,?_⟩) (fun h1 h=>by cases h))⟩ (fun b hb=>Ite.mk (fun _=>hF) (fun hb'=>hY (fun j y hj hy=>?_)))
  ·rw [sub0];exact Yn (Nat.le_trans (by simp;omega) k.Shelves.1) (fun h=>⟨h1,by simpa using h⟩)
  ·by_cases e:j=i
   ·subst e;rw [hx] at hy;cases hy;exact⟨hc,hb hb'⟩
   ·exact hall j y (by omega) hy
 refine Jn.mk (fun _=>∀(i:Nat) x,s.Robots[i]?=some x→isC s.Floor x.Cell=true∧0≤x.Charge∧x.Charge≤1000000∧kd s.Floor x.Cell≠0∧rbAt (s.Robots.take i) x.Cell=false) (Loop.each s.Robots k.Robots.1 (fun i=>∀(j:Nat) x,j<i→s.Robots[j]?=some x→isC s.Floor x.Cell=true∧0≤x.Charge∧x.Charge≤1000000∧kd s.Floor x.Cell≠0∧rbAt (s.Robots.take j) x.Cell=false) (fun j z h=>by omega) (fun i x hx hidx hlt hall Y hY=>Ite.lt hlt ⟨x,hidx,?_⟩) (fun h=>Ite.nlt (by omega) (fun i z hz=>h i z (List.getElem?_eq_some_iff.1 hz).1 hz))) (fun _ hrb=>?_)
 ·refine Jn.mk (fun b=>b=false→isC s.Floor x.Cell=true∧0≤x.Charge∧x.Charge≤1000000) (Gj hf (Ite.mk (fun h1=>Ite.mk (fun _ h=>by cases h) (fun h2 h3=>⟨h1,by simpa using h2,by simpa using h3⟩)) (fun _ h=>by cases h))) (fun b hb=>Ite.mk (fun _=>hF) (fun hb'=>?_))
  obtain⟨hc,c1,c2⟩:=hb hb'
  refine Jn.mk (fun b=>b=false→kd s.Floor x.Cell≠0∧rbAt (s.Robots.take i) x.Cell=false) ⟨_,Wl hc,Ite.mk (fun h1 h=>by cases h) (fun h1=>⟨⟨by omega,by omega,by omega⟩,?_⟩)⟩ (fun b hb=>Ite.mk (fun _=>hF) (fun hb'=>hY (fun j y hj hy=>?_)))
  ·rw [sub0];exact Q2I (Nat.le_trans (by simp;omega) k.Robots.1) (fun h=>⟨by simpa using h1,h⟩)
  ·by_cases e:j=i
   ·subst e;rw [hx] at hy;cases hy;exact⟨hc,c1,c2,hb hb'⟩
   ·exact hall j y (by omega) hy
 refine Jn.mk (fun _=>∀(i:Nat) z,s.Zones[i]?=some z→z.Keep≤(z.Cells.countP (Zh s):Nat)) (Loop.each s.Zones k.Zones.1 (fun i=>∀(j:Nat) z,j<i→s.Zones[j]?=some z→z.Keep≤(z.Cells.countP (Zh s):Nat)) (fun j z h=>by omega) (fun i x hx hidx hlt hall Y hY=>Ite.lt hlt ⟨x,hidx,?_⟩) (fun h=>Ite.nlt (by omega) (fun i z hz=>h i z (List.getElem?_eq_some_iff.1 hz).1 hz))) (fun _ hro=>?_)
 ·refine Q35 k (k.Zones.2 x (List.mem_of_getElem? hx)).Cells.1 (fun c hc=>((z2 i x hx).cell c hc).1) (Ite.mk (fun _=>hF) (fun h1=>hY (fun j y hj hy=>?_)))
  by_cases e:j=i
  ·subst e;rw [hx] at hy;cases hy;simpa using h1
  ·exact hall j y (by omega) hy
 refine Jn.mk' (Q39 k hf (fun i hi=>Ite.f (by simp) hF) (fun hbs=>Ite.t (by decide) (Q2s k.Floor.Kind.1 ?_)))
 cases hch:s.Floor.Kind.contains 3
 ·exact hF
 ·exact hT ⟨hf,z1,z2,l1,l2,hap,hsh,hrb,fun z hz=>(List.getElem?_of_mem hz).elim fun i hi=>hro i z hi,hbs,hch⟩
theorem Q5L {f:Q6} {n:Int} {post:Bool→Prop} (hF:post false) (hT:f.Kind.length≤n→f.Out.length≤n→post true):XU f n post:=by
 unfold XU
 refine Jn.mk' (Ite.mk (fun h1=>?_) (fun h1=>hF))
 simp at h1
 cases hb:decide ((f.Out.length:Int)≤n)
 ·exact hF
 ·exact hT h1 (by simpa using hb)
structure FewS (s:ApiSite) (cells most:Int):Prop where
 kind:s.Floor.Kind.length≤cells
 zones:s.Zones.length≤most
 aparts:s.Aparts.length≤most
 shelves:s.Shelves.length≤most
 robots:s.Robots.length≤most
 zone:∀z,z∈s.Zones→z.Cells.length≤cells∧z.Shut.length≤20
theorem Q5F {s:ApiSite} (k:Qz s) {cells most:Int} (hm:0≤most∧most≤1000000) {post:Bool→Prop} (hF:post false) (hT:FewS s cells most→post true):XY s cells most post:=by
 unfold XY
 refine Q8E s.Zones k.Zones.1 (T:=fun s3 q=>Jn (fun (J10:Bool→Prop)=>∃x11,idx s.Zones s3=some x11∧Ite (decide ((x11.Cells.length:Int)>cells)) (J10 true) (Ite (decide ((x11.Shut.length:Int)>20)) (J10 true) (J10 (decide ((x11.Name.size:Int)>40))))) q) (fun z=>z.Cells.length≤cells∧z.Shut.length≤20) (fun i x hx q q1 q2=>Jn.ex x hx (Jor3 ?_)) hF (fun hz=>?_)
 ·cases hb:(decide ((x.Cells.length:Int)>cells)||decide ((x.Shut.length:Int)>20)||decide ((x.Name.size:Int)>40))
  ·simp only [Bool.or_eq_false_iff,decide_eq_false_iff_not] at hb
   exact q2 ⟨by omega,by omega⟩
  ·exact q1
 refine Q8E s.Aparts k.Aparts.1 (T:=fun s3 q=>Jn (fun (J10:Bool→Prop)=>∃x11,idx s.Aparts s3=some x11∧Ite (decide ((x11.A.size:Int)>40)) (J10 true) (J10 (decide ((x11.B.size:Int)>40)))) q) (fun z=>True) (fun i x hx q q1 q2=>Jn.ex x hx (Jor2 ?_)) hF (fun _=>?_)
 ·cases hb:(decide ((x.A.size:Int)>40)||decide ((x.B.size:Int)>40))
  ·exact q2 trivial
  ·exact q1
 refine Q8E s.Shelves k.Shelves.1 (T:=fun s3 q=>∃x11,idx s.Shelves s3=some x11∧q (decide ((x11.Class.size:Int)>40))) (fun z=>True) (fun i x hx q q1 q2=>⟨x,hx,?_⟩) hF (fun _=>?_)
 ·cases hb:(decide ((x.Class.size:Int)>40))
  ·exact q2 trivial
  ·exact q1
 refine Jn.mk' (Q5L (Ite.f rfl hF) (fun f1 f2=>Ite.t rfl (Ite.mk (fun h1=>Ite.mk (fun h2=>Ite.mk (fun h3=>?_) (fun _=>hF)) (fun _=>hF)) (fun _=>hF))))
 simp at h1 h2 h3
 cases hb:decide ((s.Robots.length:Int)≤most)
 ·exact hF
 ·exact hT ⟨f1,h1,h2,h3,by simpa using hb,hz h1⟩
end Go.Taq
/- The mathematics, part QA: loops whose state has a counter and more; ranges over lists; lists of places. -/
set_option linter.unusedVariables false
set_option linter.unusedSimpArgs false
namespace Go.Taq
open Go
theorem Wg {α τ:Type} {xs:List α} (hm:xs.length≤maxLen) (ix:τ→Int) (I:Nat→τ→Prop) {t0:τ} (hi0:ix t0=0) (h0:I 0 t0) {R:α→τ→(τ→Prop)→Prop} {E:τ→Prop}
  (hs:∀(i:Nat) x t,xs[i]?=some x→ix t=(i:Int)→I i t→R x t (fun t'=>ix t'=w64 ((i:Int)+1)∧I (i+1) t'))
  (he:∀t,I xs.length t→E t):
  Loop (fun t Y=>Ite (decide (ix t<(xs.length:Int))) (∃x,idx xs (ix t)=some x∧R x t Y) (E t)) t0:=by
 refine Loop.inv xs.length (fun i t=>ix t=(i:Int)∧I i t) ⟨by simpa using hi0,h0⟩ (fun i t hi h=>?_) (fun t h=>?_)
 ·have hx:xs[i]?=some (xs[i]'hi):=List.getElem?_eq_getElem hi
  refine Ite.lt (by omega) ⟨_,by rw [h.1];exact Qg rfl hx,?_⟩
  have:=hs i _ t hx h.1 h.2
  rw [XJ hi hm] at this;exact this
 ·exact Ite.nlt (by omega) (he t h.2)
theorem ZP {α τ:Type} {xs:List α} (hm:xs.length≤maxLen) (ix:τ→Int) (I:Nat→τ→Prop) {t0:τ} (hi0:ix t0=0) (h0:I 0 t0) {R:τ→(τ→Prop)→Prop} {E:τ→Prop}
  (hs:∀(i:Nat) x t,xs[i]?=some x→ix t=(i:Int)→I i t→R t (fun t'=>ix t'=w64 ((i:Int)+1)∧I (i+1) t'))
  (he:∀t,I xs.length t→E t):
  Loop (fun t Y=>Ite (decide (ix t<(xs.length:Int))) (R t Y) (E t)) t0:=by
 refine Loop.inv xs.length (fun i t=>ix t=(i:Int)∧I i t) ⟨by simpa using hi0,h0⟩ (fun i t hi h=>?_) (fun t h=>?_)
 ·have hx:xs[i]?=some (xs[i]'hi):=List.getElem?_eq_getElem hi
  refine Ite.lt (by omega) ?_
  have:=hs i _ t hx h.1 h.2
  rw [XJ hi hm] at this;exact this
 ·exact Ite.nlt (by omega) (he t h.2)
theorem Each.inv {α σ:Type} {body:α→σ→(σ→Prop)→Prop} {k:σ→Prop}:∀(ys:List α) (I:Nat→σ→Prop) {s0:σ},I 0 s0→(∀(i:Nat) x s,ys[i]?=some x→I i s→∀Y:σ→Prop,(∀s',I (i+1) s'→Y s')→body x s Y)→(∀s,I ys.length s→k s)→Each body k ys s0
 | [],I,s0,h0,_,he=>he _ h0
 | y :: ys,I,s0,h0,hs,he=>hs 0 y s0 rfl h0 _ fun s' h'=>Each.inv ys (fun i=>I (i+1)) h' (fun i x s hx hI Y hY=>hs (i+1) x s (by simpa using hx) hI Y hY) (fun s h=>he s h)
theorem Q21 {τ:Type} (n:Nat) (ix:τ→Int) (I:Nat→τ→Prop) {t0:τ} (hn:n≤maxLen) (hi0:ix t0=0) (h0:I 0 t0) {R:τ→(τ→Prop)→Prop} {E:τ→Prop}
  (hs:∀(i:Nat) t,i<n→ix t=(i:Int)→I i t→R t (fun t'=>ix t'=w64 ((i:Int)+1)∧I (i+1) t'))
  (he:∀t,I n t→E t):
  Loop (fun t Y=>Ite (decide (ix t<(n:Int))) (R t Y) (E t)) t0:=by
 refine Loop.inv n (fun i t=>ix t=(i:Int)∧I i t) ⟨by simpa using hi0,h0⟩ (fun i t hi h=>?_) (fun t h=>?_)
 ·refine Ite.lt (by omega) ?_
  have:=hs i t hi h.1 h.2
  rw [XJ hi hn] at this;exact this
 ·exact Ite.nlt (by omega) (he t h.2)
def fnat (p:Nat→Bool) (n:Nat):Int:=match (List.range n).find? p with | some i=>i | none=>-1
theorem Q5o {p:Nat→Bool} {n i:Nat} (hi:i<n) (hp:p i=true) (hb:∀j,j<i→p j=false):fnat p n=i:=by
 unfold fnat
 have:(List.range n).find? p=some i:=by
  rw [List.find?_eq_some_iff_getElem]
  refine⟨hp,i,by simpa using hi,by simp,fun j hj=>?_⟩
  simp [hb j hj]
 rw [this]
theorem Q2y {p:Nat→Bool} {n:Nat} (h:∀i,i<n→p i=false):fnat p n=-1:=by
 unfold fnat
 have:(List.range n).find? p=none:=by
  rw [List.find?_eq_none]
  intro x hx;simp at hx;simp [h x hx]
 rw [this]
theorem YP (p:Nat→Bool) (n:Nat):(∃i:Nat,i<n∧fnat p n=i∧p i=true∧∀j,j<i→p j=false)∨(fnat p n=-1∧∀i,i<n→p i=false):=by
 cases h:(List.range n).find? p with
 | none=>
  refine .inr ?_
  have h':∀i,i<n→p i=false:=fun i hi=>by
   have:=List.find?_eq_none.1 h i (by simpa using hi);simpa using this
  exact⟨Q2y h',h'⟩
 | some i=>
  refine .inl ⟨i,?_⟩
  have hp:p i=true:=List.find?_some h
  have hlt:i<n:=by have:=List.mem_of_find?_eq_some h;simpa using this
  have hb':∀j,j<i→p j=false:=by
   rw [List.find?_eq_some_iff_getElem] at h
   obtain⟨_,k,hk,hki,hall⟩:=h
   simp at hki;subst hki
   intro j hj;have:=hall j hj;simpa using this
  exact⟨hlt,Q5o hlt hp hb',hp,hb'⟩
theorem Wx {α:Type} (p:α→Bool) (xs:List α):(∃(i:Nat) (x:α),xs[i]?=some x∧fidx p xs=i∧p x=true∧∀(j:Nat) (y:α),j<i→xs[j]?=some y→p y=false)∨(fidx p xs=-1∧∀x,x∈xs→p x=false):=by
 unfold fidx
 cases h:xs.findIdx? p with
 | none=>
  refine .inr ⟨rfl,fun x hx=>?_⟩
  rw [List.findIdx?_eq_none_iff] at h;exact h x hx
 | some i=>
  obtain⟨hlt,hp,hb⟩:=List.findIdx?_eq_some_iff_getElem.1 h
  refine .inl ⟨i,xs[i],List.getElem?_eq_getElem hlt,rfl,hp,fun j y hj hy=>?_⟩
  have:=hb j hj
  have hyj:=(List.getElem?_eq_some_iff.1 hy).2
  rw [←hyj];simpa using this
theorem QY {α:Type} {xs:List α} {i:Nat} {x:α} (h:xs[i]?=some x):xs.take (i+1)=xs.take i++[x]:=by
 rw [List.take_add_one,h];rfl
theorem Q7F {α:Type} {xs:List α} (hm:xs.length≤maxLen) (z0:α) (p:α→Bool) {T:α→(Bool→Prop)→Prop} (hT:∀x,x∈xs→∀{q:Bool→Prop},q (p x)→T x q) {post:List α→Prop} (hp:post (xs.filter fun x=>!p x)):
  Ite (fidx p xs == (-1)) (post xs) (Jn (fun (J:(List α×Int)→Prop)=>Loop (fun (s:List α×Int×Int) Y=>Ite (decide (s.2.2<(s.1.length:Int)))
   (∃x,idx s.1 s.2.2=some x∧T x (fun b=>Jn (fun (J27:(List α×Int)→Prop)=>Ite (!b) (∃y,idx s.1 s.2.1=some y∧J27 ((s.1.set (Int.toNat s.2.1) x),w64 (s.2.1+1))) (J27 (s.1,s.2.1))) (fun (x26:List α×Int)=>Y (x26.1,x26.2,w64 (s.2.2+1)))))
   (J (s.1,s.2.1))) (xs,fidx p xs,w64 (fidx p xs+1)))
   (fun (x:List α×Int)=>(0≤x.2∧x.2≤(x.1.length:Int)∧(x.1.length:Int)≤(x.1.length:Int))∧((Int.toNat x.2)+(Int.toNat ((x.1.length:Int)-x.2))≤x.1.length) ∧
    (0≤(0:Int)∧(0:Int)≤x.2∧x.2≤((x.1.take (Int.toNat x.2)++(List.replicate (Int.toNat ((x.1.length:Int)-x.2)) z0++x.1.drop ((Int.toNat x.2)+(Int.toNat ((x.1.length:Int)-x.2))))).length:Int)) ∧
    post (sub (x.1.take (Int.toNat x.2)++(List.replicate (Int.toNat ((x.1.length:Int)-x.2)) z0++x.1.drop ((Int.toNat x.2)+(Int.toNat ((x.1.length:Int)-x.2))))) 0 x.2))):=by
 rcases Wx p xs with ⟨i0,x0,hx0,e,hp0,hb0⟩ | ⟨e,hb⟩
 ·rw [e]
  have hi0:=(List.getElem?_eq_some_iff.1 hx0).1
  refine Ite.f (beq_eq_false_iff_ne.2 (by omega)) ?_
  rw [XJ hi0 hm]
  have hfirst:(xs.take (i0+1)).filter (fun x=>!p x)=xs.take i0:=by
   rw [QY hx0,List.filter_append]
   have h1:(xs.take i0).filter (fun x=>!p x)=xs.take i0:=by
    rw [List.filter_eq_self]
    intro y hy
    obtain⟨j,hj⟩:=List.getElem?_of_mem hy
    have hlt:j<i0:=by have:=(List.getElem?_eq_some_iff.1 hj).1;simp at this;omega
    rw [List.getElem?_take,if_pos hlt] at hj
    simp [hb0 j y hlt hj]
   rw [h1];simp [List.filter_cons,hp0]
  refine Jn.mk (fun x:List α×Int=>x.1.length=xs.length∧∃i:Nat,x.2=(i:Int)∧i≤xs.length∧x.1.take i=xs.filter fun x=>!p x)
   (Loop.mk (fun t:List α×Int×Int=>t.1.length=xs.length∧∃i j:Nat,t.2.1=(i:Int)∧t.2.2=(j:Int)∧i<j∧j≤xs.length∧t.1.take i=(xs.take j).filter (fun x=>!p x)∧∀q,j≤q→t.1[q]?=xs[q]?) (fun t=>xs.length-t.2.2.toNat) ⟨rfl,i0,i0+1,rfl,rfl,by omega,by omega,hfirst.symm,fun _ _=>rfl⟩ ?_) ?_
  ·rintro⟨l,ti,tj⟩ ⟨hl,i,j,h1,h2,hij,hj,htk,hrest⟩
   simp only at hl h1 h2 htk hrest
   subst h1;subst h2
   refine Ite.mk (fun h=>?_) (fun h=>?_)
   ·simp [hl] at h
    have hx:xs[j]?=some (xs[j]'h):=List.getElem?_eq_getElem h
    refine⟨xs[j]'h,by rw [Q7H,hrest j (Nat.le_refl _),hx],hT _ (List.getElem_mem h) ?_⟩
    have hli:l[i]?=some (l[i]'(by omega)):=List.getElem?_eq_getElem (by omega)
    refine Jn.mk (fun x:List α×Int=>x.1.length=xs.length∧∃i':Nat,x.2=(i':Int)∧i'<j+1∧x.1.take i'=(xs.take (j+1)).filter (fun x=>!p x)∧∀q,j+1≤q→x.1[q]?=xs[q]?) (Ite.mk (fun hd=>⟨l[i]'(by omega),Qg rfl hli,?_⟩) (fun hd=>?_)) ?_
    ·refine⟨by simp [hl],i+1,by simp only;rw [XJ (by omega:i<xs.length) hm],by omega,?_,fun q hq=>?_⟩
     ·have:(i:Int).toNat=i:=by omega
      simp only [this]
      rw [QY hx,List.filter_append,←htk]
      have hs:(l.set i (xs[j]'h))[i]?=some (xs[j]'h):=by rw [List.getElem?_set_self (by omega)]
      rw [QY hs,List.take_set_of_le (Nat.le_refl _)]
      simp [List.filter_cons,hd]
     ·have:(i:Int).toNat=i:=by omega
      simp only [this]
      rw [List.getElem?_set_ne (by omega)]
      exact hrest q (by omega)
    ·refine⟨hl,i,rfl,by omega,?_,fun q hq=>hrest q (by omega)⟩
     simp only
     rw [QY hx,List.filter_append,←htk]
     simp at hd
     simp [List.filter_cons,hd]
    ·rintro⟨l',ti'⟩ ⟨hl',i',h1',hij',htk',hrest'⟩
     simp only at hl' h1' htk' hrest' ⊢
     subst h1'
     refine⟨⟨hl',i',j+1,rfl,XJ (by omega:j<xs.length) hm,by omega,by omega,htk',hrest'⟩,?_⟩
     rw [XJ (by omega:j<xs.length) hm]
     have e1:((j+1:Nat):Int).toNat=j+1:=by omega
     have e2:((j:Nat):Int).toNat=j:=by omega
     rw [e1,e2];omega
   ·simp [hl] at h
    have:j=xs.length:=by omega
    subst this
    exact⟨hl,i,rfl,by omega,by rw [List.take_length] at htk;exact htk⟩
  ·rintro⟨l,ti⟩ ⟨hl,i,h1,hi,htk⟩
   simp only at hl h1 htk ⊢
   subst h1
   have e1:(i:Int).toNat=i:=by omega
   have e2:((l.length:Int)-(i:Int)).toNat=l.length-i:=by omega
   rw [e1,e2]
   refine⟨⟨by omega,by omega,by omega⟩,by omega,⟨by omega,by omega,by simp;omega⟩,?_⟩
   rw [sub0,List.take_append_of_le_length (by simp;omega),List.take_take,Nat.min_self,htk]
   exact hp
 ·rw [e]
  refine Ite.t (by decide) ?_
  have:xs.filter (fun x=>!p x)=xs:=by
   rw [List.filter_eq_self];intro x hx;simp [hb x hx]
  rw [this] at hp;exact hp
end Go.Taq
/- The mathematics, part NA: right floors and right sites, as the program sees them (floor.Right, survey.Right). -/
set_option linter.unusedVariables false
namespace Go.Taq
open Go
theorem Q8Y {x y k:Int}:imax x y>k↔x>k∨y>k:=by unfold imax;split <;> omega
theorem Q2T {m:Q7} {c:Int} {post:Int×Bool→Prop} (hp:post (if isC m.site.Floor c=true then (kd m.site.Floor c,true) else (0,false))):QP m c post:=by
 unfold QP
 refine Jor2 (Ite.mk (fun h=>?_) (fun h=>?_))
 ·have:isC m.site.Floor c=false:=by rw [Q5v];simp at h;omega
  rw [if_neg (by simp [this])] at hp;exact hp
 ·have:isC m.site.Floor c=true:=by rw [XT];simp at h;omega
  rw [if_pos this] at hp
  exact⟨_,Wl this,hp⟩
structure MInv (s:ApiSite) (nz na ns nr:Nat) (m:Q7):Prop where
 fl:m.site.Floor=s.Floor
 zs:m.site.Zones=s.Zones.take nz
 aps:m.site.Aparts=s.Aparts.take na
 sh:m.site.Shelves=s.Shelves.take ns
 rs:m.site.Robots=s.Robots.take nr
 names:∀n,(lk m.names n).isSome=(s.Zones.take nz).any fun z=>seq z.Name n
 zoned:∀c,(lk m.zoned c).getD false=zAt (s.Zones.take nz) c
 shelf:∀c,lk m.shelf c=if 0≤shAt (s.Shelves.take ns) c then some (shAt (s.Shelves.take ns) c) else none
 robot:∀c,(lk m.robot c).getD false=rbAt (s.Robots.take nr) c
theorem Q8o {α:Type} (l:List α) (p q:α→Bool):(l.any fun x=>p x||q x)=(l.any p||l.any q):=by
 induction l with
 | nil=>rfl
 | cons x l ih=>simp only [List.any_cons,ih];cases p x <;> cases q x <;> simp
theorem Q80 (l:List ApiStart) (x:ApiStart) (c:Int):rbAt (l++[x]) c=(rbAt l c||x.Cell == c):=by simp [rbAt]
end Go.Taq
/- The mathematics, part NB: survey.Right. -/
set_option linter.unusedVariables false
namespace Go.Taq
open Go
section
abbrev T17 (α:Type):=Int×Int×Int×List Int×List Int×List ApiZone×List ApiApart×List ApiShelf×List ApiStart×List (Int×Int)×List (Int×Bool)×List (Int×Bool)×List (ByteArray×Int)×List (Int×Bool)×List Int×List Int×α
def ofT {α:Type} (t:T17 α):Q7:={site:={Floor:={W:=t.1,H:=t.2.1,D:=t.2.2.1,Kind:=t.2.2.2.1,Out:=t.2.2.2.2.1},Zones:=t.2.2.2.2.2.1,Aparts:=t.2.2.2.2.2.2.1,Shelves:=t.2.2.2.2.2.2.2.1,Robots:=t.2.2.2.2.2.2.2.2.1},shelf:=t.2.2.2.2.2.2.2.2.2.1,robot:=t.2.2.2.2.2.2.2.2.2.2.1,zoned:=t.2.2.2.2.2.2.2.2.2.2.2.1,names:=t.2.2.2.2.2.2.2.2.2.2.2.2.1,oneways:=t.2.2.2.2.2.2.2.2.2.2.2.2.2.1,shelves:=t.2.2.2.2.2.2.2.2.2.2.2.2.2.2.1,zones:=t.2.2.2.2.2.2.2.2.2.2.2.2.2.2.2.1}
abbrev T16:=Int×Int×Int×List Int×List Int×List ApiZone×List ApiApart×List ApiShelf×List ApiStart×List (Int×Int)×List (Int×Bool)×List (Int×Bool)×List (ByteArray×Int)×List (Int×Bool)×List Int×List Int
def of16 (t:T16):Q7:={site:={Floor:={W:=t.1,H:=t.2.1,D:=t.2.2.1,Kind:=t.2.2.2.1,Out:=t.2.2.2.2.1},Zones:=t.2.2.2.2.2.1,Aparts:=t.2.2.2.2.2.2.1,Shelves:=t.2.2.2.2.2.2.2.1,Robots:=t.2.2.2.2.2.2.2.2.1},shelf:=t.2.2.2.2.2.2.2.2.2.1,robot:=t.2.2.2.2.2.2.2.2.2.2.1,zoned:=t.2.2.2.2.2.2.2.2.2.2.2.1,names:=t.2.2.2.2.2.2.2.2.2.2.2.2.1,oneways:=t.2.2.2.2.2.2.2.2.2.2.2.2.2.1,shelves:=t.2.2.2.2.2.2.2.2.2.2.2.2.2.2.1,zones:=t.2.2.2.2.2.2.2.2.2.2.2.2.2.2.2}
def lst {α:Type} (t:T17 α):α:=t.2.2.2.2.2.2.2.2.2.2.2.2.2.2.2.2
end
end Go.Taq
