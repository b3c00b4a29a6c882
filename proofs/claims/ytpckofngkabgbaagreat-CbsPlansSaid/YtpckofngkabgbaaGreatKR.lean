/- The mathematics, several parts in one text. -/
import Derived.Test.YtpckofngkabgbaaGreatKJ
import Derived.Test.YtpckofngkabgbaaGreatOE
import Derived.Test.YtpckofngkabgbaaGreatNG
/- Chapter 24 (cbs), part K: the layers of joint places. -/
set_option linter.unusedVariables false
set_option linter.unusedSimpArgs false
namespace Go.Taq
open Go
def arrJ (p:CbsProblem) (J:Arr4CbsPlace):Prop:=∀(i:Nat) x,p.trips[i]?=some x→(g4 J i).cell=x.To
theorem Q3q {p:CbsProblem} (h4:p.trips.length≤4) {J:Arr4CbsPlace} {post:Bool→Prop} (hp:∀b,(b=true↔arrJ p J)→post b):KB p J post:=by
 unfold KB
 refine Jn.mk (fun _=>arrJ p J) (Loop.inv p.trips.length (fun i (t:Int)=>t=(i:Int)∧∀(j:Nat) x,j<i→p.trips[j]?=some x→(g4 J j).cell=x.To) ⟨rfl,fun j x hj=>by omega⟩ (fun i t hi hI=>?_) (fun t hI=>?_)) (fun _ h=>hp true (by simp [h]))
 ·obtain⟨rfl,hI⟩:=hI
  have hx:p.trips[i]?=some (p.trips[i]'hi):=List.getElem?_eq_getElem hi
  generalize p.trips[i]'hi=x at hx
  refine Ite.lt (by omega) ⟨x,Qo rfl hx,_,Qo rfl (Q0i (by omega)),Ite.mk (fun e=>?_) (fun e=>?_)⟩
  ·have e':(g4 J i).cell≠x.To:=by simpa using e
   exact hp false ⟨fun h=>(by cases h),fun h=>absurd (h i x hx) e'⟩
  ·have e':(g4 J i).cell=x.To:=by simpa using e
   refine⟨by rw [kw1 (by omega)],fun j y hj hy=>?_⟩
   by_cases c:j=i
   ·subst c;rw [hx] at hy;cases hy;exact e'
   ·exact hI j y (by omega) hy
 ·obtain⟨rfl,hI⟩:=hI
  exact Ite.nlt (by omega) (fun i x hx=>hI i x (List.getElem?_eq_some_iff.1 hx).1 hx)
structure StJ (p:CbsProblem) (S:Arr4CbsPlace):Prop where
 b:∀(i:Nat) x,p.trips[i]?=some x→g4 S i={cell:=x.From,rest:=0,done:=false}
 u:∀i:Nat,p.trips.length≤i→i<4→g4 S i=p0K
inductive KQ (p:CbsProblem):Int→Arr4CbsPlace→List (Arr4CbsPlace×Arr4Int)→Prop
 | nil (t:Int) (J:Arr4CbsPlace):KQ p t J []
 | cons {t:Int} {J J':Arr4CbsPlace} {A:Arr4Int} {r:List (Arr4CbsPlace×Arr4Int)} (h:Gv p t J J' A) (hr:KQ p (t+1) J' r):KQ p t J ((J',A) :: r)
def Wz:Arr4CbsPlace→List (Arr4CbsPlace×Arr4Int)→Arr4CbsPlace
 | J,[]=>J
 | _,e :: r=>Wz e.1 r
def costJ (n:Nat):List (Arr4CbsPlace×Arr4Int)→Int
 | []=>0
 | e :: r=>KC e.2 n+costJ n r
structure XL (p:CbsProblem) (S:Arr4CbsPlace) (ls:List (List (Arr4CbsPlace×CbsStep))):Prop where
 z:∀l,ls[0]?=some l→(∀J o,lk l J=some o→J=S∧o.cost=0)∧lk l S≠none
 s:∀(j:Nat) l l',ls[j]?=some l→ls[j+1]?=some l'→∀T st,lk l' T=some st→∃o,lk l st.from_=some o∧Gv p (p.tick+j) st.from_ T st.acts∧st.cost=o.cost+KC st.acts p.trips.length
 c:∀(j:Nat) l l',ls[j]?=some l→ls[j+1]?=some l'→(j:Int)<p.most→∀J o,lk l J=some o→∀T A,Gv p (p.tick+j) J T A→Has l' T (o.cost+KC A p.trips.length)
theorem Z9.q {s:ApiSite} (h:RS s) {avoid:List Int} {t:Int} {x:ApiTrip} {q q':CbsPlace} {act:Int} (hq:isQ s (q.cell,q.rest)) (hs:Z9 s avoid t x q q' act):isQ s (q'.cell,q'.rest):=by
 rcases hs with ⟨_,rfl,_⟩ | ⟨_,hm⟩
 ·exact⟨hq.1,by simp,by simp⟩
 ·obtain⟨m1,_⟩:=Z0 h hq.2.1 hm
  have:=Q1H h hq (by rw [m1])
  rw [m1] at this
  exact this
section
variable {p:CbsProblem} {S:Arr4CbsPlace} {ls:List (List (Arr4CbsPlace×CbsStep))}
theorem XL.q (h:RS p.s) (hf:∀x,x∈p.trips→isC p.s.Floor x.From=true) (hS:StJ p S) (hL:XL p S ls):∀(j:Nat) l,ls[j]?=some l→∀J o,lk l J=some o →
  (∀(i:Nat) x,p.trips[i]?=some x→isQ p.s ((g4 J i).cell,(g4 J i).rest))∧(∀i:Nat,p.trips.length≤i→i<4→g4 J i=p0K)∧0≤o.cost∧o.cost≤j*p.trips.length
 | 0,l,hl,J,o,ho=>by
  obtain⟨rfl,hc⟩:=(hL.z l hl).1 J o ho
  refine⟨fun i x hx=>?_,hS.u,by omega,by omega⟩
  rw [hS.b i x hx]
  exact⟨hf x (List.mem_of_getElem? hx),by simp,by simp⟩
 | j+1,l',hl',T,st,hst=>by
  have hj:j<ls.length:=by have:=(List.getElem?_eq_some_iff.1 hl').1;omega
  have hl:ls[j]?=some (ls[j]'hj):=List.getElem?_eq_getElem hj
  obtain⟨o,ho,hJ,hc⟩:=hL.s j _ l' hl hl' T st hst
  obtain⟨g1,g2,g3,g4'⟩:=XL.q h hf hS hL j _ hl _ o ho
  have hb:=ZQ st.acts p.trips.length
  refine⟨fun i x hx=>(hJ.st i x hx).q h (g1 i x hx),hJ.un,by omega,?_⟩
  have:((j+1:Nat):Int)*(p.trips.length:Int)=j*p.trips.length+p.trips.length:=by rw [Int.natCast_add];simp [Int.add_mul]
  omega
theorem XL.pJ (h:RS p.s) (hf:∀x,x∈p.trips→isC p.s.Floor x.From=true) (h16:p.s.Floor.Kind.length≤16) (h3:p.trips.length≤3) (hS:StJ p S) (hL:XL p S ls) {j:Nat} {l:List (Arr4CbsPlace×CbsStep)} (hl:ls[j]?=some l) {J:Arr4CbsPlace} (hJ:lk l J≠none):pJ J:=by
 obtain⟨o,ho⟩:∃o,lk l J=some o:=by
  cases hx:lk l J with
  | none=>exact absurd hx hJ
  | some o=>exact⟨o,rfl⟩
 obtain⟨g1,g2,_,_⟩:=hL.q h hf hS j l hl J o ho
 have each:∀i,i<4→pO (g4 J i)∧(g4 J i).cell≤15:=fun i hi=>by
  by_cases c:i<p.trips.length
  ·have hx:p.trips[i]?=some (p.trips[i]'c):=List.getElem?_eq_getElem c
   have hq:=g1 i _ hx
   refine⟨Q4e (by omega) hq,?_⟩
   have:=hq.1
   simp only [isC,Bool.and_eq_true,decide_eq_true_eq] at this
   omega
  ·rw [g2 i (by omega) hi]
   exact⟨⟨by decide,by decide,by decide,by decide⟩,by decide⟩
 exact⟨⟨(each 0 (by decide)).1,(each 1 (by decide)).1,(each 2 (by decide)).1,(each 3 (by decide)).1⟩,(each 0 (by decide)).2,(each 1 (by decide)).2,(each 2 (by decide)).2,g2 3 h3 (by decide)⟩
theorem XL.all (hL:XL p S ls):∀(tr:List (Arr4CbsPlace×Arr4Int)) (j:Nat) (J:Arr4CbsPlace) (c:Int) l,ls[j]?=some l→Has l J c→KQ p (p.tick+j) J tr→((j+tr.length:Nat):Int)≤p.most→j+tr.length<ls.length→∃l',ls[j+tr.length]?=some l'∧Has l' (Wz J tr) (c+costJ p.trips.length tr)
 | [],j,J,c,l,hl,hH,_,_,_=>⟨l,by simpa using hl,by simpa [Wz,costJ] using hH⟩
 | (J',A) :: r,j,J,c,l,hl,hH,hc,hm,hlen=>by
  cases hc with
  | cons hs hr=>
   simp only [List.length_cons] at hm hlen ⊢
   obtain⟨o,ho,hoc⟩:=hH
   have hl':ls[j+1]?=some (ls[j+1]'(by omega)):=List.getElem?_eq_getElem _
   generalize ls[j+1]'(by omega)=l1 at hl'
   obtain⟨o',ho',hoc'⟩:=hL.c j l l1 hl hl' (by omega) J o ho J' A hs
   have hr':KQ p (p.tick+((j+1:Nat):Int)) J' r:=by rw [Int.natCast_add,←Int.add_assoc];exact hr
   obtain⟨l2,h2,h3⟩:=XL.all hL r (j+1) J' (c+KC A p.trips.length) l1 hl' ⟨o',ho',by omega⟩ hr' (by omega) (by omega)
   refine⟨l2,by rw [show j+(r.length+1)=j+1+r.length by omega];exact h2,?_⟩
   simp only [Wz,costJ]
   rw [←Int.add_assoc];exact h3
theorem XL.push (hL:XL p S ls) {k:Nat} {l nxt:List (Arr4CbsPlace×CbsStep)} (hk:ls.length=k+1) (hl:ls[k]?=some l)
  (h1:∀T st,lk nxt T=some st→∃o,lk l st.from_=some o∧Gv p (p.tick+k) st.from_ T st.acts∧st.cost=o.cost+KC st.acts p.trips.length)
  (h2:(k:Int)<p.most→∀J o,lk l J=some o→∀T A,Gv p (p.tick+k) J T A→Has nxt T (o.cost+KC A p.trips.length)):XL p S (ls++[nxt]):=by
 have low:∀(j:Nat) l1 l2,(ls++[nxt])[j]?=some l1→(ls++[nxt])[j+1]?=some l2→(ls[j]?=some l1∧ls[j+1]?=some l2)∨(j=k∧l1=l∧l2=nxt):=fun j l1 l2 a1 a2=>by
  by_cases c:j+1<ls.length
  ·rw [List.getElem?_append_left (by omega)] at a1
   rw [List.getElem?_append_left c] at a2
   exact .inl ⟨a1,a2⟩
  ·have hj:=(List.getElem?_eq_some_iff.1 a2).1
   simp at hj
   have:j=k:=by omega
   subst this
   rw [List.getElem?_append_left (by omega)] at a1
   rw [hl] at a1;cases a1
   rw [List.getElem?_append_right (by omega),show j+1-ls.length=0 by omega] at a2
   simp at a2
   exact .inr ⟨rfl,rfl,a2.symm⟩
 refine⟨fun l0 h0=>hL.z l0 (by rw [List.getElem?_append_left (by omega)] at h0;exact h0),fun j l1 l2 a1 a2 T st hst=>?_,fun j l1 l2 a1 a2 hm J o ho T A hs=>?_⟩
 ·rcases low j l1 l2 a1 a2 with ⟨b1,b2⟩ | ⟨rfl,rfl,rfl⟩
  ·exact hL.s j l1 l2 b1 b2 T st hst
  ·exact h1 T st hst
 ·rcases low j l1 l2 a1 a2 with ⟨b1,b2⟩ | ⟨rfl,rfl,rfl⟩
  ·exact hL.c j l1 l2 b1 b2 hm J o ho T A hs
  ·exact h2 hm J o ho T A hs
end
end Go.Taq
/- Chapter 24 (cbs), part L: exact. -/
set_option linter.unusedVariables false
set_option linter.unusedSimpArgs false
namespace Go.Taq
open Go
def actsJ (i:Nat) (tr:List (Arr4CbsPlace×Arr4Int)):List Int:=(tr.map (fun e=>gi e.2 i)).filter (fun a=>decide (a≥0))
theorem ZZ (i:Nat) (tr:List (Arr4CbsPlace×Arr4Int)):(actsJ i tr).length≤tr.length:=by
 have:=List.length_filter_le (fun a:Int=>decide (a≥0)) (tr.map (fun e=>gi e.2 i))
 simpa [actsJ] using this
section
variable {p:CbsProblem}
def BInv (p:CbsProblem) (ls:List (List (Arr4CbsPlace×CbsStep))) (seen:Nat→Arr4CbsPlace→Prop) (best:Arr4CbsPlace) (cost at_:Int):Prop:=
 (cost=-1∧at_=0∧∀j J,seen j J→¬arrJ p J)∨(0≤cost∧∃(m:Nat) (l:List (Arr4CbsPlace×CbsStep)) (o:CbsStep),at_=(m:Int)∧(m:Int)≤p.most∧ls[m]?=some l∧lk l best=some o∧o.cost=cost∧arrJ p best ∧
  ∀j J l o,seen j J→arrJ p J→ls[j]?=some l→lk l J=some o→cost≤o.cost)
theorem Q3D (k:OkApiSite p.s) (h:RS p.s) (h16:p.s.Floor.Kind.length≤16) (hav:p.avoid.length≤maxLen) (ht:0≤p.tick∧p.tick≤20000) (hm:0≤p.most∧p.most≤100) (h3:p.trips.length≤3) (hf:∀x,x∈p.trips→isC p.s.Floor x.From=true)
  {post:List (List Int)×Int→Prop}
  (hp:∀S tr plan,StJ p S→KQ p p.tick S tr→arrJ p (Wz S tr)→(tr.length:Int)≤p.most→plan.length=p.trips.length→(∀i:Nat,i<p.trips.length→plan[i]?=some (actsJ i tr)) →
   (∀tr',KQ p p.tick S tr'→arrJ p (Wz S tr')→(tr'.length:Int)≤p.most→costJ p.trips.length tr≤costJ p.trips.length tr')→post (plan,0))
  (hw:(∀S tr',StJ p S→KQ p p.tick S tr'→arrJ p (Wz S tr')→(tr'.length:Int)≤p.most→False)→post ([],14)):KV p post:=by
 unfold KV
 obtain⟨n,hn⟩:∃n:Nat,p.most=(n:Int):=⟨p.most.toNat,by omega⟩
 refine Jn.mk (fun S=>StJ p S) (Loop.inv p.trips.length (fun i (t:Arr4CbsPlace×Int)=>t.2=(i:Int)∧(∀(j:Nat) x,j<i→p.trips[j]?=some x→g4 t.1 j={cell:=x.From,rest:=0,done:=false})∧∀j:Nat,i≤j→j<4→g4 t.1 j=p0K) ⟨rfl,fun j x hj=>by omega,fun j _ hj=>by rcases four hj with rfl | rfl | rfl | rfl <;> rfl⟩ (fun i t hi hI=>?_) (fun t hI=>?_)) (fun S hS=>?_)
 ·obtain⟨S,c⟩:=t
  obtain⟨e1,e2,e3⟩:=hI
  simp only at e1 e2 e3
  subst e1
  have hx:p.trips[i]?=some (p.trips[i]'hi):=List.getElem?_eq_getElem hi
  generalize p.trips[i]'hi=x at hx
  have hi4:i<4:=by omega
  refine Ite.lt (by show (i:Int)<_;omega) ⟨x,Qo rfl hx,_,Qo rfl (Q0i hi4),_,Q3H hi4,?_,fun j y hj hy=>?_,fun j hj h4=>?_⟩
  ·show w64 ((i:Int)+1)=_;rw [kw1 (by omega)]
  ·show g4 (s4 S i _) j=_
   rw [Q2A hi4 (by omega)]
   by_cases c:i=j
   ·subst c;rw [if_pos rfl];rw [hx] at hy;cases hy;rfl
   ·rw [if_neg c];exact e2 j y (by omega) hy
  ·show g4 (s4 S i _) j=_
   rw [Q2A hi4 h4,if_neg (by omega)];exact e3 j (by omega) h4
 ·obtain⟨S,c⟩:=t
  obtain⟨e1,e2,e3⟩:=hI
  simp only at e1 e2 e3
  subst e1
  exact Ite.nlt (by show ¬(p.trips.length:Int)<_;omega) ⟨fun i x hx=>e2 i x (List.getElem?_eq_some_iff.1 hx).1 hx,e3⟩
 have hX0:XL p S [upd ([]:List (Arr4CbsPlace×CbsStep)) S st0K]:=by
  refine⟨fun l hl=>?_,fun j l l' h1 h2=>?_,fun j l l' h1 h2=>?_⟩
  ·simp at hl;subst hl
   refine⟨fun J o ho=>?_,by rw [GG,if_pos rfl];simp⟩
   rw [GG] at ho
   split at ho
   ·rename_i e;cases ho;exact⟨e.symm,rfl⟩
   ·cases ho
  ·have:=(List.getElem?_eq_some_iff.1 h2).1
   simp at this
  ·have:=(List.getElem?_eq_some_iff.1 h2).1
   simp at this
 refine Jn.mk (fun (r:List (List (Arr4CbsPlace×CbsStep))×Arr4CbsPlace×Int×Int)=>r.1.length=n+2∧XL p S r.1∧BInv p r.1 (fun j J=>j<n+1∧∃l,r.1[j]?=some l∧lk l J≠none) r.2.1 r.2.2.1 r.2.2.2)
  (Loop.inv (n+1) (fun kk (t:List (List (Arr4CbsPlace×CbsStep))×Arr4CbsPlace×Int×Int×Int)=>t.2.2.2.2=(kk:Int)∧t.1.length=kk+1∧XL p S t.1∧BInv p t.1 (fun j J=>j<kk∧∃l,t.1[j]?=some l∧lk l J≠none) t.2.1 t.2.2.1 t.2.2.2.1) ⟨rfl,rfl,hX0,.inl ⟨rfl,rfl,fun j J hj=>by omega⟩⟩ (fun kk t hk hI=>?_) (fun t hI=>?_)) (fun r hr=>?_)
 ·obtain⟨ls,best,cost,at_,c⟩:=t
  obtain⟨e1,hlen,hL,hB⟩:=hI
  simp only at e1 hlen hL hB
  subst e1
  refine Ite.t (decide_eq_true (by show (kk:Int)≤_;omega)) ?_
  obtain⟨l,hl⟩:∃l,ls[kk]?=some l:=⟨_,List.getElem?_eq_getElem (by omega)⟩
  have hset:ls.set (Int.toNat (kk:Int)) l=ls:=set_idx (Qo rfl hl)
  refine Jn.mk (fun (r:List (List (Arr4CbsPlace×CbsStep))×Arr4CbsPlace×Int×Int)=>r.1.length=kk+2∧XL p S r.1∧BInv p r.1 (fun j J=>j<kk+1∧∃l,r.1[j]?=some l∧lk l J≠none) r.2.1 r.2.2.1 r.2.2.2)
   ⟨l,Qo rfl hl,Q3y (fun J hJ=>hL.pJ h hf h16 h3 hS hl hJ) (fun ys hys hmem=>?_)⟩ (fun r hr=>⟨by show w64 ((kk:Int)+1)=_;rw [kw1 (by omega)],hr⟩)
  rw [hset]
  refine Jn.mk (fun (r:List (List (Arr4CbsPlace×CbsStep))×Arr4CbsPlace×Int×Int×List (Arr4CbsPlace×CbsStep))=>r.1=ls∧BInv p ls (fun j J=>j<kk+1∧∃l,ls[j]?=some l∧lk l J≠none) r.2.1 r.2.2.1 r.2.2.2.1 ∧
    (∀T st,lk r.2.2.2.2 T=some st→∃o,lk l st.from_=some o∧Gv p (p.tick+kk) st.from_ T st.acts∧st.cost=o.cost+KC st.acts p.trips.length)∧((kk:Int)<p.most→∀J o,lk l J=some o→∀T A,Gv p (p.tick+kk) J T A→Has r.2.2.2.2 T (o.cost+KC A p.trips.length)))
   (Loop.inv ys.length (fun m (t:List (List (Arr4CbsPlace×CbsStep))×Arr4CbsPlace×Int×Int×List (Arr4CbsPlace×CbsStep)×Int)=>t.2.2.2.2.2=(m:Int)∧t.1=ls∧BInv p ls (fun j J=>(j<kk∧∃l,ls[j]?=some l∧lk l J≠none)∨(j=kk∧∃m':Nat,m'<m∧ys[m']?=some J)) t.2.1 t.2.2.1 t.2.2.2.1 ∧
    (∀T st,lk t.2.2.2.2.1 T=some st→∃o,lk l st.from_=some o∧Gv p (p.tick+kk) st.from_ T st.acts∧st.cost=o.cost+KC st.acts p.trips.length)∧((kk:Int)<p.most→∀(m':Nat) J o,m'<m→ys[m']?=some J→lk l J=some o→∀T A,Gv p (p.tick+kk) J T A→Has t.2.2.2.2.1 T (o.cost+KC A p.trips.length)))
    ⟨rfl,rfl,?_,(fun T st hst=>by cases hst),(fun _ m' J o hm'=>by omega)⟩ (fun m t hm' hI=>?_) (fun t hI=>?_)) (fun r hr=>?_)
  ·rcases hB with ⟨q1,q2,q3⟩ | ⟨q1,m,l',o,q2,q3,q4,q5,q6,q7,q8⟩
   ·exact .inl ⟨q1,q2,fun j J hj=>by rcases hj with hj | ⟨_,m',hm',_⟩;exact q3 j J hj;omega⟩
   ·exact .inr ⟨q1,m,l',o,q2,q3,q4,q5,q6,q7,fun j J l o hj=>by rcases hj with hj | ⟨_,m',hm',_⟩;exact q8 j J l o hj;omega⟩
  ·obtain⟨ls',best,cost,at_,nxt,c⟩:=t
   obtain⟨e1,e2,hB',hN,hC⟩:=hI
   simp only at e1 e2 hB' hN hC
   subst e1;subst e2
   have hy:ys[m]?=some (ys[m]'hm'):=List.getElem?_eq_getElem hm'
   generalize ys[m]'hm'=J at hy
   have hJ:lk l J≠none:=(hmem J).1 (List.mem_of_getElem? hy)
   obtain⟨o,ho⟩:∃o,lk l J=some o:=by
    cases hx:lk l J with
    | none=>exact absurd hx hJ
    | some o=>exact⟨o,rfl⟩
   obtain⟨hq,hu,hc1,hc2⟩:=hL.q h hf hS kk l hl J o ho
   have hcb:o.cost≤400:=by
    have:(kk:Int)*(p.trips.length:Int)≤101*3:=by
     have h1:(kk:Int)≤101:=by omega
     have h2:(p.trips.length:Int)≤3:=by omega
     exact Int.mul_le_mul h1 h2 (by omega) (by omega)
    omega
   refine Ite.lt (by show (m:Int)<_;omega) ⟨J,Qo rfl hy,l,Qo rfl hl,?_⟩
   rw [ho]
   simp only [Option.getD_some]
   refine Jn.mk (fun b=>(b=true→arrJ p J∧(cost<0∨o.cost<cost))∧(b=false→arrJ p J→0≤cost∧cost≤o.cost)) (Q3q (by omega) (fun b hb=>Ite.mk (fun e=>Ite.mk (fun e2=>?_) (fun e2=>?_)) (fun e=>?_))) (fun b hb=>?_)
   ·exact⟨fun _=>⟨hb.1 e,.inl (of_decide_eq_true e2)⟩,fun h=>(by cases h)⟩
   ·have e2':=of_decide_eq_false e2
    exact⟨fun h'=>⟨hb.1 e,.inr (of_decide_eq_true h')⟩,fun h' _=>by have:=of_decide_eq_false h';omega⟩
   ·exact⟨fun h'=>(by cases h'),fun _ hA=>by have:=hb.2 hA;rw [this] at e;cases e⟩
   refine Jn.mk (fun (r:Arr4CbsPlace×Int×Int)=>BInv p ls' (fun j J=>(j<kk∧∃l,ls'[j]?=some l∧lk l J≠none)∨(j=kk∧∃m':Nat,m'<m+1∧ys[m']?=some J)) r.1 r.2.1 r.2.2) (Ite.mk (fun e=>?_) (fun e=>?_)) (fun r hr=>?_)
   ·obtain⟨hA,hlt⟩:=hb.1 e
    refine .inr ⟨hc1,kk,l,o,rfl,by omega,hl,ho,rfl,hA,fun j J' l' o' hj hA' hl' ho'=>?_⟩
    show o.cost≤o'.cost
    have old:((j<kk∧∃l,ls'[j]?=some l∧lk l J'≠none)∨(j=kk∧∃m':Nat,m'<m∧ys[m']?=some J'))→o.cost≤o'.cost:=fun hj=>by
     rcases hB' with ⟨_,_,q3⟩ | ⟨q1,_,_,_,_,_,_,_,_,_,q8⟩
     ·exact absurd hA' (q3 j J' hj)
     ·have:=q8 j J' l' o' hj hA' hl' ho'
      omega
    rcases hj with hj | ⟨rfl,m',hm'',hy'⟩
    ·exact old (.inl hj)
    ·by_cases c:m'=m
     ·subst c
      rw [hy] at hy';cases hy'
      rw [hl] at hl';cases hl'
      rw [ho] at ho';cases ho'
      omega
     ·exact old (.inr ⟨rfl,m',by omega,hy'⟩)
   ·have hno:=hb.2 e
    rcases hB' with ⟨q1,q2,q3⟩ | ⟨q1,m0,l0,o0,q2,q3,q4,q5,q6,q7,q8⟩
    ·refine .inl ⟨q1,q2,fun j J' hj=>?_⟩
     rcases hj with hj | ⟨rfl,m',hm'',hy'⟩
     ·exact q3 j J' (.inl hj)
     ·by_cases c:m'=m
      ·subst c
       rw [hy] at hy';cases hy'
       intro hA
       have:=hno hA
       have:(best,cost,at_).2.1=cost:=rfl
       omega
      ·exact q3 j J' (.inr ⟨rfl,m',by omega,hy'⟩)
    ·refine .inr ⟨q1,m0,l0,o0,q2,q3,q4,q5,q6,q7,fun j J' l' o' hj hA' hl' ho'=>?_⟩
     rcases hj with hj | ⟨rfl,m',hm'',hy'⟩
     ·exact q8 j J' l' o' (.inl hj) hA' hl' ho'
     ·by_cases c:m'=m
      ·subst c
       rw [hy] at hy';cases hy'
       rw [hl] at hl';cases hl'
       rw [ho] at ho';cases ho'
       exact (hno hA').2
      ·exact q8 j J' l' o' (.inr ⟨rfl,m',by omega,hy'⟩) hA' hl' ho'
   refine Jn.mk (fun nxt'=>(∀T st,lk nxt' T=some st→∃o,lk l st.from_=some o∧Gv p (p.tick+kk) st.from_ T st.acts∧st.cost=o.cost+KC st.acts p.trips.length)∧((kk:Int)<p.most→∀(m':Nat) J o,m'<m+1→ys[m']?=some J→lk l J=some o→∀T A,Gv p (p.tick+kk) J T A→Has nxt' T (o.cost+KC A p.trips.length))) (Ite.mk (fun e=>?_) (fun e=>?_)) (fun nxt' h'=>⟨by show w64 ((m:Int)+1)=_;rw [K8 (by omega) (by omega)];rfl,by rw [hset],hr,h'.1,h'.2⟩)
   ·refine Q3h k h hav ht (by omega) (fun i hi=>?_) (by omega) ⟨hc1,by omega⟩ (P:=fun T st=>∃o,lk l st.from_=some o∧Gv p (p.tick+kk) st.from_ T st.acts∧st.cost=o.cost+KC st.acts p.trips.length) (fun to acts hs=>⟨o,ho,hs,rfl⟩) (fun T st hst=>hN T st hst) (fun nxt' g1 g2 g3=>⟨fun T st hst=>g1 T st hst,fun hlt m' J' o' hm'' hy' ho' T A hs=>?_⟩)
    ·by_cases c:i<p.trips.length
     ·have:=hq i _ (List.getElem?_eq_getElem c)
      have:=this.2
      simp only at this
      omega
     ·rw [hu i (by omega) hi];decide
    ·by_cases c:m'=m
     ·subst c
      rw [hy] at hy';cases hy'
      rw [ho] at ho';cases ho'
      exact g3 T A hs
     ·exact g2 T _ (hC hlt m' J' o' (by omega) hy' ho' T A hs)
   ·have e':¬(kk:Int)<p.most:=of_decide_eq_false e
    exact⟨hN,fun hlt=>absurd hlt e'⟩
  ·obtain⟨ls',best,cost,at_,nxt,c⟩:=t
   obtain⟨e1,e2,hB',hN,hC⟩:=hI
   simp only at e1 e2 hB' hN hC
   subst e1;subst e2
   have tr:∀j J,(j<kk+1∧∃l,ls'[j]?=some l∧lk l J≠none)→(j<kk∧∃l,ls'[j]?=some l∧lk l J≠none)∨(j=kk∧∃m':Nat,m'<ys.length∧ys[m']?=some J):=fun j J ⟨hj,l0,hl0,hJ0⟩=>by
    by_cases c:j<kk
    ·exact .inl ⟨c,l0,hl0,hJ0⟩
    ·have:j=kk:=by omega
     subst this
     rw [hl] at hl0;cases hl0
     obtain⟨m',hm',he⟩:=List.getElem_of_mem ((hmem J).2 hJ0)
     exact .inr ⟨rfl,m',hm',by rw [List.getElem?_eq_getElem hm',he]⟩
   refine Ite.nlt (by show ¬(ys.length:Int)<_;omega) ⟨rfl,?_,hN,fun hlt J o ho T A hs=>?_⟩
   ·rcases hB' with ⟨q1,q2,q3⟩ | ⟨q1,m0,l0,o0,q2,q3,q4,q5,q6,q7,q8⟩
    ·exact .inl ⟨q1,q2,fun j J hj=>q3 j J (tr j J hj)⟩
    ·exact .inr ⟨q1,m0,l0,o0,q2,q3,q4,q5,q6,q7,fun j J l o hj=>q8 j J l o (tr j J hj)⟩
   ·obtain⟨m',hm',he⟩:=List.getElem_of_mem ((hmem J).2 (by rw [ho];simp))
    exact hC hlt m' J o hm' (by rw [List.getElem?_eq_getElem hm',he]) ho T A hs
  ·obtain⟨ls',best,cost,at_,nxt⟩:=r
   obtain⟨e2,hB',hN,hC⟩:=hr
   simp only at e2 hB' hN hC
   subst e2
   have e1:(ls'++[nxt]).set ls'.length nxt=ls'++[nxt]:=by simp
   have same:∀j,j<kk+1→(ls'++[nxt])[j]?=ls'[j]?:=fun j hj=>List.getElem?_append_left (by omega)
   dsimp only
   rw [e1]
   refine⟨by omega,by simp [hlen],hL.push hlen hl hN hC,?_⟩
   rcases hB' with ⟨q1,q2,q3⟩ | ⟨q1,m0,l0,o0,q2,q3,q4,q5,q6,q7,q8⟩
   ·exact .inl ⟨q1,q2,fun j J ⟨hj,l1,hl1,hJ1⟩=>q3 j J ⟨hj,l1,by rw [←same j hj];exact hl1,hJ1⟩⟩
   ·refine .inr ⟨q1,m0,l0,o0,q2,q3,by rw [List.getElem?_append_left (List.getElem?_eq_some_iff.1 q4).1];exact q4,q5,q6,q7,fun j J l o ⟨hj,l1,hl1,hJ1⟩ hA hlj ho=>q8 j J l o ⟨hj,l1,by rw [←same j hj];exact hl1,hJ1⟩ hA (by rw [←same j hj];exact hlj) ho⟩
 ·obtain⟨ls,best,cost,at_,c⟩:=t
  obtain⟨e1,hlen,hL,hB⟩:=hI
  simp only at e1 hlen hL hB
  subst e1
  exact Ite.f (decide_eq_false (by show ¬((n+1:Nat):Int)≤_;omega)) ⟨by omega,hL,hB⟩
 obtain⟨ls,best,cost,at_⟩:=r
 obtain⟨hlen,hL,hB⟩:=hr
 simp only at hlen hL hB
 -- all that leads to the goals is in the layers
 have full:∀tr',KQ p p.tick S tr'→(tr'.length:Int)≤p.most→∃l',ls[tr'.length]?=some l'∧Has l' (Wz S tr') (costJ p.trips.length tr'):=fun tr' hc hle=>by
  have h0:ls[0]?=some (ls[0]'(by omega)):=List.getElem?_eq_getElem _
  generalize ls[0]'(by omega)=l0 at h0
  obtain⟨z1,z2⟩:=hL.z l0 h0
  obtain⟨o,ho⟩:∃o,lk l0 S=some o:=by
   cases hx:lk l0 S with
   | none=>exact absurd hx z2
   | some o=>exact⟨o,rfl⟩
  have hzo:=(z1 S o ho).2
  obtain⟨l',h1,h2⟩:=hL.all tr' 0 S 0 l0 h0 ⟨o,ho,by omega⟩ (by simpa using hc) (by simpa using hle) (by omega)
  refine⟨l',by simpa using h1,by simpa using h2⟩
 have huniq:∀S',StJ p S'→S'=S:=fun S' hS'=>Q2G (fun i hi=>by
  by_cases c:i<p.trips.length
  ·rw [hS'.b i _ (List.getElem?_eq_getElem c),hS.b i _ (List.getElem?_eq_getElem c)]
  ·rw [hS'.u i (by omega) hi,hS.u i (by omega) hi])
 refine Ite.mk (fun e=>?_) (fun e=>?_)
 ·have hneg:cost<0:=of_decide_eq_true e
  rcases hB with ⟨q1,q2,q3⟩ | ⟨q1,_⟩
  ·refine hw (fun S' tr' hS' hc hA hle=>?_)
   rw [huniq S' hS'] at hc hA
   obtain⟨l',h1,o,h2,_⟩:=full tr' hc hle
   exact q3 _ _ ⟨by omega,l',h1,by rw [h2];simp⟩ hA
  ·omega
 have hneg:¬cost<0:=of_decide_eq_false e
 obtain⟨q1,m0,l0,o0,rfl,q3,q4,q5,q6,q7,q8⟩:0≤cost∧∃(m:Nat) (l:List (Arr4CbsPlace×CbsStep)) (o:CbsStep),at_=(m:Int)∧(m:Int)≤p.most∧ls[m]?=some l∧lk l best=some o∧o.cost=cost∧arrJ p best∧_:=by
  rcases hB with ⟨q1,_⟩ | hB
  ·omega
  ·exact hB
 refine⟨⟨by omega,by omega⟩,?_⟩
 refine Jn.mk (fun rows=>∃tr,KQ p p.tick S tr∧arrJ p (Wz S tr)∧tr.length=m0∧costJ p.trips.length tr=cost∧rows.length=p.trips.length∧∀i:Nat,i<p.trips.length→rows[i]?=some (actsJ i tr).reverse)
  (Loop.mk (fun (t:List (List (Arr4CbsPlace×CbsStep))×Arr4CbsPlace×Int×List (List Int))=>∃(m:Nat) (l:List (Arr4CbsPlace×CbsStep)) (o:CbsStep) (tr:List (Arr4CbsPlace×Arr4Int)),t.1=ls∧t.2.2.1=(m:Int)∧ls[m]?=some l∧lk l t.2.1=some o∧KQ p (p.tick+m) t.2.1 tr∧arrJ p (Wz t.2.1 tr)∧m+tr.length=m0∧o.cost+costJ p.trips.length tr=cost∧t.2.2.2.length=p.trips.length∧∀i:Nat,i<p.trips.length→t.2.2.2[i]?=some (actsJ i tr).reverse)
   (fun t=>t.2.2.1.toNat) ⟨m0,l0,o0,[],rfl,rfl,q4,q5,.nil _ _,q7,rfl,by simp [costJ,q6],by simp,fun i hi=>by show (List.replicate (Int.toNat (p.trips.length:Int)) [])[i]?=_;rw [Int.toNat_natCast,List.getElem?_replicate,if_pos hi];rfl⟩ (fun t hI=>?_)) (fun rows hrows=>?_)
 ·obtain⟨ls',J,c,rows⟩:=t
  obtain⟨m,l,o,tr,e1,e2,g1,g2,g3,g4',g5,g6,g7,g8⟩:=hI
  simp only at e1 e2 g1 g2 g3 g4' g5 g6 g7 g8
  subst e1;subst e2
  refine Ite.mk (fun e=>?_) (fun e=>?_)
  ·have hm0:(m:Int)>0:=of_decide_eq_true e
   obtain⟨m',rfl⟩:∃m',m=m'+1:=⟨m-1,by omega⟩
   obtain⟨l',hl'⟩:∃l',ls'[m']?=some l':=⟨_,List.getElem?_eq_getElem (by have:=(List.getElem?_eq_some_iff.1 g1).1;omega)⟩
   obtain⟨o',ho',hs,hcs⟩:=hL.s m' l' l hl' g1 J o g2
   have hw1:w64 (((m'+1:Nat):Int)-1)=(m':Int):=by rw [kw (by omega) (by omega)];omega
   have hset:ls'.set (Int.toNat ((m'+1:Nat):Int)) l=ls':=set_idx (Qo rfl g1)
   refine Jn.mk (fun (r:List (List (Arr4CbsPlace×CbsStep))×Arr4CbsPlace×List (List Int))=>r.1=ls'∧r.2.1=o.from_∧r.2.2.length=p.trips.length∧∀i:Nat,i<p.trips.length→r.2.2[i]?=some (actsJ i ((J,o.acts) :: tr)).reverse) ⟨l,Qo rfl g1,?_⟩ (fun r hr=>?_)
   ·rw [g2]
    simp only [Option.getD_some]
    have step:∀i,actsJ i ((J,o.acts) :: tr)=if gi o.acts i≥0 then gi o.acts i :: actsJ i tr else actsJ i tr:=fun i=>by
     unfold actsJ
     rw [List.map_cons,List.filter_cons]
     simp only [decide_eq_true_eq]
    refine Jn.mk (fun rows'=>rows'.length=p.trips.length∧∀i:Nat,i<p.trips.length→rows'[i]?=some (actsJ i ((J,o.acts) :: tr)).reverse) (Loop.inv p.trips.length (fun j (t:List (List Int)×Int)=>t.2=(j:Int)∧t.1.length=p.trips.length∧∀i:Nat,i<p.trips.length→t.1[i]?=some (if i<j then (actsJ i ((J,o.acts) :: tr)).reverse else (actsJ i tr).reverse)) ⟨rfl,g7,fun i hi=>by rw [if_neg (by omega)];exact g8 i hi⟩ (fun j t hj hI=>?_) (fun t hI=>?_)) (fun rows' h'=>⟨hset,trivial,h'⟩)
    ·obtain⟨rw',c⟩:=t
     obtain⟨a1,a2,a3⟩:=hI
     simp only at a1 a2 a3
     subst a1
     have haj:=a3 j hj
     rw [if_neg (by omega)] at haj
     have hj4:j<4:=by omega
     refine Ite.lt (by show (j:Int)<_;omega) ⟨_,Qo rfl (Q3B hj4),?_⟩
     refine Jn.mk (fun rw2=>rw2.length=p.trips.length∧∀i:Nat,i<p.trips.length→rw2[i]?=some (if i<j+1 then (actsJ i ((J,o.acts) :: tr)).reverse else (actsJ i tr).reverse)) (Ite.mk (fun e=>?_) (fun e=>?_)) (fun rw2 h2=>⟨by show w64 ((j:Int)+1)=_;rw [kw1 (by omega)],h2⟩)
     ·have e':=of_decide_eq_true e
      have hal:=ZZ j tr
      refine⟨_,Qo rfl haj,by show (actsJ j tr).reverse.length+1≤_;rw [List.length_reverse];omega,by simp [a2],fun i hi=>?_⟩
      rw [Int.toNat_natCast]
      by_cases c:j=i
      ·subst c
       rw [List.getElem?_set_self (by rw [a2];exact hj),if_pos (Nat.lt_succ_self _),step,if_pos e',List.reverse_cons]
      ·rw [List.getElem?_set_ne c,a3 i hi]
       by_cases c2:i<j
       ·rw [if_pos c2,if_pos (by omega)]
       ·rw [if_neg c2,if_neg (by omega)]
     ·have e':=of_decide_eq_false e
      refine⟨a2,fun i hi=>?_⟩
      rw [a3 i hi]
      by_cases c:i=j
      ·subst c
       rw [if_neg (by omega),if_pos (by omega),step,if_neg e']
      ·by_cases c2:i<j
       ·rw [if_pos c2,if_pos (by omega)]
       ·rw [if_neg c2,if_neg (by omega)]
    ·obtain⟨rw',c⟩:=t
     obtain⟨a1,a2,a3⟩:=hI
     simp only at a1 a2 a3
     subst a1
     refine Ite.nlt (by show ¬(p.trips.length:Int)<_;omega) ⟨a2,fun i hi=>?_⟩
     rw [a3 i hi,if_pos hi]
   ·obtain⟨r1,r2,r3⟩:=r
    obtain⟨b1,b2,b3,b4⟩:=hr
    simp only at b1 b2 b3 b4
    subst b1;subst b2
    refine⟨⟨m',l',o',(J,o.acts) :: tr,rfl,hw1,hl',ho',.cons hs ?_,g4',by simp;omega,?_,b3,b4⟩,?_⟩
    ·rw [Int.add_assoc,show (m':Int)+1=((m'+1:Nat):Int) by omega];exact g3
    ·simp only [costJ];omega
    ·show (w64 (((m'+1:Nat):Int)-1)).toNat<(((m'+1:Nat):Int)).toNat
     rw [hw1];omega
  ·have hm0:¬(m:Int)>0:=of_decide_eq_false e
   have:m=0:=by omega
   subst this
   obtain⟨z1,_⟩:=hL.z l g1
   obtain⟨rfl,z2⟩:=z1 J o g2
   exact⟨tr,by simpa using g3,g4',by omega,by omega,g7,g8⟩
 ·obtain⟨tr,b1,b2,b3,b4,b5,b6⟩:=hrows
  refine Jn.mk (fun plan=>plan.length=p.trips.length∧∀i:Nat,i<p.trips.length→plan[i]?=some (actsJ i tr)) (Loop.inv rows.length (fun j (t:List (List Int)×Int)=>t.2=(j:Int)∧t.1.length=p.trips.length∧∀i:Nat,i<p.trips.length→t.1[i]?=some (if i<j then actsJ i tr else (actsJ i tr).reverse)) ⟨rfl,b5,fun i hi=>by rw [if_neg (by omega)];exact b6 i hi⟩ (fun j t hj hI=>?_) (fun t hI=>?_)) (fun plan hplan=>?_)
  ·obtain⟨rw',c⟩:=t
   obtain⟨a1,a2,a3⟩:=hI
   simp only at a1 a2 a3
   subst a1
   have haj:=a3 j (by omega)
   rw [if_neg (by omega)] at haj
   have hal:=ZZ j tr
   refine Ite.lt (by show (j:Int)<_;omega) ⟨_,Qo rfl haj,Q0T (by rw [List.length_reverse];omega) ⟨by show w64 ((j:Int)+1)=_;rw [kw1 (by omega)],by simp [a2],fun i hi=>?_⟩⟩
   show (rw'.set (Int.toNat (j:Int)) _)[i]?=_
   rw [Int.toNat_natCast]
   by_cases c:j=i
   ·subst c
    rw [List.getElem?_set_self (by omega),if_pos (by omega),List.reverse_reverse]
   ·rw [List.getElem?_set_ne c,a3 i hi]
    by_cases c2:i<j
    ·rw [if_pos c2,if_pos (by omega)]
    ·rw [if_neg c2,if_neg (by omega)]
  ·obtain⟨rw',c⟩:=t
   obtain⟨a1,a2,a3⟩:=hI
   simp only at a1 a2 a3
   subst a1
   refine Ite.nlt (by show ¬(rows.length:Int)<_;omega) ⟨a2,fun i hi=>?_⟩
   rw [a3 i hi,if_pos (by omega)]
  ·refine hp S tr plan hS b1 b2 (by omega) hplan.1 hplan.2 (fun tr' hc hA hle=>?_)
   obtain⟨l',h1,o,h2,h3'⟩:=full tr' hc hle
   have:=q8 _ _ l' o ⟨by omega,l',h1,by rw [h2];simp⟩ hA h1 h2
   omega
end
end Go.Taq
/- Chapter 24 (cbs), part M: a chain of ticks is a good plan without clashes. -/
set_option linter.unusedVariables false
set_option linter.unusedSimpArgs false
namespace Go.Taq
open Go
inductive WP (s:ApiSite) (avoid:List Int) (x:ApiTrip):Int→CbsPlace→List (Int×CbsPlace)→Prop
 | nil (t:Int) (q:CbsPlace):WP s avoid x t q []
 | cons {t:Int} {q q':CbsPlace} {a:Int} {r:List (Int×CbsPlace)} (h:Z9 s avoid t x q q' a) (hr:WP s avoid x (t+1) q' r):WP s avoid x t q ((a,q') :: r)
def Q1o:CbsPlace→List (Int×CbsPlace)→CbsPlace
 | q,[]=>q
 | _,e :: r=>Q1o e.2 r
def plR:CbsPlace→List (Int×CbsPlace)→Nat→CbsPlace
 | q,_,0=>q
 | q,[],_+1=>q
 | _,e :: r,k+1=>plR e.2 r k
theorem Q21 (q:CbsPlace) (l:List (Int×CbsPlace)):plR q l 0=q:=by cases l <;> simp [plR]
theorem Q1m (q:CbsPlace) (e:Int×CbsPlace) (r:List (Int×CbsPlace)) (k:Nat):plR q (e :: r) (k+1)=plR e.2 r k:=by simp [plR]
theorem Q6g (q:CbsPlace) (k:Nat):plR q [] k=q:=by cases k <;> simp [plR]
theorem ZU:∀(l:List (Int×CbsPlace)) (q:CbsPlace),Q1o q l=plR q l l.length
 | [],q=>by simp [Q1o,plR]
 | e :: l,q=>by rw [Q1o,List.length_cons,Q1m];exact ZU l e.2
def filR (l:List (Int×CbsPlace)):List Int:=(l.map (·.1)).filter (fun a=>decide (a≥0))
section
variable {s:ApiSite} {avoid:List Int} {x:ApiTrip}
theorem WP.run (h:RS s):∀{l:List (Int×CbsPlace)} {t:Int} {q:CbsPlace},WP s avoid x t q l→isQ s (q.cell,q.rest)→(∃r,Gw s avoid t (q.cell,q.rest) ((Q1o q l).cell,r) (filR l))∧(q.done=true→filR l=[]∧∀k,(plR q l k).cell=q.cell)
 | [],t,q,_,hq=>⟨⟨q.rest,.nil⟩,fun _=>⟨rfl,fun k=>by rw [Q6g]⟩⟩
 | (a,q') :: r,t,q,hc,hq=>by
  cases hc with
  | cons hs hr=>
   have hq':=hs.q h hq
   obtain⟨⟨z,ih1⟩,ih2⟩:=WP.run h hr hq'
   rcases hs with ⟨rfl,rfl,_⟩ | ⟨hd,hm⟩
   ·obtain⟨f1,f2⟩:=ih2 rfl
    have hf:filR ((-1,({cell:=q.cell,rest:=0,done:=true}:CbsPlace)) :: r)=[]:=by
     unfold filR at f1 ⊢
     rw [List.map_cons,List.filter_cons_of_neg (by simp)];exact f1
    rw [hf]
    have hlast:(Q1o ({cell:=q.cell,rest:=0,done:=true}:CbsPlace) r).cell=q.cell:=by
     rw [ZU];exact f2 _
    refine⟨⟨q.rest,?_⟩,fun _=>⟨rfl,fun k=>?_⟩⟩
    ·show Gw s avoid t (q.cell,q.rest) ((Q1o _ r).cell,q.rest) []
     rw [hlast];exact .nil
    ·cases k with
     | zero=>rw [Q21]
     | succ k=>rw [Q1m];exact f2 k
   ·obtain⟨m1,m2,m3,m4,_⟩:=Z0 h hq.2.1 hm
    simp only at m1 m2 m3
    have hf:filR ((a,q') :: r)=a :: filR r:=by
     unfold filR
     rw [List.map_cons,List.filter_cons_of_pos (by simpa using m2)]
    rw [hf]
    exact⟨⟨z,.cons m1 ⟨m2,m3⟩ ih1⟩,fun e=>by rw [hd] at e;cases e⟩
theorem Q1W (c:Int) (k:Nat):∀y,y∈Ya s c [] k→y=c:=fun y hy=>by
 unfold Ya at hy
 split at hy
 ·simp [clK] at hy;exact hy
 ·simp at hy
theorem Q38 {c a:Int} {w:List Int} (hf:RF s.Floor) (hc:isC s.Floor c=true) (k:Nat):Ya s c (a :: w) (k+1)=Ya s (mvK s.Floor c a) w k:=by
 unfold Ya
 rw [if_pos hc,if_pos (Q4c hf hc)]
 simp only [List.getElem?_cons_succ,clK,List.getD_cons_succ,List.length_cons]
theorem WP.used (h:RS s):∀{l:List (Int×CbsPlace)} {t:Int} {q:CbsPlace},WP s avoid x t q l→isQ s (q.cell,q.rest)→∀(k:Nat) y,y∈Ya s q.cell (filR l) k→(k<l.length→y=(plR q l k).cell∨y=(plR q l (k+1)).cell)∧(l.length≤k→y=(Q1o q l).cell)
 | [],t,q,_,hq,k,y,hy=>⟨fun hk=>by simp at hk,fun _=>Q1W _ _ y hy⟩
 | (a,q') :: r,t,q,hc,hq,k,y,hy=>by
  have hall:=WP.run h hc hq
  cases hc with
  | cons hs hr=>
   have hq':=hs.q h hq
   have last:=ZU
   rcases hs with ⟨rfl,rfl,_⟩ | ⟨hd,hm⟩
   ·obtain⟨f1,f2⟩:=(WP.run h hr hq').2 rfl
    have hf:filR ((-1,({cell:=q.cell,rest:=0,done:=true}:CbsPlace)) :: r)=[]:=by
     unfold filR at f1 ⊢
     rw [List.map_cons,List.filter_cons_of_neg (by simp)];exact f1
    rw [hf] at hy
    have hy':=Q1W _ _ y hy
    have hpl:∀k,(plR q ((-1,({cell:=q.cell,rest:=0,done:=true}:CbsPlace)) :: r) k).cell=q.cell:=fun k=>by
     cases k with
     | zero=>rw [Q21]
     | succ k=>rw [Q1m];exact f2 k
    exact⟨fun _=>.inl (by rw [hpl];exact hy'),fun _=>by rw [last,hpl];exact hy'⟩
   ·obtain⟨m1,m2,m3,m4,m5⟩:=Z0 h hq.2.1 hm
    simp only at m1 m2 m3 m5
    have hf:filR ((a,q') :: r)=a :: filR r:=by
     unfold filR
     rw [List.map_cons,List.filter_cons_of_pos (by simpa using m2)]
    rw [hf] at hy
    have hmv:mvK s.Floor q.cell a=q'.cell:=by
     rcases m5 with ⟨h0,h1⟩ | ⟨h0,h1⟩
     ·subst h0
      unfold mvK;rw [if_neg (by omega)];exact h1.symm
     ·unfold mvK;rw [h1,if_pos ⟨h0,m3,rfl⟩]
    cases k with
    | zero=>
     refine⟨fun _=>?_,fun hk=>by simp at hk⟩
     unfold Ya at hy
     rw [if_pos hq.1] at hy
     simp only [List.getElem?_cons_zero,clK,List.getD_cons_zero] at hy
     split at hy
     ·rename_i e
      rcases Q59.1 hy with hy | hy
      ·exact .inl (by rw [Q21];exact hy)
      ·right
       rw [Q1m,Q21]
       show y=q'.cell
       rw [hy,←hmv];unfold mvK;rw [if_pos e]
     ·exact .inl (by rw [Q21];simpa using hy)
    | succ k=>
     rw [Q38 h.fl hq.1,hmv] at hy
     have:=WP.used h hr hq' k y hy
     exact⟨fun hk=>by rw [Q1m,Q1m];exact this.1 (by simpa using hk),fun hk=>this.2 (by simpa using hk)⟩
end
def robJ (i:Nat) (tr:List (Arr4CbsPlace×Arr4Int)):List (Int×CbsPlace):=tr.map (fun e=>(gi e.2 i,g4 e.1 i))
theorem Q1t (i:Nat) (tr:List (Arr4CbsPlace×Arr4Int)):filR (robJ i tr)=actsJ i tr:=by
 simp [filR,robJ,actsJ,List.map_map,Function.comp_def]
theorem Q1O (i:Nat):∀(tr:List (Arr4CbsPlace×Arr4Int)) (J:Arr4CbsPlace),Q1o (g4 J i) (robJ i tr)=g4 (Wz J tr) i
 | [],J=>rfl
 | e :: r,J=>Q1O i r e.1
section
variable {p:CbsProblem}
theorem KQ.rob {i:Nat} {x:ApiTrip} (hx:p.trips[i]?=some x):∀{tr:List (Arr4CbsPlace×Arr4Int)} {t:Int} {J:Arr4CbsPlace},KQ p t J tr→WP p.s p.avoid x t (g4 J i) (robJ i tr)
 | [],t,J,_=>.nil _ _
 | (J',A) :: r,t,J,hc=>by
  cases hc with
  | cons hs hr=>exact .cons (hs.st i x hx) (KQ.rob hx hr)
theorem KQ.apart:∀{tr:List (Arr4CbsPlace×Arr4Int)} {t:Int} {J:Arr4CbsPlace},KQ p t J tr→∀(k a b:Nat),k<tr.length→a<b→b<p.trips.length→∀y,
  (y=(plR (g4 J a) (robJ a tr) k).cell∨y=(plR (g4 J a) (robJ a tr) (k+1)).cell)→(y=(plR (g4 J b) (robJ b tr) k).cell∨y=(plR (g4 J b) (robJ b tr) (k+1)).cell)→False
 | [],t,J,_,k,a,b,hk,_,_,y,_,_=>by simp at hk
 | (J',A) :: r,t,J,hc,k,a,b,hk,hab,hb,y,h1,h2=>by
  cases hc with
  | cons hs hr=>
   simp only [robJ,List.map_cons] at h1 h2
   cases k with
   | zero=>
    rw [Q21,Q1m,Q21] at h1 h2
    exact hs.ap a b hab hb y h1 h2
   | succ k=>
    rw [Q1m,Q1m] at h1 h2
    exact KQ.apart hr k a b (by simpa using hk) hab hb y h1 h2
theorem KQ.good (h:RS p.s) (hm:0≤p.most∧p.most≤100) (h4:p.trips.length≤4) (hd:p.trips.Pairwise (fun x y=>x.From≠y.From∧x.To≠y.To)) (hf:∀x,x∈p.trips→isC p.s.Floor x.From=true) {S:Arr4CbsPlace} (hS:StJ p S) {tr:List (Arr4CbsPlace×Arr4Int)} (hc:KQ p p.tick S tr) (hA:arrJ p (Wz S tr)) (hle:(tr.length:Int)≤p.most)
  {plan:List (List Int)} (hl:plan.length=p.trips.length) (hpl:∀i:Nat,i<p.trips.length→plan[i]?=some (actsJ i tr)):Gh p {bans:=[],plan:=plan}∧YN p.s p.trips plan:=by
 have hq:∀i x,p.trips[i]?=some x→isQ p.s ((g4 S i).cell,(g4 S i).rest):=fun i x hx=>by
  rw [hS.b i x hx]
  exact⟨hf x (List.mem_of_getElem? hx),by simp,by simp⟩
 refine⟨⟨hl,fun i x w hx hw=>?_⟩,fun k a b hk hab hb=>?_⟩
 ·have hi:=(List.getElem?_eq_some_iff.1 hx).1
  rw [hpl i hi] at hw;cases hw
  have hlen:=ZZ i tr
  refine⟨by omega,?_⟩
  obtain⟨⟨r,hr⟩,_⟩:=(hc.rob hx).run h (hq i x hx)
  rw [Q1t,Q1O,hA i x hx,hS.b i x hx] at hr
  exact⟨r,hr⟩
 ·rintro⟨x,y,u,v,c,hx,hy,hu,hv,c1,c2⟩
  have ha:=(List.getElem?_eq_some_iff.1 hx).1
  have hb':=(List.getElem?_eq_some_iff.1 hy).1
  rw [hpl a ha] at hu;cases hu
  rw [hpl b hb'] at hv;cases hv
  have e1:x.From=(g4 S a).cell:=by rw [hS.b a x hx]
  have e2:y.From=(g4 S b).cell:=by rw [hS.b b y hy]
  rw [e1,←Q1t] at c1
  rw [e2,←Q1t] at c2
  have u1:=(hc.rob hx).used h (hq a x hx) k c c1
  have u2:=(hc.rob hy).used h (hq b y hy) k c c2
  have l1:(robJ a tr).length=tr.length:=by simp [robJ]
  have l2:(robJ b tr).length=tr.length:=by simp [robJ]
  rw [l1] at u1;rw [l2] at u2
  by_cases hkl:k<tr.length
  ·exact hc.apart k a b hkl hab hb' c (u1.1 hkl) (u2.1 hkl)
  ·have v1:=u1.2 (by omega)
   have v2:=u2.2 (by omega)
   have last:=ZU
   rw [last,l1] at v1
   rw [last,l2] at v2
   rcases Nat.eq_zero_or_pos tr.length with h0 | h0
   ·rw [h0] at v1 v2
    rw [Q21] at v1 v2
    rw [←e1] at v1;rw [←e2] at v2
    have:=List.pairwise_iff_getElem.1 hd a b ha hb' hab
    rw [(List.getElem?_eq_some_iff.1 hx).2,(List.getElem?_eq_some_iff.1 hy).2] at this
    exact this.1 (by rw [←v1,←v2])
   ·refine hc.apart (tr.length-1) a b (by omega) hab hb' c (.inr ?_) (.inr ?_)
    ·rw [show tr.length-1+1=tr.length by omega];exact v1
    ·rw [show tr.length-1+1=tr.length by omega];exact v2
end
end Go.Taq
/- Chapter 24 (cbs), part N: small cases, the plan. -/
set_option linter.unusedVariables false
set_option linter.unusedSimpArgs false
namespace Go.Taq
open Go
def Wo (s:ApiSite):Nat→Int
 | 0=>1
 | n+1=>imax (Wo s n) (spd s n)
def cntV (s:ApiSite):Nat→Nat
 | 0=>0
 | n+1=>cntV s n+(if opC s (n:Int)=true then 1 else 0)
theorem Q0a (s:ApiSite):∀n,cntV s n≤n
 | 0=>Nat.le_refl _
 | n+1=>by have:=Q0a s n;rw [cntV];split <;> omega
theorem Q1s {s:ApiSite} (h:RS s):∀n,1≤Wo s n∧Wo s n≤100
 | 0=>by simp [Wo]
 | n+1=>by
  have h1:=Q1s h n
  have h2:=Q2O h n
  rw [Wo];simp only [imax];split <;> omega
def QY (s:ApiSite):Nat:=cntV s s.Floor.Kind.length*(Wo s s.Floor.Kind.length).toNat
def YB (s:ApiSite) (n:Nat) (most:Int):Bool:=decide (QY s ^ n≤3000)&&decide (most≤20)
theorem Q5p {s:ApiSite} {i:Nat} {x:Int} (hi:i<s.Floor.Kind.length) (hx:s.Floor.Kind[i]?=some x):opC s (i:Int)=(x != 0):=by
 have h1:isC s.Floor (i:Int)=true:=by simp [isC];omega
 have h2:kd s.Floor (i:Int)=x:=by unfold kd;rw [Int.toNat_natCast,List.getD_eq_getElem?_getD,hx];rfl
 unfold opC;rw [h1,h2];rfl
theorem Q1V {s:ApiSite} (k:OkApiSite s) (h:YH s) (h16:s.Floor.Kind.length≤1000) {post:Int→Prop} (hp:post (Wo s s.Floor.Kind.length)):Kg s post:=by
 unfold Kg
 refine Jn.mk (fun m=>m=Wo s s.Floor.Kind.length) (Loop.inv s.Floor.Kind.length (fun i (t:Int×Int)=>t.2=(i:Int)∧t.1=Wo s i) ⟨rfl,rfl⟩ (fun i t hi hI=>?_) (fun t hI=>?_)) (fun m e=>by subst e;exact hp)
 ·obtain⟨m,c⟩:=t
  obtain⟨e1,e2⟩:=hI
  simp only at e1 e2
  subst e1;subst e2
  exact Ite.lt (by show (i:Int)<_;omega) (Q1k k h ⟨by show w64 ((i:Int)+1)=_;rw [kw1 (by omega)],rfl⟩)
 ·obtain⟨m,c⟩:=t
  obtain⟨e1,e2⟩:=hI
  simp only at e1 e2
  subst e1;subst e2
  exact Ite.nlt (by show ¬(s.Floor.Kind.length:Int)<_;omega) rfl
theorem Q5j {n i m:Nat} (h:3000<n ^ i) (hm:i≤m):3000<n ^ m:=by
 have hn:0<n:=by
  rcases Nat.eq_zero_or_pos n with e | e
  ·subst e
   cases i with
   | zero=>simp at h
   | succ i=>simp at h
  ·exact e
 exact Nat.lt_of_lt_of_le h (Nat.pow_le_pow_right hn hm)
theorem Q1G {s:ApiSite} (k:OkApiSite s) (h:YH s) (h16:s.Floor.Kind.length≤1000) {trips:List ApiTrip} (h4:trips.length≤100) {most:Int} {post:Bool→Prop} (hp:post (YB s trips.length most)):KW s trips most post:=by
 unfold KW
 have hc:=Q0a s s.Floor.Kind.length
 have hs:=Q1s h.rs s.Floor.Kind.length
 refine Jn.mk (fun m=>m=(cntV s s.Floor.Kind.length:Int)) (Loop.inv s.Floor.Kind.length (fun i (t:Int×Int)=>t.2=(i:Int)∧t.1=(cntV s i:Int)) ⟨rfl,rfl⟩ (fun i t hi hI=>?_) (fun t hI=>?_)) (fun m e=>?_)
 ·obtain⟨m,c⟩:=t
  obtain⟨e1,e2⟩:=hI
  simp only at e1 e2
  subst e1;subst e2
  have hx:s.Floor.Kind[i]?=some (s.Floor.Kind[i]'hi):=List.getElem?_eq_getElem hi
  generalize s.Floor.Kind[i]'hi=x at hx
  have ho:=Q5p hi hx
  have hci:=Q0a s i
  refine Ite.lt (by show (i:Int)<_;omega) ⟨x,Qo rfl hx,Jn.mk (fun m=>m=(cntV s (i+1):Int)) (Ite.mk (fun e=>?_) (fun e=>?_)) (fun m e=>⟨by show w64 ((i:Int)+1)=_;rw [kw1 (by omega)],e⟩)⟩
  ·show w64 ((cntV s i:Int)+1)=_
   rw [kw1 (by omega),cntV,ho,if_pos e]
  ·rw [cntV,ho,if_neg (by rw [e];decide)];rfl
 ·obtain⟨m,c⟩:=t
  obtain⟨e1,e2⟩:=hI
  simp only at e1 e2
  subst e1;subst e2
  exact Ite.nlt (by show ¬(s.Floor.Kind.length:Int)<_;omega) rfl
 subst e
 refine Q1V k h h16 ?_
 have hP:w64 ((cntV s s.Floor.Kind.length:Int)*Wo s s.Floor.Kind.length)=((QY s:Nat):Int):=by
  have e1:((QY s:Nat):Int)=(cntV s s.Floor.Kind.length:Int)*Wo s s.Floor.Kind.length:=by
   unfold QY;rw [Int.natCast_mul,Int.toNat_of_nonneg (by omega)]
  have:(cntV s s.Floor.Kind.length:Int)*Wo s s.Floor.Kind.length≤1000*100:=Int.mul_le_mul (by omega) (by omega) (by omega) (by omega)
  rw [←e1] at this ⊢
  exact kw (by omega) (by omega)
 have hPle:QY s≤100000:=by
  unfold QY
  exact Nat.mul_le_mul (show cntV s s.Floor.Kind.length≤1000 by omega) (show (Wo s s.Floor.Kind.length).toNat≤100 by omega)
 refine Jn.mk (fun a=>decide (a≤3000)=decide (QY s ^ trips.length≤3000)) ?_ (fun a ha=>?_)
 ·refine Loop.mk (fun (t:Int×Int)=>∃i:Nat,t.2=(i:Int)∧i≤trips.length∧t.1=((QY s ^ i:Nat):Int)) (fun t=>((trips.length:Int)-t.2).toNat) ⟨0,rfl,by omega,by simp⟩ (fun t hI=>?_)
  obtain⟨a,c⟩:=t
  obtain⟨i,e1,hi,e2⟩:=hI
  simp only at e1 e2
  subst e1;subst e2
  dsimp only
  rw [hP]
  refine Jn.mk (fun b=>b=true↔i<trips.length∧QY s ^ i≤3000) (Ite.mk (fun e=>?_) (fun e=>?_)) (fun b hb=>Ite.mk (fun e=>?_) (fun e=>?_))
  ·have:=of_decide_eq_true e
   simp only [decide_eq_true_eq];omega
  ·have:=of_decide_eq_false e
   simp only [Bool.false_eq_true,false_iff];omega
  ·obtain⟨g1,g2⟩:=hb.1 e
   have hmul:((QY s ^ i:Nat):Int)*((QY s:Nat):Int)=((QY s ^ (i+1):Nat):Int):=by rw [Nat.pow_succ];simp
   have hle:QY s ^ (i+1)≤3000*100000:=by rw [Nat.pow_succ];exact Nat.mul_le_mul g2 hPle
   refine⟨⟨i+1,by show w64 ((i:Int)+1)=_;rw [kw1 (by omega)],by omega,?_⟩,?_⟩
   ·show w64 (_*_)=_
    rw [hmul,kw (by omega) (by omega)]
   ·show ((trips.length:Int)-w64 ((i:Int)+1)).toNat<((trips.length:Int)-(i:Int)).toNat
    rw [kw1 (by omega)];omega
  ·have hn:¬(i<trips.length∧QY s ^ i≤3000):=fun hh=>by rw [hb.2 hh] at e;cases e
   rw [decide_eq_decide]
   by_cases c:i<trips.length
   ·have h1:3000<QY s ^ i:=by
     rcases Nat.lt_or_ge 3000 (QY s ^ i) with h | h
     ·exact h
     ·exact absurd ⟨c,h⟩ hn
    have h2:=Q5j h1 (show i≤trips.length by omega)
    omega
   ·have:i=trips.length:=by omega
    subst this;omega
 ·refine Jn.mk (fun b=>b=YB s trips.length most) (Ite.mk (fun e=>?_) (fun e=>?_)) (fun b e=>by subst e;exact hp)
  ·rw [e] at ha
   unfold YB;rw [←ha];simp
  ·rw [e] at ha
   unfold YB;rw [←ha];simp
theorem Q20 {p:CbsProblem} (k:OkApiSite p.s) (h:RS p.s) (h16:p.s.Floor.Kind.length≤1000) (h4:p.trips.length≤100) {post:Bool→Prop} (hp:post (YB p.s p.trips.length p.most)):Kz p post:=by
 unfold Kz
 have hc:=Q0a p.s p.s.Floor.Kind.length
 have hs:=Q1s h p.s.Floor.Kind.length
 refine Jn.mk (fun (m:Int×Int)=>m=((cntV p.s p.s.Floor.Kind.length:Int),Wo p.s p.s.Floor.Kind.length)) (Loop.inv p.s.Floor.Kind.length (fun i (t:Int×Int×Int)=>t=((cntV p.s i:Int),Wo p.s i,(i:Int))) rfl (fun i t hi hI=>?_) (fun t hI=>?_)) (fun m e=>?_)
 ·subst hI
  have hci:=Q0a p.s i
  refine Ite.lt (by show (i:Int)<_;omega) (WJ k h (Y7 (Jn.mk (fun m=>m=(cntV p.s (i+1):Int)) (Ite.mk (fun e=>?_) (fun e=>?_)) (fun m e=>?_))))
  ·show w64 ((cntV p.s i:Int)+1)=_
   rw [kw1 (by omega),cntV,if_pos e]
  ·rw [cntV,if_neg (by rw [e];decide)];rfl
  ·subst e
   show (_,_,w64 ((i:Int)+1))=_
   rw [kw1 (by omega)];rfl
 ·subst hI
  exact Ite.nlt (by show ¬(p.s.Floor.Kind.length:Int)<_;omega) rfl
 subst e
 have e1:((QY p.s:Nat):Int)=(cntV p.s p.s.Floor.Kind.length:Int)*Wo p.s p.s.Floor.Kind.length:=by
  unfold QY;rw [Int.natCast_mul,Int.toNat_of_nonneg (by omega)]
 have hPle:QY p.s≤100000:=by
  unfold QY
  exact Nat.mul_le_mul (show cntV p.s p.s.Floor.Kind.length≤1000 by omega) (show (Wo p.s p.s.Floor.Kind.length).toNat≤100 by omega)
 refine Jn.mk (fun a=>a=((min (QY p.s ^ p.trips.length) 3001:Nat):Int)) (Loop.inv p.trips.length (fun i (t:Int×Int)=>t=(((min (QY p.s ^ i) 3001:Nat):Int),(i:Int))) (by simp) (fun i t hi hI=>?_) (fun t hI=>?_)) (fun a e=>?_)
 ·subst hI
  refine Ite.lt (by show (i:Int)<_;omega) ?_
  show (imin (w64 (w64 (((min (QY p.s ^ i) 3001:Nat):Int)*(cntV p.s p.s.Floor.Kind.length:Int))*Wo p.s p.s.Floor.Kind.length)) 3001,w64 ((i:Int)+1))=_
  have hA:min (QY p.s ^ i) 3001≤3001:=Nat.min_le_right _ _
  generalize hAe:min (QY p.s ^ i) 3001=A at hA
  have b1:(A:Int)*(cntV p.s p.s.Floor.Kind.length:Int)≤3001*1000:=Int.mul_le_mul (by omega) (by omega) (by omega) (by omega)
  have b0:0≤(A:Int)*(cntV p.s p.s.Floor.Kind.length:Int):=Int.mul_nonneg (by omega) (by omega)
  have w9:w64 ((A:Int)*(cntV p.s p.s.Floor.Kind.length:Int))=(A:Int)*(cntV p.s p.s.Floor.Kind.length:Int):=kw (by omega) (by omega)
  rw [w9,kw1 (by omega)]
  have b2:(A:Int)*(cntV p.s p.s.Floor.Kind.length:Int)*Wo p.s p.s.Floor.Kind.length=((A*QY p.s:Nat):Int):=by
   rw [Int.natCast_mul,e1,Int.mul_assoc]
  have b3:A*QY p.s≤3001*100000:=Nat.mul_le_mul hA hPle
  rw [b2,kw (by omega) (by omega)]
  have key:min (A*QY p.s) 3001=min (QY p.s ^ (i+1)) 3001:=by
   subst hAe
   rw [Nat.pow_succ]
   rcases Nat.eq_zero_or_pos (QY p.s) with h0 | h0
   ·rw [h0];simp
   ·rcases Nat.lt_or_ge (QY p.s ^ i) 3001 with h1 | h1
    ·rw [Nat.min_eq_left (Nat.le_of_lt h1)]
    ·rw [Nat.min_eq_right h1]
     have c1:3001≤3001*QY p.s:=Nat.le_mul_of_pos_right _ h0
     have c2:3001≤QY p.s ^ i*QY p.s:=Nat.le_trans h1 (Nat.le_mul_of_pos_right _ h0)
     rw [Nat.min_eq_right c1,Nat.min_eq_right c2]
  rw [←key]
  simp only [imin]
  congr 1
  split <;> omega
 ·subst hI
  exact Ite.nlt (by show ¬(p.trips.length:Int)<_;omega) rfl
 subst e
 refine Jn.mk (fun b=>b=YB p.s p.trips.length p.most) (Ite.mk (fun e=>?_) (fun e=>?_)) (fun b e=>by subst e;exact hp)
 ·have:QY p.s ^ p.trips.length≤3000:=by have:=of_decide_eq_true e;omega
  unfold YB;simp [this]
 ·have:¬QY p.s ^ p.trips.length≤3000:=by have:=of_decide_eq_false e;omega
  unfold YB;simp [this]
end Go.Taq
/- Chapter 24 (cbs), part O: Plan, Check, the law but for the examples. -/
set_option linter.unusedVariables false
set_option linter.unusedSimpArgs false
namespace Go.Taq
open Go
def badK (s:ApiSite) (trips:List ApiTrip) (tick most:Int):Bool:=!ZH s trips||(decide (tick<0)||(decide (tick>20000)||decide (most<0)))
theorem Q2h {s:ApiSite} {trips:List ApiTrip} {tick most:Int} (h:badK s trips tick most=false):ZH s trips=true∧(0≤tick∧tick≤20000)∧0≤most:=by
 simp only [badK,Bool.or_eq_false_iff,Bool.not_eq_false',decide_eq_false_iff_not] at h
 exact⟨h.1,⟨by omega,by omega⟩,by omega⟩
theorem Q2q {s:ApiSite} {trips:List ApiTrip} (hl:trips.length≤1000000) {tick most:Int} {k:Bool→Prop} (hk:k (badK s trips tick most)):
  Jn (fun (J6:Bool→Prop)=>XT s trips (fun x7=>Ite x7 (Ite (decide (tick<0)) (J6 true) (Ite (decide (tick>20000)) (J6 true) (J6 (decide (most<0))))) (J6 true))) k:=by
 refine Jn.eq (badK s trips tick most) (Q0b hl (Ite.mk (fun e=>Ite.mk (fun e2=>?_) (fun e2=>Ite.mk (fun e3=>?_) (fun e3=>?_))) (fun e=>?_))) hk
 ·unfold badK;rw [e2];simp
 ·unfold badK;rw [e3];simp
 ·unfold badK;rw [e,e2,e3];simp
 ·unfold badK;rw [e];simp
section
variable {s:ApiSite} {trips:List ApiTrip} {tick most:Int} {avoid:List Int}
theorem Q3E {c:Int} (h:opC s c=true):isC s.Floor c=true:=by unfold opC at h;simp at h;exact h.1
theorem Q2S (k:OkApiSite s) (h:YH s) (h16:s.Floor.Kind.length≤16) (h3:trips.length≤3) (hav:avoid.length≤1000) {post:List (List Int)×Int→Prop}
  (hbad:badK s trips tick most=true→post ([],1)) (hlim:badK s trips tick most=false→60<most→post ([],27)) (hlim2:badK s trips tick most=false→most≤60→YB s trips.length most=false→post ([],27)) (h14:badK s trips tick most=false→most≤60→post ([],14))
  (hgood:badK s trips tick most=false→most≤60→∀plan,Gh {s:=s,trips:=trips,tick:=tick,avoid:=avoid,most:=most} {bans:=[],plan:=plan}→YN s trips plan→post (plan,0)):KR s trips tick avoid most post:=by
 unfold KR
 refine Q2q (by omega) (Ite.mk (fun e=>hbad e) (fun e=>Ite.mk (fun e2=>hlim e (of_decide_eq_true e2)) (fun e2=>?_)))
 have h60:most≤60:=by have:=of_decide_eq_false e2;omega
 obtain⟨hR,ht,hm⟩:=Q2h e
 obtain⟨r1,r2,r3,r4⟩:=Q08 hR
 have hf:∀x,x∈trips→isC s.Floor x.From=true:=fun x hx=>Q3E (r1 x hx).1
 have hav':avoid.length≤maxLen:=by simp [maxLen];omega
 refine Q20 (p:={s:=s,trips:=trips,tick:=tick,avoid:=avoid,most:=most}) k h.rs (by show s.Floor.Kind.length≤1000;omega) (by show trips.length≤100;omega) (Ite.mk (fun e3=>?_) (fun e3=>?_))
 ·exact Q3D (p:={s:=s,trips:=trips,tick:=tick,avoid:=avoid,most:=most}) k h.rs h16 hav' ht ⟨hm,by show most≤100;omega⟩ h3 hf (fun S tr plan hS hc hA hle hl hpl _=>by
   obtain⟨g1,g2⟩:=hc.good h.rs ⟨hm,by show most≤100;omega⟩ (by show trips.length≤4;omega) r2 hf hS hA hle hl hpl
   exact hgood e h60 plan g1 g2) (fun _=>h14 e h60)
 ·exact Q1K (p:={s:=s,trips:=trips,tick:=tick,avoid:=avoid,most:=most}) ⟨hm,by show most≤1000;omega⟩ (by show trips.length≤4;omega) k h.rs (by show s.Floor.Kind.length≤100;omega) hav' ht hf (fun n hn hN=>hgood e h60 n.plan ⟨hn.1,hn.2⟩ hN) (h14 e h60) (hlim2 e h60 e3)
theorem Q2e (k:OkApiSite s) (h:YH s) (h16:s.Floor.Kind.length≤16) (hav:avoid.length≤1000) (h60:most≤60) (hb:badK s trips tick most=false) {plan:List (List Int)} (hN:Gh {s:=s,trips:=trips,tick:=tick,avoid:=avoid,most:=most} {bans:=[],plan:=plan})
  (hC:YN s trips plan) {post:Int×Int→Prop} (hp:post (-1,0)):GY s trips tick avoid most plan post:=by
 unfold GY
 obtain⟨hR,ht,hm⟩:=Q2h hb
 obtain⟨r1,r2,r3,r4⟩:=Q08 hR
 have hav':avoid.length≤maxLen:=by simp [maxLen];omega
 have hlen:plan.length=trips.length:=hN.1
 refine Jn.mk (fun b=>b=false) (Q0b (by omega) (Ite.t hR (Ite.f (decide_eq_false (by omega)) (Ite.f (decide_eq_false (by omega)) (Ite.f (decide_eq_false (by omega)) (by simp [hlen])))))) (fun b e=>Ite.f e ?_)
 have hrows:=Gh.rows (p:={s:=s,trips:=trips,tick:=tick,avoid:=avoid,most:=most}) ⟨hm,by show most≤1000;omega⟩ (by show trips.length≤4;omega) hN
 refine Jn.mk (fun _=>True) (Loop.inv plan.length (fun i (t:Int)=>t=(i:Int)) rfl (fun i t hi hI=>?_) (fun t hI=>?_)) (fun _ _=>?_)
 ·subst hI
  have hw:plan[i]?=some (plan[i]'hi):=List.getElem?_eq_getElem hi
  have hx:trips[i]?=some (trips[i]'(by omega)):=List.getElem?_eq_getElem _
  generalize plan[i]'hi=w at hw
  generalize trips[i]'(by omega)=x at hx
  have hg:=hN.2 i x w hx hw
  have hwl:=(hrows.2 w (List.mem_of_getElem? hw)).1
  have hxm:=r1 x (List.mem_of_getElem? hx)
  refine Ite.lt (by omega) ⟨w,Qo rfl hw,x,Qo rfl hx,Q1c k h.rs hav' (by simp) (by omega) ?_⟩
  rw [hg.check hxm.1 hxm.2 ht]
  have:=hg.len
  simp only at this
  exact Ite.f (by decide) (Ite.f (decide_eq_false (by omega)) (by rw [kw1 (by omega)]))
 ·subst hI
  exact Ite.nlt (by omega) trivial
 ·exact Q0p (plan:=plan) h.fl (by omega) (by omega) (by omega) hrows.2 (fun a b kk c _ _ hno=>absurd hC hno) (fun _=>Ite.f rfl hp)
theorem Q1Q (k:OkApiSite s) {post:Bool→Prop} (hF:post false) (hT:YH s→Q3j s→FewS s 16 20→avoid.length≤20→Wo s s.Floor.Kind.length≤2→post true):Xe s avoid 16 post:=by
 unfold Xe
 refine Jn.mk (fun b=>b=true∨(b=false∧YH s∧Q3j s∧FewS s 16 20∧avoid.length≤20)) (Q2s k ⟨by decide,by decide⟩ (Ite.f rfl (.inl rfl)) (fun hfew=>Ite.t rfl (Ite.mk (fun _=>.inl rfl) (fun e=>?_)))) (fun b hb=>?_)
 ·have:avoid.length≤20:=by have:=of_decide_eq_false e;omega
  exact Q0j k hfew (by decide) (.inl rfl) (fun hr hn=>.inr ⟨rfl,hr,hn,hfew,this⟩)
 ·rcases hb with e | ⟨e,hr,hn,hfew,hav⟩
  ·exact Ite.t e hF
  ·refine Ite.f e (Q1V k hr (by have:=hfew.kind;omega) ?_)
   by_cases c:Wo s s.Floor.Kind.length≤2
   ·rw [decide_eq_true c];exact hT hr hn hfew hav c
   ·rw [decide_eq_false c];exact hF
end
theorem CbsPlans_of (hsmall:∀{post:Bool→Prop},post true→V_taquinlaw24_small post) (s:ApiSite) (k0:OkApiSite s) (trips:List ApiTrip) (tick:Int) (avoid:List Int) (most:Int):V_taquinlaw24_CbsPlans s trips tick avoid most (fun y=>y=true):=by
 unfold V_taquinlaw24_CbsPlans
 refine hsmall ?_
 refine Jn.mk (fun b=>b=true∨(b=false∧YH s∧FewS s 16 20∧avoid.length≤20∧trips.length≤3)) (Q1Q k0 (Ite.f rfl (.inl rfl)) (fun hr hn hfew hav hs=>Ite.t rfl (Ite.mk (fun _=>.inl rfl) (fun e=>?_)))) (fun b hb=>?_)
 ·have h3:trips.length≤3:=by have:=of_decide_eq_false e;omega
  refine Ite.mk (fun _=>?_) (fun _=>.inr ⟨rfl,hr,hfew,hav,h3⟩)
  cases decide (most≤60)
  ·exact .inr ⟨rfl,hr,hfew,hav,h3⟩
  ·exact .inl rfl
 rcases hb with e | ⟨e,hr,hfew,hav,h3⟩
 ·exact Ite.t e rfl
 refine Ite.f e ?_
 have h16:s.Floor.Kind.length≤16:=by have:=hfew.kind;omega
 refine Q2S k0 hr h16 h3 (by omega) (fun hb=>?_) (fun hb hm=>?_) (fun hb hm hsm=>?_) (fun hb hm=>?_) (fun hb hm plan hN hC=>?_)
 ·refine Q2q (by omega) ?_
  rw [hb]
  exact Jn.mk (fun b=>b=true) (Ite.t rfl rfl) (fun b e=>Ite.t e (Jn.mk (fun b=>b=true) (Ite.t rfl (Ite.t rfl (Ite.t rfl (Ite.t rfl rfl)))) (fun b e=>e)))
 ·refine Q2q (by omega) ?_
  rw [hb]
  exact Jn.mk (fun b=>b=true) (Ite.f rfl (decide_eq_true hm)) (fun b e=>Ite.t e (Jn.mk (fun b=>b=true) (Ite.t rfl (Ite.t rfl (Ite.t rfl (Ite.f rfl rfl)))) (fun b e=>e)))
 ·refine Q2q (by omega) ?_
  rw [hb]
  exact Jn.mk (fun b=>b=false) (Ite.f rfl (decide_eq_false (by omega))) (fun b e=>Ite.f e (Ite.t rfl (Jn.mk (fun b=>b=true) (Ite.t rfl (Ite.t rfl (Ite.f rfl (Ite.t rfl (Q1G k0 hr (by omega) (by omega) (by rw [hsm];rfl)))))) (fun b e=>e))))
 ·refine Q2q (by omega) ?_
  rw [hb]
  exact Jn.mk (fun b=>b=false) (Ite.f rfl (decide_eq_false (by omega))) (fun b e=>Ite.f e (Ite.t rfl (Jn.mk (fun b=>b=true) (Ite.t rfl (Ite.t rfl (Ite.t rfl rfl))) (fun b e=>e))))
 ·refine Q2q (by omega) ?_
  rw [hb]
  exact Jn.mk (fun b=>b=false) (Ite.f rfl (decide_eq_false (by omega))) (fun b e=>Ite.f e (Ite.f rfl (Q2e k0 hr h16 (by omega) hm hb hN hC (Jn.mk (fun b=>b=true) (Ite.t rfl (Ite.t rfl rfl)) (fun b e=>e)))))
end Go.Taq
/- Chapter 24 (cbs), part P: the examples. -/
set_option linter.unusedVariables false
set_option linter.unusedSimpArgs false
namespace Go.Taq
open Go
def fK:ApiFloor:={W:=3,H:=2,D:=1,Kind:=[1,1,1,1,1,3],Out:=[15,15,15,15,15,15]}
def sK:ApiSite:={Floor:=fK,Zones:=[],Aparts:=[],Shelves:=[],Robots:=[]}
theorem Q4D:RF fK:=by
 refine⟨by decide,by decide,by decide,by decide,by decide,by decide,by decide,by decide,by decide,fun i x y hx hy=>?_⟩
 have key:∀i:Nat,i<6→(0≤fK.Kind.getD i 0∧fK.Kind.getD i 0<7)∧(0≤fK.Out.getD i 0∧fK.Out.getD i 0≤63):=by decide
 have hi:i<6:=(List.getElem?_eq_some_iff.1 hx).1
 have e1:fK.Kind.getD i 0=x:=by rw [List.getD_eq_getElem?_getD,hx];rfl
 have e2:fK.Out.getD i 0=y:=by rw [List.getD_eq_getElem?_getD,hy];rfl
 have:=key i hi
 rw [e1,e2] at this
 omega
theorem Q3T:RS sK:=⟨Q4D,fun z hz=>by simp [sK] at hz,fun z hz=>by simp [sK] at hz,fun z hz=>by simp [sK] at hz⟩
theorem Q1x {α:Type} {P:α→Prop}:OkL P ([]:List α):=⟨by simp,fun x hx=>by simp at hx⟩
theorem Q5O:OkApiSite sK where
 Floor:=⟨by unfold I64;decide,by unfold I64;decide,by unfold I64;decide,⟨by decide,by unfold I64;decide⟩,⟨by decide,by unfold I64;decide⟩⟩
 Zones:=Q1x
 Aparts:=Q1x
 Shelves:=Q1x
 Robots:=Q1x
theorem Q5A (c t:Int):opn sK c t=isC fK c:=by simp [opn,zn,fidx,sK]
theorem Q39 (t:Int) (q:CbsPlace):mvs sK [] t q=mvs sK [] 0 q:=by
 unfold mvs mv1
 simp only [Q5A]
def plcK (r:Nat):CbsPlace:={cell:=((r / 2:Nat):Int),rest:=0,done:=r % 2 == 1}
def nbK (c:Nat):List Nat:=(mvs sK [] 0 {cell:=(c:Int),rest:=0,done:=false}).map (fun m=>m.to_.cell.toNat)
def optK (to r:Nat):List (Nat×Nat):=(if r % 2=1∨r / 2=to then [(0,r / 2*2+1)] else [])++(if r % 2=0 then (nbK (r / 2)).map (fun c=>(1,c*2)) else [])
theorem Q56:∀c,c<6→∀m,m∈mvs sK [] 0 {cell:=((c:Nat):Int),rest:=0,done:=false}→m.to_.rest=0∧m.to_.done=false∧0≤m.to_.cell∧m.to_.cell<6∧0≤m.act:=by decide +kernel
theorem Q53 {t:Int} {x:ApiTrip} {to r:Nat} (hto:x.To=(to:Int)) (hr:r<12) {q':CbsPlace} {a:Int} (h:Z9 sK [] t x (plcK r) q' a):∃k r',r'<12∧q'=plcK r'∧(k,r')∈optK to r∧(k:Int)=(if a=-1 then 0 else 1):=by
 rcases h with ⟨rfl,rfl,hd⟩ | ⟨hd,hm⟩
 ·refine⟨0,r / 2*2+1,by omega,?_,?_,by simp⟩
  ·unfold plcK
   have e1:(r / 2*2+1) / 2=r / 2:=by omega
   have e2:(r / 2*2+1) % 2=1:=by omega
   rw [e1,e2];rfl
  ·unfold optK
   have:r % 2=1∨r / 2=to:=by
    rcases hd with hd | hd
    ·left;simpa [plcK] using hd
    ·right;simp only [plcK,hto] at hd;omega
   rw [if_pos this];simp
 ·have hr0:r % 2=0:=by
   simp only [plcK,beq_eq_false_iff_ne] at hd;omega
  have hq:plcK r={cell:=((r / 2:Nat):Int),rest:=0,done:=false}:=by
   unfold plcK;rw [hr0];rfl
  rw [Q39,hq] at hm
  obtain⟨g1,g2,g3,g4',g5⟩:=Q56 (r / 2) (by omega) _ hm
  simp only at g1 g2 g3 g4' g5
  refine⟨1,q'.cell.toNat*2,by omega,?_,?_,by rw [if_neg (by omega)];rfl⟩
  ·unfold plcK
   have e1:q'.cell.toNat*2 / 2=q'.cell.toNat:=by omega
   have e2:q'.cell.toNat*2 % 2=0:=by omega
   rw [e1,e2,Int.toNat_of_nonneg g3]
   obtain⟨c,r',d⟩:=q'
   simp only at g1 g2
   subst g1;subst g2;rfl
  ·unfold optK
   rw [List.mem_append]
   right
   rw [if_pos hr0]
   refine List.mem_map.2 ⟨q'.cell.toNat,?_,rfl⟩
   unfold nbK
   exact List.mem_map.2 ⟨_,hm,rfl⟩
/-! ## one robot -/
def trip1:List ApiTrip:=[{From:=0,To:=2}]
def pK1:CbsProblem:={s:=sK,trips:=trip1,tick:=0,avoid:=[],most:=20}
def h1K (r:Nat):Nat:=[2,99,1,99,0,0,3,99,2,99,1,99].getD r 0
theorem Q6K:∀r,r<12→∀e,e∈optK 2 r→h1K r≤e.1+h1K e.2:=by decide +kernel
theorem low1:∀(tr:List (Arr4CbsPlace×Arr4Int)) (t:Int) (J:Arr4CbsPlace) (r:Nat),r<12→g4 J 0=plcK r→KQ pK1 t J tr→arrJ pK1 (Wz J tr)→((h1K r:Nat):Int)≤costJ 1 tr
 | [],t,J,r,hr,hJ,_,hA=>by
  have h0:=hA 0 _ rfl
  rw [show Wz J []=J from rfl,hJ] at h0
  have h2:r / 2=2:=by simp only [plcK] at h0;have:((r / 2:Nat):Int)=2:=h0;omega
  have:r=4∨r=5:=by omega
  rcases this with rfl | rfl <;> decide
 | (J',A) :: tr,t,J,r,hr,hJ,hc,hA=>by
  cases hc with
  | cons hs hrest=>
   have h0:=hs.st 0 _ rfl
   rw [hJ] at h0
   obtain⟨k,r',hr',hq',ho,hk⟩:=Q53 (to:=2) rfl hr h0
   have ih:=low1 tr (t+1) J' r' hr' hq' hrest hA
   have:=Q6K r hr _ ho
   simp only at this
   simp only [costJ,KC]
   rw [←hk];omega
/-! ## two robots that change their places -/
def trip2:List ApiTrip:=[{From:=0,To:=1},{From:=1,To:=0}]
def pK2 (m:Int):CbsProblem:={s:=sK,trips:=trip2,tick:=0,avoid:=[],most:=m}
def h2T:List Nat:=[99,99,5,99,5,99,3,99,3,99,4,99,99,99,99,99,99,99,99,99,99,99,99,99,0,0,99,99,4,99,1,99,2,99,3,99,0,0,99,99,4,99,1,99,2,99,3,99,1,1,3,99,99,99,2,99,3,99,4,99,99,99,99,99,99,99,99,99,99,99,99,99,2,2,3,99,5,99,99,99,5,99,5,99,99,99,99,99,99,99,99,99,99,99,99,99,1,1,3,99,5,99,2,99,99,99,5,99,99,99,99,99,99,99,99,99,99,99,99,99,2,2,3,99,5,99,3,99,4,99,99,99,99,99,99,99,99,99,99,99,99,99,99,99]
def h2K (a b:Nat):Nat:=h2T.getD (a*12+b) 0
def apK (a a' b b':Nat):Bool:=a / 2 != b / 2&&a / 2 != b' / 2&&a' / 2 != b / 2&&a' / 2 != b' / 2
theorem Q5K:(List.range 12).all (fun a=>(List.range 12).all (fun b=>(optK 1 a).all (fun e=>(optK 0 b).all (fun f=>!(apK a e.2 b f.2)||decide (h2K a b≤e.1+f.1+h2K e.2 f.2)))))=true:=by decide +kernel
theorem Q6k {a b:Nat} (ha:a<12) (hb:b<12) {e f:Nat×Nat} (he:e∈optK 1 a) (hf:f∈optK 0 b) (hap:apK a e.2 b f.2=true):h2K a b≤e.1+f.1+h2K e.2 f.2:=by
 have h1:=List.all_eq_true.1 Q5K a (by simpa using ha)
 have h2:=List.all_eq_true.1 h1 b (by simpa using hb)
 have h3:=List.all_eq_true.1 h2 e he
 have h4:=List.all_eq_true.1 h3 f hf
 rw [hap] at h4
 simpa using h4
theorem GF {r r':Nat}:(plcK r).cell=(plcK r').cell↔r / 2=r' / 2:=by simp only [plcK];omega
theorem low2 {m:Int}:∀(tr:List (Arr4CbsPlace×Arr4Int)) (t:Int) (J:Arr4CbsPlace) (a b:Nat),a<12→b<12→g4 J 0=plcK a→g4 J 1=plcK b→KQ (pK2 m) t J tr→arrJ (pK2 m) (Wz J tr)→((h2K a b:Nat):Int)≤costJ 2 tr
 | [],t,J,a,b,ha,hb,hJa,hJb,_,hA=>by
  have h0:=hA 0 _ rfl
  have h1:=hA 1 _ rfl
  rw [show Wz J []=J from rfl,hJa] at h0
  rw [show Wz J []=J from rfl,hJb] at h1
  have e0:a / 2=1:=by have:((a / 2:Nat):Int)=1:=h0;omega
  have e1:b / 2=0:=by have:((b / 2:Nat):Int)=0:=h1;omega
  have ea:a=2∨a=3:=by omega
  have eb:b=0∨b=1:=by omega
  rcases ea with rfl | rfl <;> rcases eb with rfl | rfl <;> decide
 | (J',A) :: tr,t,J,a,b,ha,hb,hJa,hJb,hc,hA=>by
  cases hc with
  | cons hs hrest=>
   have h0:=hs.st 0 _ rfl
   have h1:=hs.st 1 _ rfl
   rw [hJa] at h0
   rw [hJb] at h1
   obtain⟨k0,a',ha',hqa,hoa,hka⟩:=Q53 (to:=1) rfl ha h0
   obtain⟨k1,b',hb',hqb,hob,hkb⟩:=Q53 (to:=0) rfl hb h1
   have hap:=hs.ap 0 1 (by decide) (by show 1<2;decide)
   have hap':apK a a' b b'=true:=by
    unfold Q3O at hap
    rw [hJa,hJb,hqa,hqb] at hap
    have n1:a / 2≠b / 2:=fun e=>hap _ (.inl rfl) (.inl (GF.2 e))
    have n2:a / 2≠b' / 2:=fun e=>hap _ (.inl rfl) (.inr (GF.2 e))
    have n3:a' / 2≠b / 2:=fun e=>hap _ (.inr rfl) (.inl (GF.2 e))
    have n4:a' / 2≠b' / 2:=fun e=>hap _ (.inr rfl) (.inr (GF.2 e))
    simp [apK,n1,n2,n3,n4]
   have ih:=low2 tr (t+1) J' a' b' ha' hb' hqa hqb hrest hA
   have:=Q6k ha hb hoa hob hap'
   simp only at this
   simp only [costJ,KC]
   rw [←hka,←hkb];omega
end Go.Taq
/- Chapter 24 (cbs), part Q: the examples, CbsPlans. -/
set_option linter.unusedVariables false
set_option linter.unusedSimpArgs false
namespace Go.Taq
open Go
theorem Q2E {plan:List (List Int)} (hl:plan.length≤100) (hr:∀w,w∈plan→w.length≤1000) {post:Int→Prop} (hp:post (((plan.map List.length).sum:Nat):Int)):KX plan post:=by
 unfold KX
 have bd:∀i,i≤plan.length→(((plan.take i).map List.length).sum)≤i*1000:=by
  intro i
  induction i with
  | zero=>intro _;simp
  | succ i ih=>
   intro hi
   have:=ih (by omega)
   have hx:plan[i]?=some (plan[i]'(by omega)):=List.getElem?_eq_getElem _
   have hw:=hr _ (List.mem_of_getElem? hx)
   rw [List.take_add_one,hx]
   simp only [Option.toList_some,List.map_append,List.map_cons,List.map_nil,List.sum_append,List.sum_cons,List.sum_nil]
   omega
 refine Jn.mk (fun n=>n=(((plan.map List.length).sum:Nat):Int)) (Loop.inv plan.length (fun i (t:Int×Int)=>t.2=(i:Int)∧t.1=((((plan.take i).map List.length).sum:Nat):Int)) ⟨rfl,by simp⟩ (fun i t hi hI=>?_) (fun t hI=>?_)) (fun n e=>by subst e;exact hp)
 ·obtain⟨m,c⟩:=t
  obtain⟨e1,e2⟩:=hI
  simp only at e1 e2
  subst e1;subst e2
  have hx:plan[i]?=some (plan[i]'hi):=List.getElem?_eq_getElem hi
  generalize plan[i]'hi=w at hx
  have hw:=hr w (List.mem_of_getElem? hx)
  have:=bd i (by omega)
  refine Ite.lt (by show (i:Int)<_;omega) ⟨w,Qo rfl hx,?_,?_⟩
  ·show w64 ((i:Int)+1)=_;rw [kw1 (by omega)]
  ·show w64 (_+(w.length:Int))=_
   rw [kw (by omega) (by omega),List.take_add_one,hx]
   simp
 ·obtain⟨m,c⟩:=t
  obtain⟨e1,e2⟩:=hI
  simp only at e1 e2
  subst e1;subst e2
  rw [List.take_length]
  exact Ite.nlt (by show ¬(plan.length:Int)<_;omega) rfl
theorem Z9.act {s:ApiSite} (h:RS s) {avoid:List Int} {t:Int} {x:ApiTrip} {q q':CbsPlace} {a:Int} (hq:0≤q.rest) (hs:Z9 s avoid t x q q' a):a=-1∨0≤a:=by
 rcases hs with ⟨h1,_⟩ | ⟨_,hm⟩
 ·exact .inl h1
 ·exact .inr (Z0 h hq hm).2.1
theorem Zo (i:Nat) (e:Arr4CbsPlace×Arr4Int) (r:List (Arr4CbsPlace×Arr4Int)) (h:gi e.2 i=-1∨0≤gi e.2 i):((actsJ i (e :: r)).length:Int)=(if gi e.2 i=-1 then 0 else 1)+((actsJ i r).length:Int):=by
 unfold actsJ
 rw [List.map_cons,List.filter_cons]
 rcases h with h | h
 ·rw [h];simp
 ·rw [if_pos (by simpa using h),if_neg (by omega)];simp;omega
section
variable {p:CbsProblem}
theorem KQ.len1 (h:RS p.s) (hn:p.trips.length=1):∀{tr:List (Arr4CbsPlace×Arr4Int)} {t:Int} {J:Arr4CbsPlace},0≤(g4 J 0).rest→(∀x,p.trips[0]?=some x→isQ p.s ((g4 J 0).cell,(g4 J 0).rest))→KQ p t J tr→((actsJ 0 tr).length:Int)=costJ 1 tr
 | [],_,_,_,_,_=>by simp [actsJ,costJ]
 | e :: r,t,J,h0,hq,hc=>by
  cases hc with
  | cons hs hr=>
   have hx:p.trips[0]?=some (p.trips[0]'(by omega)):=List.getElem?_eq_getElem _
   have hst:=hs.st 0 _ hx
   have hq':=hst.q h (hq _ hx)
   have ih:=KQ.len1 h hn (tr:=r) hq'.2.1 (fun _ _=>hq') hr
   rw [Zo 0 _ r (hst.act h h0),ih]
   simp only [costJ,KC];omega
theorem KQ.len2 (h:RS p.s) (hn:p.trips.length=2):∀{tr:List (Arr4CbsPlace×Arr4Int)} {t:Int} {J:Arr4CbsPlace},isQ p.s ((g4 J 0).cell,(g4 J 0).rest)→isQ p.s ((g4 J 1).cell,(g4 J 1).rest)→KQ p t J tr→((actsJ 0 tr).length:Int)+((actsJ 1 tr).length:Int)=costJ 2 tr
 | [],_,_,_,_,_=>by simp [actsJ,costJ]
 | e :: r,t,J,hq0,hq1,hc=>by
  cases hc with
  | cons hs hr=>
   have hx:p.trips[0]?=some (p.trips[0]'(by omega)):=List.getElem?_eq_getElem _
   have hy:p.trips[1]?=some (p.trips[1]'(by omega)):=List.getElem?_eq_getElem _
   have hs0:=hs.st 0 _ hx
   have hs1:=hs.st 1 _ hy
   have ih:=KQ.len2 h hn (tr:=r) (hs0.q h hq0) (hs1.q h hq1) hr
   rw [Zo 0 _ r (hs0.act h hq0.2.1),Zo 1 _ r (hs1.act h hq1.2.1)]
   simp only [costJ,KC] at ih ⊢
   omega
end
theorem costJ_le (n:Nat):∀tr:List (Arr4CbsPlace×Arr4Int),costJ n tr≤n*tr.length
 | []=>by simp [costJ]
 | e :: r=>by
  have h1:=ZQ e.2 n
  have h2:=costJ_le n r
  simp only [costJ,List.length_cons]
  have:(n:Int)*((r.length+1:Nat):Int)=n*r.length+n:=by rw [Int.natCast_add];simp [Int.mul_add]
  omega
theorem Q2u {trips:List ApiTrip} {m:Int} (hm:0≤m∧m≤20) (h3:trips.length≤3) (hb:badK sK trips 0 m=false) (hs:YB sK trips.length m=true) {post:List (List Int)×Int→Prop}
  (hp:∀S tr plan,StJ {s:=sK,trips:=trips,tick:=0,avoid:=[],most:=m} S→KQ {s:=sK,trips:=trips,tick:=0,avoid:=[],most:=m} 0 S tr→arrJ {s:=sK,trips:=trips,tick:=0,avoid:=[],most:=m} (Wz S tr)→(tr.length:Int)≤m→plan.length=trips.length→(∀i:Nat,i<trips.length→plan[i]?=some (actsJ i tr)) →
   (∀tr',KQ {s:=sK,trips:=trips,tick:=0,avoid:=[],most:=m} 0 S tr'→arrJ {s:=sK,trips:=trips,tick:=0,avoid:=[],most:=m} (Wz S tr')→(tr'.length:Int)≤m→costJ trips.length tr≤costJ trips.length tr')→post (plan,0))
  (hw:(∀S tr',StJ {s:=sK,trips:=trips,tick:=0,avoid:=[],most:=m} S→KQ {s:=sK,trips:=trips,tick:=0,avoid:=[],most:=m} 0 S tr'→arrJ {s:=sK,trips:=trips,tick:=0,avoid:=[],most:=m} (Wz S tr')→(tr'.length:Int)≤m→False)→post ([],14)):KR sK trips 0 [] m post:=by
 unfold KR
 refine Q2q (by omega) ?_
 rw [hb]
 obtain⟨hR,ht,_⟩:=Q2h hb
 obtain⟨r1,r2,r3,r4⟩:=Q08 hR
 refine Ite.f rfl (Ite.f (decide_eq_false (by omega)) (Q20 (p:={s:=sK,trips:=trips,tick:=0,avoid:=[],most:=m}) Q5O Q3T (by show sK.Floor.Kind.length≤1000;decide) (by show trips.length≤100;omega) (Ite.t hs ?_)))
 exact Q3D (p:={s:=sK,trips:=trips,tick:=0,avoid:=[],most:=m}) Q5O Q3T (by show sK.Floor.Kind.length≤16;decide) (by show ([]:List Int).length≤maxLen;simp) (by show (0:Int)≤0∧(0:Int)≤20000;decide) ⟨hm.1,by show m≤100;omega⟩ h3 (fun x hx=>Q3E (r1 x hx).1) hp hw
def mkJ (a b:Nat):Arr4CbsPlace:={e0:=plcK a,e1:=plcK b,e2:=p0K,e3:=p0K}
def mk1 (a:Nat):Arr4CbsPlace:={e0:=plcK a,e1:=p0K,e2:=p0K,e3:=p0K}
theorem js1 {m:Int} {t:Int} {a a':Nat} {x:Int} (h:({act:=x,to_:=plcK a'}:Ke)∈mvs sK [] 0 (plcK a)) (hd:(plcK a).done=false):Gv {s:=sK,trips:=trip1,tick:=0,avoid:=[],most:=m} t (mk1 a) (mk1 a') {e0:=x,e1:=0,e2:=0,e3:=0}:=by
 refine⟨fun i y hy=>?_,fun a b hab hb=>?_,fun i hi h4=>?_⟩
 ·have hi:i<1:=(List.getElem?_eq_some_iff.1 hy).1
  have:i=0:=by omega
  subst this
  exact .inr ⟨hd,by rw [Q39];exact h⟩
 ·have:b<1:=hb
  omega
 ·have hi':1≤i:=hi
  rcases four h4 with rfl | rfl | rfl | rfl
  ·omega
  ·rfl
  ·rfl
  ·rfl
theorem js2 {m:Int} {t:Int} {a a' b b':Nat} {x y:Int} (h0:Z9 sK [] 0 {From:=0,To:=1} (plcK a) (plcK a') x) (h1:Z9 sK [] 0 {From:=1,To:=0} (plcK b) (plcK b') y) (hap:apK a a' b b'=true):Gv {s:=sK,trips:=trip2,tick:=0,avoid:=[],most:=m} t (mkJ a b) (mkJ a' b') {e0:=x,e1:=y,e2:=0,e3:=0}:=by
 have tm:∀{x:ApiTrip} {q q':CbsPlace} {a:Int},Z9 sK [] 0 x q q' a→Z9 sK [] t x q q' a:=fun h=>by
  rcases h with h | ⟨h1,h2⟩
  ·exact .inl h
  ·exact .inr ⟨h1,by rw [Q39];exact h2⟩
 refine⟨fun i z hz=>?_,fun c d hcd hd=>?_,fun i hi h4=>?_⟩
 ·have hi:i<2:=(List.getElem?_eq_some_iff.1 hz).1
  have:i=0∨i=1:=by omega
  rcases this with rfl | rfl
  ·cases hz;exact tm h0
  ·cases hz;exact tm h1
 ·have hd':d<2:=hd
  have e0:c=0:=by omega
  have e1:d=1:=by omega
  subst e0;subst e1
  simp only [apK,Bool.and_eq_true,bne_iff_ne,ne_eq] at hap
  obtain⟨⟨⟨n1,n2⟩,n3⟩,n4⟩:=hap
  rintro z (h | h) (h' | h')
  ·exact n1 (GF.1 (h.symm.trans h'))
  ·exact n2 (GF.1 (h.symm.trans h'))
  ·exact n3 (GF.1 (h.symm.trans h'))
  ·exact n4 (GF.1 (h.symm.trans h'))
 ·have hi':2≤i:=hi
  rcases four h4 with rfl | rfl | rfl | rfl
  ·omega
  ·omega
  ·rfl
  ·rfl
end Go.Taq
/- Chapter 24 (cbs), part R: the examples, CbsPlans (2). -/
set_option linter.unusedVariables false
set_option linter.unusedSimpArgs false
namespace Go.Taq
open Go
theorem stJ1 {m:Int} {S:Arr4CbsPlace} (h:StJ {s:=sK,trips:=trip1,tick:=0,avoid:=[],most:=m} S):S=mk1 0:=Q2G (fun i hi=>by
 rcases four hi with rfl | rfl | rfl | rfl
 ·exact h.b 0 _ rfl
 ·exact h.u 1 (by show 1≤1;omega) hi
 ·exact h.u 2 (by show 1≤2;omega) hi
 ·exact h.u 3 (by show 1≤3;omega) hi)
theorem stJ2 {m:Int} {S:Arr4CbsPlace} (h:StJ {s:=sK,trips:=trip2,tick:=0,avoid:=[],most:=m} S):S=mkJ 0 2:=Q2G (fun i hi=>by
 rcases four hi with rfl | rfl | rfl | rfl
 ·exact h.b 0 _ rfl
 ·exact h.b 1 _ rfl
 ·exact h.u 2 (by show 2≤2;omega) hi
 ·exact h.u 3 (by show 2≤3;omega) hi)
theorem Q2y {r:Nat} (hr:r<12):isQ sK ((plcK r).cell,(plcK r).rest):=by
 refine⟨Xx.2 ⟨by show (0:Int)≤((r / 2:Nat):Int);omega,?_⟩,by simp [plcK],by simp [plcK]⟩
 show ((r / 2:Nat):Int)<((6:Nat):Int)
 omega
def tr1K:List (Arr4CbsPlace×Arr4Int):=[(mk1 2,{e0:=1,e1:=0,e2:=0,e3:=0}),(mk1 4,{e0:=1,e1:=0,e2:=0,e3:=0})]
theorem ch1 {m:Int}:KQ {s:=sK,trips:=trip1,tick:=0,avoid:=[],most:=m} 0 (mk1 0) tr1K:=
 .cons (js1 (by decide +kernel) (by decide)) (.cons (js1 (by decide +kernel) (by decide)) (.nil _ _))
theorem rsM {x:ApiTrip} {q q':CbsPlace} {a:Int} (hd:q.done=false) (h:({act:=a,to_:=q'}:Ke)∈mvs sK [] 0 q):Z9 sK [] 0 x q q' a:=.inr ⟨hd,h⟩
def tr2K:List (Arr4CbsPlace×Arr4Int):=[(mkJ 6 2,{e0:=2,e1:=0,e2:=0,e3:=0}),(mkJ 8 0,{e0:=1,e1:=3,e2:=0,e3:=0}),(mkJ 2 1,{e0:=4,e1:=-1,e2:=0,e3:=0})]
theorem ch2 {m:Int}:KQ {s:=sK,trips:=trip2,tick:=0,avoid:=[],most:=m} 0 (mkJ 0 2) tr2K:=
 .cons (js2 (rsM (by decide) (by decide +kernel)) (rsM (by decide) (by decide +kernel)) (by decide))
  (.cons (js2 (rsM (by decide) (by decide +kernel)) (rsM (by decide) (by decide +kernel)) (by decide))
   (.cons (js2 (rsM (by decide) (by decide +kernel)) (.inl ⟨rfl,by decide,.inr (by decide)⟩) (by decide)) (.nil _ _)))
theorem Q3J {a:List Int} (h:a.length≤10) {post:Bool→Prop} (hp:post true):Km a a post:=Q1g (by simp [maxLen];omega) (fun _=>hp) rfl
theorem Q3M {post:Bool→Prop} (hp:post true):V_taquinlaw24_small post:=by
 unfold V_taquinlaw24_small Xi
 show KR sK trip1 0 [] 20 _
 refine Q2u (by decide) (by decide) (by decide +kernel) (by decide +kernel) (fun S tr plan hS hc hA hle hl hpl hmin=>?ga) (fun hno=>?gb)
 case gb=>exact (hno (mk1 0) tr1K ⟨fun i x hx=>by
   have hi:i<1:=(List.getElem?_eq_some_iff.1 hx).1
   have:i=0:=by omega
   subst this;cases hx;rfl,fun i hi h4=>by
   have hi':1≤i:=hi
   rcases four h4 with rfl | rfl | rfl | rfl
   ·omega
   ·rfl
   ·rfl
   ·rfl⟩ ch1 (fun i x hx=>by
   have hi:i<1:=(List.getElem?_eq_some_iff.1 hx).1
   have:i=0:=by omega
   subst this;cases hx;decide) (by decide)).elim
 have hS':=stJ1 hS
 subst hS'
 have htot1:((plan.map List.length).sum:Nat)=2∧(∀w,w∈plan→w.length≤1000)∧plan.length=1:=by
  have hlen:plan.length=1:=hl
  have h0:=hpl 0 (by decide)
  have hlow:=low1 tr 0 (mk1 0) 0 (by decide) rfl hc hA
  have hup:=hmin tr1K ch1 (fun i x hx=>by
   have hi:i<1:=(List.getElem?_eq_some_iff.1 hx).1
   have:i=0:=by omega
   subst this;cases hx;decide) (by decide)
  have e1:costJ trip1.length tr1K=2:=by decide
  rw [e1] at hup
  have e2:((h1K 0:Nat):Int)=2:=by decide
  rw [e2] at hlow
  have hlenJ:=hc.len1 Q3T rfl (by show (0:Int)≤0;decide) (fun _ _=>Q2y (r:=0) (by decide))
  have hup':costJ 1 tr≤2:=hup
  match plan,hlen,h0 with
  | [w],_,h0=>
   simp only [List.getElem?_cons_zero,Option.some.injEq] at h0
   subst h0
   refine⟨by simp;omega,fun w hw=>by simp at hw;subst hw;omega,rfl⟩
 show KR sK trip2 0 [] 20 _
 refine Q2u (by decide) (by decide) (by decide +kernel) (by decide +kernel) (fun S2 tr2 plan2 hS2 hc2 hA2 hle2 hl2 hpl2 hmin2=>?gc) (fun hno=>?gd)
 case gd=>exact (hno (mkJ 0 2) tr2K ⟨fun i x hx=>by
   have hi:i<2:=(List.getElem?_eq_some_iff.1 hx).1
   have:i=0∨i=1:=by omega
   rcases this with rfl | rfl <;> cases hx <;> rfl,fun i hi h4=>by
   have hi':2≤i:=hi
   rcases four h4 with rfl | rfl | rfl | rfl
   ·omega
   ·omega
   ·rfl
   ·rfl⟩ ch2 (fun i x hx=>by
   have hi:i<2:=(List.getElem?_eq_some_iff.1 hx).1
   have:i=0∨i=1:=by omega
   rcases this with rfl | rfl <;> cases hx <;> decide) (by decide)).elim
 have hS2':=stJ2 hS2
 subst hS2'
 have htot2:((plan2.map List.length).sum:Nat)=5∧(∀w,w∈plan2→w.length≤1000)∧plan2.length=2:=by
  have hlen:plan2.length=2:=hl2
  have h0:=hpl2 0 (by decide)
  have h1:=hpl2 1 (by decide)
  have hlow:=low2 tr2 0 (mkJ 0 2) 0 2 (by decide) (by decide) rfl rfl hc2 hA2
  have hup:=hmin2 tr2K ch2 (fun i x hx=>by
   have hi:i<2:=(List.getElem?_eq_some_iff.1 hx).1
   have:i=0∨i=1:=by omega
   rcases this with rfl | rfl <;> cases hx <;> decide) (by decide)
  have e1:costJ trip2.length tr2K=5:=by decide
  rw [e1] at hup
  have e2:((h2K 0 2:Nat):Int)=5:=by decide
  rw [e2] at hlow
  have hup':costJ 2 tr2≤5:=hup
  have hlenJ:=hc2.len2 Q3T rfl (Q2y (r:=0) (by decide)) (Q2y (r:=2) (by decide))
  match plan2,hlen,h0,h1 with
  | [w,v],_,h0,h1=>
   simp only [List.getElem?_cons_zero,List.getElem?_cons_succ,Option.some.injEq] at h0 h1
   subst h0;subst h1
   refine⟨by simp;omega,fun w hw=>by simp at hw;rcases hw with rfl | rfl <;> omega,rfl⟩
 show KR sK trip2 0 [] 2 _
 refine Q2u (by decide) (by decide) (by decide +kernel) (by decide +kernel) (fun S3 tr3 plan3 hS3 hc3 hA3 hle3 _ _ _=>?_) (fun _=>?_)
 ·exfalso
  have:=stJ2 hS3
  subst this
  have hlow:=low2 tr3 0 (mkJ 0 2) 0 2 (by decide) (by decide) rfl rfl hc3 hA3
  have e2:((h2K 0 2:Nat):Int)=5:=by decide
  rw [e2] at hlow
  have:=costJ_le 2 tr3
  omega
 show Jn _ _
 refine Jn.mk (fun b=>b=true) (Zf (s:=sK) (c:=0) (acts:=[1]) (k:=0) Q4D (by decide) (by decide) (fun x hx=>by simp at hx;subst hx;unfold I64;decide) (by decide) ?_) (fun b e=>?_)
 ·have e1:Ya sK 0 [1] 0=[0,1]:=by decide +kernel
  rw [e1]
  refine Q3J (by decide) (Ite.t rfl (Zf (s:=sK) (c:=0) (acts:=[1]) (k:=1) Q4D (by decide) (by decide) (fun x hx=>by simp at hx;subst hx;unfold I64;decide) (by decide) ?_))
  have e2:Ya sK 0 [1] 1=[1]:=by decide +kernel
  rw [e2]
  exact Q3J (by decide) rfl
 ·subst e
  refine Jn.mk (fun b=>b=true) (Ite.t rfl (Q2E (by omega) htot1.2.1 ?_)) (fun b e=>by subst e;exact hp)
  rw [htot1.1]
  refine Ite.t (by decide) (Ite.t rfl (Q2E (by omega) htot2.2.1 ?_))
  rw [htot2.1]
  exact Ite.t (by decide) (Ite.t rfl rfl)
theorem Wr (s_1:ApiSite) (k0:OkApiSite s_1) (trips:List ApiTrip) (k1:(OkL Q0k) trips) (tick:Int) (k2:I64 tick) (avoid:List Int) (k3:(OkL I64) avoid) (most:Int) (k4:I64 most):V_taquinlaw24_CbsPlans s_1 trips tick avoid most (fun y=>y=true):=
 CbsPlans_of (fun h=>Q3M h) s_1 k0 trips tick avoid most
end Go.Taq
