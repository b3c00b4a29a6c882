/- The mathematics, several parts in one text. -/
import Derived.Test.YtdcfcldpjfepiaaGreatGB
/- The mathematics, part GC: the graph of a site, its fuel (chapter 33). -/
set_option linter.unusedVariables false
set_option linter.unusedSimpArgs false
namespace Go.Taq
open Go
def prS (s:ApiSite) (d x:Int):Int:=if d<0∨d≥6∨isC s.Floor x=false then 0 else cst 20000 (1+d) true+(if kd s.Floor x=3 then 0 else (spd s x-1)*3)
theorem Q46 {d:Int} (h0:0≤d) (h6:d<6):1≤cst 20000 (1+d) true∧cst 20000 (1+d) true≤21:=by
 have:d=0∨d=1∨d=2∨d=3∨d=4∨d=5:=by omega
 rcases this with e | e | e | e | e | e <;> subst e <;> decide
theorem Q0H {s:ApiSite} (hs:RS s) {d x:Int} (h0:0≤d) (h6:d<6) (hx:isC s.Floor x=true):1≤prS s d x∧prS s d x≤400:=by
 have h1:=Q46 h0 h6
 have h2:=Q2k hs x
 unfold prS
 rw [if_neg (by rw [hx];simp;omega)]
 split <;> omega
theorem GR {post:Int→Prop} (hp:post 3):KZ post:=by
 unfold KZ
 exact GZ (by omega) (by omega) hp
theorem YP {s:ApiSite} (ks:OkApiSite s) (hs:RS s) {d x:Int} {post:Int→Prop} (hp:post (prS s d x)):X1 s d x post:=by
 unfold X1 Xa Km
 refine Jn.mk (fun b=>b=(decide (d<0)||decide (d≥6)||!isC s.Floor x)) (Ite.mk (fun h=>by rw [h];rfl) (fun h=>Ite.mk (fun h2=>by rw [h,h2];rfl) (fun h2=>Jn.mk' (Ite.mk (fun h3=>?_) (fun h3=>?_))))) (fun b hb=>Ite.mk (fun h=>?_) (fun h=>?_))
 ·rw [h,h2]
  have:isC s.Floor x=decide (x<(s.Floor.Kind.length:Int)):=by unfold isC;rw [decide_eq_true (show 0≤x from of_decide_eq_true h3)];rfl
  rw [this];rfl
 ·rw [h,h2]
  have:isC s.Floor x=false:=by unfold isC;rw [decide_eq_false (show ¬0≤x from of_decide_eq_false h3)];rfl
  rw [this];rfl
 ·rw [h] at hb
  have hb':=hb.symm
  simp only [Bool.or_eq_true,decide_eq_true_eq,Bool.not_eq_true'] at hb'
  unfold prS at hp
  rw [if_pos (by rcases hb' with (h | h) | h;exact .inl h;exact .inr (.inl h);exact .inr (.inr h))] at hp;exact hp
 ·rw [h] at hb
  have hb':=hb.symm
  simp only [Bool.or_eq_false_iff,decide_eq_false_iff_not,Bool.not_eq_false'] at hb'
  obtain⟨⟨h1,h2⟩,h3⟩:=hb'
  have hsb:=Q2k hs x
  have hcb:=Q46 (d:=d) (by omega) (by omega)
  unfold prS at hp
  rw [if_neg (by rw [h3];simp;omega)] at hp
  rw [QH (x:=1+d) (by omega) (by omega)]
  refine GZ (by omega) (by omega) ⟨_,Wp h3,Jn.mk' (Ite.mk (fun h4=>YD ks hs (GR ?_)) (fun h4=>?_))⟩
  ·rw [if_neg (by simpa using h4)] at hp
   rw [QH (x:=spd s x-1) (by omega) (by omega),QH (x:=(spd s x-1)*3) (by omega) (by omega),QH (by omega) (by omega)]
   exact hp
  ·rw [if_pos (by simpa using h4),Int.add_zero] at hp
   exact hp
structure GrS (s:ApiSite) (L:List Int) (g:ReachGraph):Prop where
 lo:g.out.length=s.Floor.Kind.length
 li:g.in_.length=s.Floor.Kind.length
 lh:g.home.length=s.Floor.Kind.length
 out:∀e,e<s.Floor.Kind.length→∃l,g.out[e]?=some l∧l.length≤6∧∀x,x∈l↔∃d:Nat,d<6∧nx s.Floor e d=(x.to_,true)∧x.to_∉L∧x.price=prS s d x.to_
 inn:∀y,y<s.Floor.Kind.length→∃l,g.in_[y]?=some l∧l.length≤6*s.Floor.Kind.length∧(∀a,a∈l→0≤a∧a<s.Floor.Kind.length)∧∀e d:Nat,e<s.Floor.Kind.length→d<6→nx s.Floor e d=((y:Int),true)→(y:Int)∉L→(e:Int)∈l
 home:∀e:Nat,e<s.Floor.Kind.length→g.home[e]?=some (kd s.Floor e == 3)
theorem GrS.ok {s:ApiSite} {L:List Int} {g:ReachGraph} (hf:RF s.Floor) (hs:RS s) (h:GrS s L g) (hn:s.Floor.Kind.length≤1000):GOk s.Floor.Kind.length 400 g where
 n4:=hn
 p0:=by omega
 lo:=h.lo
 li:=h.li
 lh:=h.lh
 to_:=fun c l x hl hx=>by
  have hc:c<s.Floor.Kind.length:=by rw [←h.lo];exact (List.getElem?_eq_some_iff.1 hl).1
  obtain⟨l',e1,_,e3⟩:=h.out c hc
  rw [hl] at e1;cases e1
  obtain⟨d,d6,hnx,_,hp⟩:=(e3 x).1 hx
  have hok:=Zy hf (c:=(c:Int)) (d:=(d:Int)) (by rw [hnx])
  rw [hnx] at hok
  have hb:=Q0H hs (d:=(d:Int)) (x:=x.to_) (by omega) (by omega) hok.2.1
  have:=K0.1 hok.2.1
  exact⟨by omega,by omega,by omega⟩
 inn:=fun y l c hl hc=>by
  have hy:y<s.Floor.Kind.length:=by rw [←h.li];exact (List.getElem?_eq_some_iff.1 hl).1
  obtain⟨l',e1,_,e3,_⟩:=h.inn y hy
  rw [hl] at e1;cases e1
  exact e3 c hc
 all:=fun c l x hl hx m hm=>by
  have hc:c<s.Floor.Kind.length:=by rw [←h.lo];exact (List.getElem?_eq_some_iff.1 hl).1
  obtain⟨l',e1,_,e3⟩:=h.out c hc
  rw [hl] at e1;cases e1
  obtain⟨d,d6,hnx,hL,hp⟩:=(e3 x).1 hx
  have hok:=Zy hf (c:=(c:Int)) (d:=(d:Int)) (by rw [hnx])
  rw [hnx] at hok
  have ht:=K0.1 hok.2.1
  have e:((x.to_.toNat:Nat):Int)=x.to_:=by omega
  obtain⟨m',e4,_,_,e5⟩:=h.inn x.to_.toNat (by omega)
  rw [hm] at e4;cases e4
  exact e5 c d hc d6 (by rw [e];exact hnx) (by rw [e];exact hL)
 lol:=fun c l hl=>by
  have hc:c<s.Floor.Kind.length:=by rw [←h.lo];exact (List.getElem?_eq_some_iff.1 hl).1
  obtain⟨l',e1,e2,_⟩:=h.out c hc
  rw [hl] at e1;cases e1;exact e2
 lil:=fun y l hl=>by
  have hy:y<s.Floor.Kind.length:=by rw [←h.li];exact (List.getElem?_eq_some_iff.1 hl).1
  obtain⟨l',e1,e2,_⟩:=h.inn y hy
  rw [hl] at e1;cases e1;omega
def prB (c d e d':Nat):Prop:=e<c∧d'<6∨e=c∧d'<d
structure GI (s:ApiSite) (L:List Int) (c d:Nat) (o:List (List ReachStep)) (i:List (List Int)):Prop where
 lo:o.length=s.Floor.Kind.length
 li:i.length=s.Floor.Kind.length
 out:∀e,e<s.Floor.Kind.length→∃l,o[e]?=some l∧(l.length≤6∧(e=c→l.length≤d)∧(c<e→l=[]))∧∀x,x∈l↔∃d':Nat,prB c d e d'∧nx s.Floor e d'=(x.to_,true)∧x.to_∉L∧x.price=prS s d' x.to_
 inn:∀y,y<s.Floor.Kind.length→∃l,i[y]?=some l∧l.length≤6*c+d∧(∀a,a∈l→0≤a∧a<s.Floor.Kind.length)∧∀e d':Nat,prB c d e d'→nx s.Floor e d'=((y:Int),true)→(y:Int)∉L→(e:Int)∈l
section
variable {s:ApiSite} {L:List Int} {c d:Nat} {o:List (List ReachStep)} {i:List (List Int)}
theorem XR {e d':Nat}:prB c (d+1) e d'↔prB c d e d'∨(e=c∧d'=d):=by unfold prB;omega
theorem GI.skip (h:GI s L c d o i) (hd:d<6) (hno:∀y,nx s.Floor c d=(y,true)→y∈L):GI s L c (d+1) o i:=by
 refine⟨h.lo,h.li,fun e he=>?_,fun y hy=>?_⟩
 ·obtain⟨l,e1,⟨e2,e3,e4⟩,e5⟩:=h.out e he
  refine⟨l,e1,⟨e2,fun h=>by have:=e3 h;omega,e4⟩,fun x=>?_⟩
  rw [e5]
  constructor
  ·rintro⟨d',h1,h2⟩;exact⟨d',XR.2 (.inl h1),h2⟩
  ·rintro⟨d',h1,h2⟩
   rcases XR.1 h1 with h1 | ⟨h3,h4⟩
   ·exact⟨d',h1,h2⟩
   ·subst h3;subst h4;exact absurd (hno _ h2.1) h2.2.1
 ·obtain⟨l,e1,e2,e3,e4⟩:=h.inn y hy
  refine⟨l,e1,by omega,e3,fun e d' h1 h2 h3=>?_⟩
  rcases XR.1 h1 with h1 | ⟨h5,h6⟩
  ·exact e4 e d' h1 h2 h3
  ·subst h5;subst h6;exact absurd (hno _ h2) h3
theorem GI.add (hf:RF s.Floor) (h:GI s L c d o i) (hc:c<s.Floor.Kind.length) (hd:d<6) {y:Int} (hy:nx s.Floor c d=(y,true)) (hL:y∉L) {l:List ReachStep} {m:List Int} (hl:o[c]?=some l) (hm:i[y.toNat]?=some m):
  GI s L c (d+1) (o.set c (l++[{to_:=y,price:=prS s d y}])) (i.set y.toNat (m++[(c:Int)])):=by
 have hok:=Zy hf (c:=(c:Int)) (d:=(d:Int)) (by rw [hy])
 rw [hy] at hok
 have ht:=K0.1 hok.2.1
 refine⟨by rw [List.length_set];exact h.lo,by rw [List.length_set];exact h.li,fun e he=>?_,fun z hz=>?_⟩
 ·obtain⟨l',e1,⟨e2,e3,e4⟩,e5⟩:=h.out e he
  by_cases ec:e=c
  ·subst ec
   rw [hl] at e1;cases e1
   refine⟨_,List.getElem?_set_self (by rw [h.lo];exact hc),⟨?_,fun _=>?_,fun h=>by omega⟩,fun x=>?_⟩
   ·have:=e3 rfl;simp;omega
   ·have:=e3 rfl;simp;omega
   ·rw [List.mem_append,e5,List.mem_singleton]
    constructor
    ·rintro (⟨d',h1,h2⟩ | h1)
     ·exact⟨d',XR.2 (.inl h1),h2⟩
     ·subst h1;exact⟨d,XR.2 (.inr ⟨rfl,rfl⟩),hy,hL,rfl⟩
    ·rintro⟨d',h1,h2,h3,h4⟩
     rcases XR.1 h1 with h1 | ⟨_,h6⟩
     ·exact .inl ⟨d',h1,h2,h3,h4⟩
     ·subst h6
      rw [hy] at h2
      have h7:y=x.to_:=by injection h2
      refine .inr ?_
      obtain⟨a,b⟩:=x
      simp only at h7 h4
      subst h7;subst h4;rfl
  ·refine⟨l',by rw [List.getElem?_set_ne (Ne.symm ec)];exact e1,⟨e2,fun h=>absurd h ec,e4⟩,fun x=>?_⟩
   rw [e5]
   constructor
   ·rintro⟨d',h1,h2⟩;exact⟨d',XR.2 (.inl h1),h2⟩
   ·rintro⟨d',h1,h2⟩
    rcases XR.1 h1 with h1 | ⟨h3,_⟩
    ·exact⟨d',h1,h2⟩
    ·exact absurd h3 ec
 ·obtain⟨m',e1,e2,e3,e4⟩:=h.inn z hz
  by_cases ez:z=y.toNat
  ·subst ez
   rw [hm] at e1;cases e1
   refine⟨_,List.getElem?_set_self (by rw [h.li];exact hz),by simp;omega,fun a ha=>?_,fun e d' h1 h2 h3=>?_⟩
   ·rcases List.mem_append.1 ha with ha | ha
    ·exact e3 a ha
    ·simp at ha;subst ha;omega
   ·rcases XR.1 h1 with h1 | ⟨h5,h6⟩
    ·exact List.mem_append_left _ (e4 e d' h1 h2 h3)
    ·subst h5;simp
  ·refine⟨m',by rw [List.getElem?_set_ne (Ne.symm ez)];exact e1,by omega,e3,fun e d' h1 h2 h3=>?_⟩
   rcases XR.1 h1 with h1 | ⟨h5,h6⟩
   ·exact e4 e d' h1 h2 h3
   ·subst h5;subst h6
    rw [hy] at h2
    have h7:y=(z:Int):=by injection h2
    exact absurd (by omega) ez
theorem GI.next (h:GI s L c 6 o i):GI s L (c+1) 0 o i:=by
 have hp:∀e d':Nat,prB (c+1) 0 e d'↔prB c 6 e d':=fun e d'=>by unfold prB;omega
 refine⟨h.lo,h.li,fun e he=>?_,fun y hy=>?_⟩
 ·obtain⟨l,e1,⟨e2,e3,e4⟩,e5⟩:=h.out e he
  refine⟨l,e1,⟨e2,fun h=>by rw [e4 (by omega)];simp,fun h=>e4 (by omega)⟩,fun x=>?_⟩
  rw [e5]
  exact⟨fun ⟨d',h1,h2⟩=>⟨d',(hp e d').2 h1,h2⟩,fun ⟨d',h1,h2⟩=>⟨d',(hp e d').1 h1,h2⟩⟩
 ·obtain⟨l,e1,e2,e3,e4⟩:=h.inn y hy
  exact⟨l,e1,by omega,e3,fun e d' h1 h2 h3=>e4 e d' ((hp e d').1 h1) h2 h3⟩
theorem Ws (ks:OkApiSite s) (hf:RF s.Floor) (hs:RS s) (hn:s.Floor.Kind.length≤1000) (hL:L.length≤maxLen) {post:ReachGraph→Prop} (hp:∀g,GrS s L g→post g):Kw s L post:=by
 unfold Kw
 refine⟨by omega,by omega,by omega,?_⟩
 refine Jn.mk (fun t:List (List ReachStep)×List (List Int)×List Bool=>GI s L s.Floor.Kind.length 0 t.1 t.2.1∧t.2.2.length=s.Floor.Kind.length∧∀e:Nat,e<s.Floor.Kind.length→t.2.2[e]?=some (kd s.Floor e == 3))
  (Q3i s.Floor.Kind.length (fun t:List (List ReachStep)×List (List Int)×List Bool×Int=>t.2.2.2) (fun c t=>GI s L c 0 t.1 t.2.1∧t.2.2.1.length=s.Floor.Kind.length∧∀e:Nat,e<c→t.2.2.1[e]?=some (kd s.Floor e == 3)) (by unfold maxLen;omega) rfl ⟨⟨by simp,by simp,fun e he=>⟨[],by simp [he],⟨by simp,fun _=>by simp,fun _=>rfl⟩,fun x=>⟨fun h=>(by cases h),fun ⟨d',h1,_⟩=>(by unfold prB at h1;omega)⟩⟩,fun y hy=>⟨[],by simp [hy],by simp,fun a ha=>(by cases ha),fun e d' h1=>(by unfold prB at h1;omega)⟩⟩,by simp,fun e he=>by omega⟩ (fun c t hc ht hI=>?_) (fun t hI=>hI)) (fun t hI=>hp _ ⟨hI.1.lo,hI.1.li,hI.2.1,fun e he=>?_,fun y hy=>?_,hI.2.2⟩)
 ·obtain⟨hG,hl,hh⟩:=hI
  have hcc:isC s.Floor (c:Int)=true:=K0.2 (by omega)
  have hhx:=List.getElem?_eq_getElem (show c<t.2.2.1.length by omega)
  refine Jn.mk (fun u:List (List ReachStep)×List (List Int)×List Bool=>GI s L (c+1) 0 u.1 u.2.1∧u.2.2.length=s.Floor.Kind.length∧∀e:Nat,e<c+1→u.2.2[e]?=some (kd s.Floor e == 3)) ?_ (fun u hu=>⟨by rw [ht],hu⟩)
  unfold Km
  rw [ht]
  refine⟨_,Wp hcc,_,QG rfl hhx,Jn.mk (fun u:List (List ReachStep)×List (List Int)=>GI s L c 6 u.1 u.2) (Q3i 6 (fun t:List (List ReachStep)×List (List Int)×Int=>t.2.2) (fun d t=>GI s L c d t.1 t.2.1) (by unfold maxLen;omega) rfl hG (fun d u hd hu hI=>?_) (fun u hI=>hI)) (fun u hu=>⟨hu.next,by show (t.2.2.1.set _ _).length=_;rw [List.length_set];exact hl,fun e he=>?_⟩)⟩
  ·rw [hu]
   refine WR hf (Jn.mk (fun b=>b=true↔(nx s.Floor c d).2=true∧(nx s.Floor c d).1∉L) (Ite.mk (fun h1=>Kl hL ?_) (fun h1=>?_)) (fun b hb=>?_))
   ·have h1':(nx s.Floor c d).2=true:=h1
    simp [h1']
   ·have h1':(nx s.Floor c d).2=false:=h1
    simp [h1']
   ·refine Jn.mk (fun u:List (List ReachStep)×List (List Int)=>GI s L c (d+1) u.1 u.2) (Ite.mk (fun h1=>?_) (fun h1=>?_)) (fun u hu2=>⟨rfl,hu2⟩)
    ·obtain⟨g1,g2⟩:=hb.1 h1
     generalize hy:(nx s.Floor c d).1=y at g2
     have hnx:nx s.Floor c d=(y,true):=by rw [←hy,←g1]
     have hok:=Zy hf (c:=(c:Int)) (d:=(d:Int)) g1
     rw [hy] at hok
     have hty:=K0.1 hok.2.1
     obtain⟨l,e1,⟨e2,_⟩,_⟩:=hI.out c hc
     obtain⟨m,e5,e6,_⟩:=hI.inn y.toNat (by omega)
     refine⟨l,QG rfl e1,YP ks hs ⟨by simp;omega,m,QG (n:=y.toNat) (by omega) e5,by simp;omega,?_⟩⟩
     have:=hI.add hf hc hd hnx g2 e1 e5
     show GI s L c (d+1) (u.1.set (Int.toNat (c:Int)) _) (u.2.1.set (Int.toNat y) _)
     simpa using this
    ·refine hI.skip hd (fun y hy=>Classical.byContradiction fun hno=>?_)
     have:b=true:=hb.2 (by rw [hy];exact⟨rfl,hno⟩)
     rw [this] at h1;cases h1
  ·have hn:Int.toNat (c:Int)=c:=by simp
   show (t.2.2.1.set (Int.toNat (c:Int)) _)[e]?=_
   rw [hn]
   by_cases ee:e=c
   ·subst ee
    rw [List.getElem?_set_self (by omega)]
   ·rw [List.getElem?_set_ne (Ne.symm ee)];exact hh e (by omega)
 ·obtain⟨l,e1,⟨e2,_⟩,e5⟩:=hI.1.out e he
  refine⟨l,e1,e2,fun x=>?_⟩
  rw [e5]
  exact⟨fun ⟨d',h1,h2⟩=>⟨d',by unfold prB at h1;omega,h2⟩,fun ⟨d',h1,h2⟩=>⟨d',by unfold prB;omega,h2⟩⟩
 ·obtain⟨l,e1,e2,e3,e4⟩:=hI.1.inn y hy
  exact⟨l,e1,by omega,e3,fun e d' h1 h2 h3=>e4 e d' (by unfold prB;omega) h3⟩
end
end Go.Taq
/- The mathematics, part GD: the fuel of a site's cells is right (chapter 33). -/
set_option linter.unusedVariables false
set_option linter.unusedSimpArgs false
namespace Go.Taq
open Go
theorem Q48 {α:Type} (w:α→Nat) {K:Nat}:∀{l:List α},(∀x,x∈l→w x≤K)→(l.map w).sum≤l.length*K
 | [],_=>by simp
 | a :: l,h=>by
  have h1:=h a (by simp)
  have h2:=Q48 w (l:=l) (fun x hx=>h x (by simp [hx]))
  rw [List.map_cons,List.sum_cons,List.length_cons,Nat.add_mul];omega
section
variable {g:ReachGraph} {n:Nat} {P K b:Int} {may:Nat→Prop} {f0 f q:List Int}
theorem Q5q (hg:GOk n P g) (hK:0≤K∧K≤20000000) (hl:f.length=n) (ht:∀c,c<n→fu f c≤K+P*n):2*WF (K+P*n).toNat f+n≤100000000000:=by
 have hb:=Q1B hg hK
 have h1:WF (K+P*n).toNat f≤f.length*((K+P*n).toNat+1):=Q48 _ (fun x hx=>by
  obtain⟨i,hi⟩:=List.getElem?_of_mem hx
  have hil:=(List.getElem?_eq_some_iff.1 hi).1
  have:=ht i (by omega)
  rw [Q0v hil] at hi
  have e:=Option.some.inj hi
  rw [e] at this
  unfold wtF;split <;> omega)
 have h2:=hg.n4
 have h3:f.length*((K+P*n).toNat+1)≤1000*30000001:=Nat.mul_le_mul (by omega) (by omega)
 omega
theorem SInv.least (hg:GOk n P g) (h:SInv g b n P K may f0 f []) (hk:∀c,c<n→¬may c→g.home[c]?=some false→∀m,Wg g b c m→0≤fu f0 c∧fu f0 c≤m):FOk g b n f where
 len:=h.len
 lo:=h.lo
 sound:=h.sound
 least:=fun c hc m hm=>by
  induction hm with
  | home hh=>rw [h.home _ hc hh];omega
  | step hh hl hx hb hm ih=>
   rename_i c l x m
   obtain⟨⟨t0,t1⟩,p1,p2⟩:=hg.to_ c l x hl hx
   have h1:=ih (by omega)
   by_cases hmay:may c
   ·have h2:=h.relax c l x hmay hh hl hx hb h1.1 (by simp)
    omega
   ·rw [h.keep c hc hmay]
    exact hk c hc hmay hh _ (.step hh hl hx hb hm)
theorem Zo (hg:GOk n P g) {post:List Int→Prop} (hp:∀f,FOk g (-1) n f→(∀c,c<n→fu f c≤P*n)→post f):K7 g post:=by
 have hlh:=hg.lh
 have hn4:=hg.n4
 have hp0:=hg.p0
 unfold K7
 refine⟨by omega,?_⟩
 have e0:(List.replicate (Int.toNat (g.home.length:Int)) (0:Int)).length=n:=by simp [hlh]
 refine Jn.mk (fun t:List Int×List Int=>t.1.length=n∧(∀c,c<n→∃h,g.home[c]?=some h∧fu t.1 c=(if h=true then 0 else -1)∧(h=true→(c:Int)∈t.2))∧(∀x,x∈t.2→0≤x∧x<n)∧t.2.length≤n)
  (Kq (xs:=g.home) (by unfold maxLen;omega) (fun t:List Int×List Int×Int=>t.2.2) (fun i t=>t.1.length=n∧(∀c,c<i→∃h,g.home[c]?=some h∧fu t.1 c=(if h=true then 0 else -1)∧(h=true→(c:Int)∈t.2.1))∧(∀x,x∈t.2.1→0≤x∧x<n)∧t.2.1.length≤i) rfl ⟨e0,fun c hc=>(by omega),fun x hx=>(by cases hx),by simp⟩ (fun i h t hx ht hI=>?_) (fun t hI=>by rw [hlh] at hI;exact hI)) (fun t ht=>?_)
 ·obtain⟨i1,i2,i3,i4⟩:=hI
  have hi:=(List.getElem?_eq_some_iff.1 hx).1
  have hin:i<n:=by omega
  rw [ht]
  have hn:Int.toNat (i:Int)=i:=by simp
  refine⟨_,Yr (by omega),Jn.mk (fun u:List Int×List Int=>u.1.length=n∧(∀c,c<i+1→∃h,g.home[c]?=some h∧fu u.1 c=(if h=true then 0 else -1)∧(h=true→(c:Int)∈u.2))∧(∀x,x∈u.2→0≤x∧x<n)∧u.2.length≤i+1) (Ite.mk (fun hh=>⟨by simp;omega,?_⟩) (fun hh=>?_)) (fun u hu=>⟨rfl,hu⟩)⟩
  ·rw [hn,List.set_set]
   have hset:∀d,fu (t.1.set i 0) d=if d=i then 0 else fu t.1 d:=fun d=>YU (by omega)
   refine⟨by rw [List.length_set];exact i1,fun c hc=>?_,fun x hx=>?_,by simp;omega⟩
   ·by_cases e:c=i
    ·subst e
     exact⟨h,hx,by show fu (t.1.set c 0) c=_;rw [hset,if_pos rfl,if_pos hh],fun _=>by simp⟩
    ·obtain⟨h',a1,a2,a3⟩:=i2 c (by omega)
     exact⟨h',a1,by show fu (t.1.set i 0) c=_;rw [hset,if_neg e];exact a2,fun hb=>List.mem_append_left _ (a3 hb)⟩
   ·rcases List.mem_append.1 hx with hx | hx
    ·exact i3 x hx
    ·simp at hx;subst hx;omega
  ·rw [hn]
   have hset:∀d,fu (t.1.set i (-1)) d=if d=i then -1 else fu t.1 d:=fun d=>YU (by omega)
   refine⟨by rw [List.length_set];exact i1,fun c hc=>?_,i3,by show t.2.1.length≤_;omega⟩
   by_cases e:c=i
   ·subst e
    exact⟨h,hx,by show fu (t.1.set c (-1)) c=_;rw [hset,if_pos rfl,if_neg (by rw [hh];simp)],fun hb=>by rw [hh] at hb;cases hb⟩
   ·obtain⟨h',a1,a2,a3⟩:=i2 c (by omega)
    exact⟨h',a1,by show fu (t.1.set i (-1)) c=_;rw [hset,if_neg e];exact a2,a3⟩
 ·obtain⟨t1,t2,t3,t4⟩:=ht
  have hnnP:0≤P*(nn t.1:Int):=Int.mul_nonneg (by omega) (by omega)
  have hS:SInv g (-1) n P 0 (fun _=>True) t.1 t.1 t.2:=by
   refine⟨t1,fun c hc=>?_,fun c hc=>?_,fun c hc h0=>?_,fun c hc hh=>?_,fun c l x _ hh hl hx hxb hx0 hxq=>?_,t3,fun c hc h=>absurd trivial h⟩
   ·obtain⟨h,a1,a2,_⟩:=t2 c hc
    rw [a2];split <;> omega
   ·obtain⟨h,a1,a2,_⟩:=t2 c hc
    rw [a2];split <;> omega
   ·obtain⟨h,a1,a2,_⟩:=t2 c hc
    rw [a2] at h0 ⊢
    by_cases hb:h=true
    ·rw [if_pos hb];rw [hb] at a1;exact .home a1
    ·rw [if_neg hb] at h0;omega
   ·obtain⟨h,a1,a2,_⟩:=t2 c hc
    rw [hh] at a1
    have:=Option.some.inj a1
    rw [a2,←this,if_pos rfl]
   ·exfalso
    obtain⟨⟨s0,s1⟩,_⟩:=hg.to_ c l x hl hx
    obtain⟨h,a1,a2,a3⟩:=t2 x.to_.toNat (by omega)
    rw [a2] at hx0
    by_cases hb:h=true
    ·have:=a3 hb
     rw [show ((x.to_.toNat:Nat):Int)=x.to_ by omega] at this
     exact hxq this
    ·rw [if_neg hb] at hx0;omega
  have hwf:=Q5q (K:=0) hg (by omega) t1 (fun c hc=>hS.top hg hc)
  unfold Qs
  haveI:DecidablePred (fun _:Nat=>True):=fun _=>.isTrue trivial
  refine Q2m (may:=fun _=>True) (f0:=t.1) (K:=0) hg (by omega) (M:=Kd) (fun c q hc hq=>?_) hS (by omega) (fun f' hf'=>hp f' (hf'.least hg (fun c hc h=>absurd trivial h)) (fun c hc=>by have:=hf'.top hg hc;omega))
  unfold Kd
  simpa using hq
end
/-! ## walks on the site -/
inductive WL (s:ApiSite) (L:List Int):Nat→Nat→Prop where
 | home {c:Nat} (hc:c<s.Floor.Kind.length) (h:kd s.Floor c=3):WL s L c 0
 | step {c d y m:Nat} (hc:c<s.Floor.Kind.length) (h:kd s.Floor c≠3) (hd:d<6) (hn:nx s.Floor c d=((y:Int),true)) (hL:(y:Int)∉L) (hm:WL s L y m):WL s L c (m+(prS s d y).toNat)
theorem WL.congr {s:ApiSite} {L L':List Int} (h:∀y:Nat,(y:Int)∈L'→(y:Int)∈L) {c m:Nat} (hw:WL s L c m):WL s L' c m:=by
 induction hw with
 | home hc hh=>exact .home hc hh
 | step hc hh hd hn hL hm ih=>exact .step hc hh hd hn (fun hm=>hL (h _ hm)) ih
theorem WL.lt {s:ApiSite} {L:List Int} {c m:Nat} (h:WL s L c m):c<s.Floor.Kind.length:=by
 cases h with
 | home h=>exact h
 | step h=>exact h
theorem Q5Q {s:ApiSite} {L:List Int} {g:ReachGraph} {b:Int} (hf:RF s.Floor) (h:GrS s L g) {c m:Nat}:Wg g b c m↔WL s (b :: L) c m:=by
 constructor
 ·intro hw
  induction hw with
  | home hh=>
   rename_i c
   have hc:c<s.Floor.Kind.length:=by rw [←h.lh];exact (List.getElem?_eq_some_iff.1 hh).1
   rw [h.home c hc] at hh
   exact .home hc (by simpa using Option.some.inj hh)
  | step hh hl hx hb hm ih=>
   rename_i c l x m
   have hc:c<s.Floor.Kind.length:=by rw [←h.lh];exact (List.getElem?_eq_some_iff.1 hh).1
   rw [h.home c hc] at hh
   obtain⟨l',e1,_,e3⟩:=h.out c hc
   rw [hl] at e1;cases e1
   obtain⟨d,d6,hnx,hL,hp⟩:=(e3 x).1 hx
   have hok:=Zy hf (c:=(c:Int)) (d:=(d:Int)) (by rw [hnx])
   rw [hnx] at hok
   have ht:=K0.1 hok.2.1
   have e:((x.to_.toNat:Nat):Int)=x.to_:=by omega
   rw [hp]
   have:=WL.step (s:=s) (L:=b :: L) hc (by simpa using Option.some.inj hh) d6 (by rw [e];exact hnx) (by rw [e];simp;exact⟨hb,hL⟩) ih
   rw [e] at this;exact this
 ·intro hw
  induction hw with
  | home hc hh=>exact .home (by rw [h.home _ hc,hh];rfl)
  | step hc hh hd hn hL hm ih=>
   rename_i c d y m
   obtain⟨l,e1,_,e3⟩:=h.out c hc
   have hx:=(e3 {to_:=(y:Int),price:=prS s d y}).2 ⟨d,hd,hn,fun hm=>hL (List.mem_cons_of_mem _ hm),rfl⟩
   have e:((y:Int)).toNat=y:=by simp
   exact Wg.step (x:={to_:=(y:Int),price:=prS s d y}) (by rw [h.home _ hc];simp [hh]) e1 hx (fun e=>hL (by rw [←e];exact List.mem_cons_self ..)) (by show Wg g b ((y:Int)).toNat m;rw [e];exact ih)
structure FuL (s:ApiSite) (L:List Int) (f:List Int):Prop where
 len:f.length=s.Floor.Kind.length
 lo:∀c,c<s.Floor.Kind.length→-1≤fu f c
 sound:∀c,c<s.Floor.Kind.length→0≤fu f c→WL s L c (fu f c).toNat
 least:∀c m,WL s L c m→0≤fu f c∧fu f c≤m
theorem FuL.of {s:ApiSite} {L L':List Int} {g:ReachGraph} {b:Int} {f:List Int} (hf:RF s.Floor) (h:GrS s L g) (hF:FOk g b s.Floor.Kind.length f) (hL:∀y:Nat,(y:Int)∈b :: L↔(y:Int)∈L'):FuL s L' f where
 len:=hF.len
 lo:=hF.lo
 sound:=fun c hc h0=>((Q5Q hf h).1 (hF.sound c hc h0)).congr (fun y hy=>(hL y).2 hy)
 least:=fun c m hm=>hF.least c hm.lt m ((Q5Q hf h).2 (hm.congr (fun y hy=>(hL y).1 hy)))
theorem FuL.uniq {s:ApiSite} {L L' f f':List Int} (h:FuL s L f) (h':FuL s L' f') (hL:∀y:Nat,(y:Int)∈L↔(y:Int)∈L'):f=f':=by
 refine List.ext_getElem? fun i=>?_
 by_cases hi:i<s.Floor.Kind.length
 ·rw [Q0v (by rw [h.len];exact hi),Q0v (by rw [h'.len];exact hi)]
  have l1:=h.lo i hi;have l2:=h'.lo i hi
  by_cases h0:0≤fu f i
  ·have g1:=h'.least i _ ((h.sound i hi h0).congr (fun y hy=>(hL y).2 hy))
   have g2:=h.least i _ ((h'.sound i hi g1.1).congr (fun y hy=>(hL y).1 hy))
   congr 1;omega
  ·by_cases h1:0≤fu f' i
   ·have g2:=h.least i _ ((h'.sound i hi h1).congr (fun y hy=>(hL y).1 hy))
    omega
   ·congr 1;omega
 ·rw [List.getElem?_eq_none (by rw [h.len];omega),List.getElem?_eq_none (by rw [h'.len];omega)]
theorem Q1w {s:ApiSite} {L:List Int} (ks:OkApiSite s) (hf:RF s.Floor) (hs:RS s) (hn:s.Floor.Kind.length≤1000) (hL:L.length≤maxLen) {post:List Int→Prop} (hp:∀f,FuL s L f→post f):Xz s L post:=by
 unfold Xz
 exact Ws ks hf hs hn hL (fun g hg=>Zo (hg.ok hf hs hn) (fun f hF _=>hp f (.of hf hg hF (fun y=>by simp))))
end Go.Taq
/- The mathematics, part GE: the cells whose best ways lead over a cell, and their fuel without it (chapter 33). -/
set_option linter.unusedVariables false
set_option linter.unusedSimpArgs false
namespace Go.Taq
open Go
theorem Q1o {α:Type} {l:List α} (h:l.Nodup) {i j:Nat} {a:α} (hi:l[i]?=some a) (hj:l[j]?=some a):i=j:=by
 obtain⟨h1,e1⟩:=List.getElem?_eq_some_iff.1 hi
 obtain⟨h2,e2⟩:=List.getElem?_eq_some_iff.1 hj
 have hp:=List.pairwise_iff_getElem.1 h
 rcases Nat.lt_trichotomy i j with hlt | he | hlt
 ·exact absurd (e1.trans e2.symm) (hp i j h1 h2 hlt)
 ·exact he
 ·exact absurd (e2.trans e1.symm) (hp j i h2 h1 hlt)
def Par (g:ReachGraph) (f:List Int) (c y:Nat):Prop:=g.home[c]?=some false∧0≤fu f c∧0≤fu f y∧∃l x,g.out[c]?=some l∧x∈l∧x.to_=(y:Int)∧fu f c=fu f y+x.price
structure ChOk (g:ReachGraph) (n:Nat) (f:List Int) (i:Nat) (ch:List (List Int)):Prop where
 len:ch.length=n
 mem:∀(y:Nat) (l:List Int),ch[y]?=some l→l.Nodup∧∀a,a∈l→∃c:Nat,a=(c:Int)∧c<i∧Par g f c y
 uniq:∀(y y':Nat) (l l':List Int) (a:Int),ch[y]?=some l→ch[y']?=some l'→a∈l→a∈l'→y=y'
 all:∀c,c<i→g.home[c]?=some false→0≤fu f c→∃(y:Nat) (l:List Int),ch[y]?=some l∧(c:Int)∈l
inductive Und (ch:List (List Int)) (x:Nat):Nat→Prop where
 | one {c:Nat} {l:List Int} (h:ch[x]?=some l) (hc:(c:Int)∈l):Und ch x c
 | step {c y:Nat} {l:List Int} (hy:Und ch x y) (h:ch[y]?=some l) (hc:(c:Int)∈l):Und ch x c
section
variable {g:ReachGraph} {n:Nat} {P:Int} {f:List Int} {ch:List (List Int)} {x:Nat}
theorem Par.lt (hg:GOk n P g) {c y:Nat} (h:Par g f c y):fu f y<fu f c:=by
 obtain⟨_,_,_,l,z,hl,hz,_,he⟩:=h
 have:=(hg.to_ c l z hl hz).2.1
 omega
theorem ChOk.par {i:Nat} (h:ChOk g n f i ch) {y c:Nat} {l:List Int} (hl:ch[y]?=some l) (hc:(c:Int)∈l):c<i∧Par g f c y:=by
 obtain⟨c',e,h1,h2⟩:=(h.mem y l hl).2 _ hc
 have:c=c':=by omega
 subst this;exact⟨h1,h2⟩
theorem Q1u (hg:GOk n P g) (h:ChOk g n f n ch) {c:Nat} (hu:Und ch x c):fu f x<fu f c∧c<n∧g.home[c]?=some false∧0≤fu f x:=by
 induction hu with
 | one hl hc=>have:=h.par hl hc;exact⟨this.2.lt hg,this.1,this.2.1,this.2.2.2.1⟩
 | step hy hl hc ih=>have:=h.par hl hc;have h2:=this.2.lt hg;exact⟨by omega,this.1,this.2.1,ih.2.2.2⟩
theorem ChOk.row {i:Nat} (h:ChOk g n f i ch) {y:Nat} (hy:y<n):∃l,ch[y]?=some l:=⟨_,List.getElem?_eq_getElem (by rw [h.len];exact hy)⟩
theorem ChOk.rlen (h:ChOk g n f n ch) {y:Nat} {l:List Int} (hl:ch[y]?=some l):l.length≤n:=Wc n l (h.mem y l hl).1 (fun a ha=>by
 obtain⟨c,e,h1,_⟩:=(h.mem y l hl).2 a ha
 omega)
structure Blw (ch:List (List Int)) (x n:Nat) (bl:List Int):Prop where
 nd:bl.Nodup
 mem:∀c:Nat,(c:Int)∈bl↔Und ch x c
 rng:∀a,a∈bl→0≤a∧a<n
theorem Q2B (hg:GOk n P g) (h:ChOk g n f n ch) {row:List Int} (hx:ch[x]?=some row) {K:List Int→Prop} (hK:∀bl,Blw ch x n bl→K bl):
  Jn (fun (J10:(List Int)→Prop)=>Loop (fun (s11:List Int×Int) Y12=>Ite (decide (s11.2<(s11.1.length:Int))) (∃x18,idx s11.1 s11.2=some x18∧∃x19,idx ch x18=some x19∧(s11.1.length+x19.length≤1099511627776)∧Y12 ((s11.1++x19),w64 (s11.2+1))) (J10 s11.1)) (row,0)) (fun (x9:List Int)=>K x9):=by
 have hn4:=hg.n4
 have hrow:=h.mem x row hx
 refine Jn.mk (fun bl=>Blw ch x n bl) (Loop.mk (fun t:List Int×Int=>∃i:Nat,t.2=(i:Int)∧i≤t.1.length∧t.1.Nodup∧(∀a,a∈t.1→0≤a∧a<n)∧(∀c:Nat,(c:Int)∈t.1→Und ch x c)∧(∀a,a∈row→a∈t.1)∧(∀(j y:Nat) (l:List Int),j<i→t.1[j]?=some (y:Int)→ch[y]?=some l→∀a,a∈l→a∈t.1) ∧
   (∀a,a∈t.1→a∈row∨∃(j y:Nat) (l:List Int),j<i∧t.1[j]?=some (y:Int)∧ch[y]?=some l∧a∈l)) (fun t=>n-t.2.toNat) ⟨0,rfl,by omega,hrow.1,fun a ha=>?_,fun c hc=>.one hx hc,fun a ha=>ha,fun j y l hj=>by omega,fun a ha=>.inl ha⟩ ?_) (fun bl hbl=>hK bl hbl)
 ·obtain⟨c,e,h1,_⟩:=hrow.2 a ha;omega
 ·rintro⟨bl,ii⟩ ⟨i,e,hi,hnd,hrg,hund,hrw,hcl,hsrc⟩
  simp only at e hi hnd hrg hund hrw hcl hsrc
  subst e
  have hbn:=Wc n bl hnd hrg
  refine Ite.mk (fun hlt=>?_) (fun hlt=>?_)
  ·have hlt':i<bl.length:=by have:=of_decide_eq_true hlt;simp at this;exact this
   have ha:=List.getElem?_eq_getElem hlt'
   generalize bl[i]=a at ha
   have ham:=List.mem_of_getElem? ha
   have har:=hrg a ham
   obtain⟨y,hy⟩:=Int.eq_ofNat_of_zero_le har.1
   subst hy
   obtain⟨l,hl⟩:=h.row (show y<n by omega)
   have hll:=h.rlen hl
   have hlm:=h.mem y l hl
   have huy:=hund y ham
   have hyx:=(Q1u hg h huy).1
   have hdis:∀a,a∈bl→a∈l→False:=fun a hab hal=>by
    rcases hsrc a hab with hr | ⟨j,z,l',hj,hz,hl',hal'⟩
    ·have:=h.uniq x y row l a hx hl hr hal
     subst this;omega
    ·have:=h.uniq z y l' l a hl' hl hal' hal
     subst this
     have hjn:j=i:=Q1o hnd hz ha
     omega
   refine⟨(y:Int),QG rfl ha,l,QG rfl hl,by show bl.length+l.length≤_;omega,⟨i+1,by show w64 _=_;rw [QH (by omega) (by omega)];simp,by show i+1≤(bl++l).length;rw [List.length_append];omega,?_,fun a ha=>?_,fun c hc=>?_,fun a ha=>List.mem_append_left _ (hrw a ha),fun j z l' hj hz hl' a ha'=>?_,fun a ha'=>?_⟩,?_⟩
   ·show (bl++l).Nodup
    exact List.nodup_append.2 ⟨hnd,hlm.1,fun a ha b hb e=>hdis a ha (e▸hb)⟩
   ·rcases List.mem_append.1 ha with ha | ha
    ·exact hrg a ha
    ·obtain⟨c,e,h1,_⟩:=hlm.2 a ha;omega
   ·rcases List.mem_append.1 hc with hc | hc
    ·exact hund c hc
    ·exact .step huy hl hc
   ·have hjl:j<bl.length:=by omega
    have hz':(bl++l)[j]?=some (z:Int):=hz
    rw [List.getElem?_append_left hjl] at hz'
    by_cases ej:j=i
    ·subst ej
     rw [ha] at hz'
     have:y=z:=by have:=Option.some.inj hz';omega
     subst this
     rw [hl] at hl';cases hl'
     exact List.mem_append_right _ ha'
    ·exact List.mem_append_left _ (hcl j z l' (by omega) hz' hl' a ha')
   ·rcases List.mem_append.1 ha' with ha' | ha'
    ·rcases hsrc a ha' with hr | ⟨j,z,l',hj,hz,hl',hal'⟩
     ·exact .inl hr
     ·exact .inr ⟨j,z,l',by omega,by show (bl++l)[j]?=_;rw [List.getElem?_append_left (by omega)];exact hz,hl',hal'⟩
    ·exact .inr ⟨i,y,l,by omega,by show (bl++l)[i]?=_;rw [List.getElem?_append_left hlt'];exact ha,hl,ha'⟩
   ·show n-(w64 ((i:Int)+1)).toNat<n-((i:Int)).toNat
    rw [QH (by omega) (by omega)];omega
  ·have hlt':¬i<bl.length:=by have:=of_decide_eq_false hlt;simp at this;omega
   have hie:i=bl.length:=by omega
   refine⟨hnd,fun c=>⟨hund c,fun hu=>?_⟩,hrg⟩
   show (c:Int)∈bl
   induction hu with
   | one hl hc=>rw [hx] at hl;cases hl;exact hrw _ hc
   | step hy hl hc ih=>
    obtain⟨j,hj⟩:=List.getElem?_of_mem ih
    exact hcl j _ _ (by have:=(List.getElem?_eq_some_iff.1 hj).1;omega) hj hl _ hc
theorem Q2r (hg:GOk n P g) (hF:FOk g (-1) n f) (h:ChOk g n f n ch) (hh:∀c,c<n→g.home[c]?=some true→fu f c=0):∀(k c:Nat),c<n→(fu f c).toNat=k→¬Und ch x c→0≤fu f c→Wg g x c (fu f c).toNat:=by
 intro k
 induction k using Nat.strongRecOn with
 | _ k ih=>
  intro c hc hk hu h0
  have hho:=List.getElem?_eq_getElem (show c<g.home.length by rw [hg.lh];exact hc)
  cases hb:g.home[c]'(by rw [hg.lh];exact hc) with
  | true=>
   rw [hb] at hho
   rw [hh c hc hho];exact .home hho
  | false=>
   rw [hb] at hho
   obtain⟨y,l,hl,hcl⟩:=h.all c hc hho h0
   obtain⟨_,hpar⟩:=h.par hl hcl
   have hlt:=hpar.lt hg
   obtain⟨_,_,y0,m,z,hm,hz,hzt,he⟩:=hpar
   have hyn:y<n:=by rw [←h.len];exact (List.getElem?_eq_some_iff.1 hl).1
   have hyx:y≠x:=fun e=>by subst e;exact hu (.one hl hcl)
   have hyu:¬Und ch x y:=fun h2=>hu (.step h2 hl hcl)
   have hw:=ih (fu f y).toNat (by omega) y hyn rfl hyu y0
   have hp:=(hg.to_ c m z hm hz).2
   have e1:z.to_.toNat=y:=by omega
   have:=Wg.step (b:=(x:Int)) hho hm hz (by omega) (by rw [e1];exact hw)
   rw [show (fu f c).toNat=(fu f y).toNat+z.price.toNat by omega]
   exact this
theorem Wg.weak (hg:GOk n P g) {b:Int} {c m:Nat} (h:Wg g b c m):Wg g (-1) c m:=by
 induction h with
 | home h=>exact .home h
 | step h hl hx hb hm ih=>exact .step h hl hx (by have:=(hg.to_ _ _ _ hl hx).1;omega) ih
end
end Go.Taq
/- The mathematics, part GF: the fuel without a cell (chapter 33). -/
set_option linter.unusedVariables false
set_option linter.unusedSimpArgs false
namespace Go.Taq
open Go
theorem Qy {α:Type} {l:List α} {i:Nat} {x y:α} (h:l[i]?=some x):y∈l.take (i+1)↔y∈l.take i∨y=x:=by
 rw [QU h,List.mem_append];simp
section
variable {g:ReachGraph} {n:Nat} {P:Int} {f:List Int} {ch:List (List Int)} {x:Nat}
theorem FOk.home (hF:FOk g (-1) n f) {c:Nat} (hc:c<n) (hh:g.home[c]?=some true):fu f c=0:=by
 have:=hF.least c hc 0 (.home hh);omega
theorem Q3o (hg:GOk n P g) (hF:FOk g (-1) n f) (hB:∀c,c<n→fu f c≤P*n) (h:ChOk g n f n ch) (hx:x<n) {post:Sum Unit (List (Int×Int))→Prop}
  (hp1:(∀c,¬Und ch x c)→post (.inl ()))
  (hp2:∀mp f',FOk g x n f'→(∀c,c<n→fu f' c≤40000000)→(∀c,c<n→¬Und ch x c→fu f' c=fu f c)→(∀a v,lk mp a=some v↔∃c:Nat,a=(c:Int)∧Und ch x c∧v=fu f' c)→post (.inr mp)):
  K5 g f ch (x:Int) post:=by
 obtain⟨row,hrow⟩:=h.row hx
 have hn4:=hg.n4;have hp0:=hg.p0
 have hrl:=h.rlen hrow
 have hlen:=hF.len
 have hPn:=Q1B (g:=g) (K:=0) hg (by omega)
 unfold K5
 refine⟨row,QG rfl hrow,Gl (by omega) (Q2B hg h hrow (fun bl hbl=>Ite.mk (fun he=>hp1 (fun c hc=>?_)) (fun he=>?_)))⟩
 ·have hm:=(hbl.mem c).2 hc
  have:bl=[]:=by
   cases bl with
   | nil=>rfl
   | cons a r=>simp at he;omega
  rw [this] at hm;cases hm
 have hbn:=Wc n bl hbl.nd hbl.rng
 have hnat:∀a,a∈bl→∃c:Nat,a=(c:Int)∧c<n:=fun a ha=>by
  obtain⟨c,hc⟩:=Int.eq_ofNat_of_zero_le (hbl.rng a ha).1
  exact⟨c,hc,by have:=(hbl.rng a ha).2;omega⟩
 refine Gl (by omega) ?_
 -- the cells below lose their fuel
 refine Jn.mk (fun t:List Int×List (Int×Int)=>t.1.length=n∧(∀d,d<n→fu t.1 d=if (d:Int)∈bl then -1 else fu f d)∧∀a,lk t.2 a=if a∈bl then some (-1) else none)
  (Kq (xs:=bl) (by unfold maxLen;omega) (fun t:List Int×List (Int×Int)×Int=>t.2.2) (fun i t=>t.1.length=n∧(∀d,d<n→fu t.1 d=if (d:Int)∈bl.take i then -1 else fu f d)∧∀a,lk t.2.1 a=if a∈bl.take i then some (-1) else none) rfl ⟨hlen,fun d hd=>by simp,fun a=>by simp [lk]⟩ (fun i a t ha ht hI=>?_) (fun t hI=>by rw [List.take_length] at hI;exact hI)) (fun t1 ht1=>?_)
 ·obtain⟨i1,i2,i3⟩:=hI
  obtain⟨c,hc,hcn⟩:=hnat a (List.mem_of_getElem? ha)
  subst hc
  have hset:∀d,fu (t.1.set c (-1)) d=if d=c then -1 else fu t.1 d:=fun d=>YU (by omega)
  refine⟨_,Yr (by omega),by rw [ht],by show (t.1.set _ _).length=n;rw [List.length_set];exact i1,fun d hd=>?_,fun a=>?_⟩
  ·show fu (t.1.set c (-1)) d=_
   rw [hset,i2 d hd]
   by_cases e:d=c
   ·rw [if_pos e,if_pos ((Qy ha).2 (.inr (by rw [e])))]
   ·rw [if_neg e]
    by_cases e2:(d:Int)∈bl.take i
    ·rw [if_pos e2,if_pos ((Qy ha).2 (.inl e2))]
    ·rw [if_neg e2,if_neg (fun h=>((Qy ha).1 h).elim e2 (fun h=>e (by omega)))]
  ·show lk (upd t.2.1 (c:Int) (-1)) a=_
   rw [Gu,i3]
   by_cases e:(c:Int)=a
   ·rw [if_pos e,if_pos ((Qy ha).2 (.inr e.symm))]
   ·rw [if_neg e]
    by_cases e2:a∈bl.take i
    ·rw [if_pos e2,if_pos ((Qy ha).2 (.inl e2))]
    ·rw [if_neg e2,if_neg (fun h=>((Qy ha).1 h).elim e2 (fun h=>e h.symm))]
 obtain⟨f1,m1⟩:=t1
 obtain⟨l1,b1,k1⟩:=ht1
 simp only at l1 b1 k1
 have hf1b:∀c,c<n→fu f1 c≤P*n:=fun c hc=>by
  rw [b1 c hc];split
  ·omega
  ·exact hB c hc
 -- one step to a cell that is not below
 let V:=fun (c:Nat) (v:Int)=>∃l r,g.out[c]?=some l∧Best f1 l x r∧v=if 0≤r.1 then r.1 else -1
 refine Jn.mk (fun m=>(∀a,a∉bl→lk m a=none)∧∀c:Nat,(c:Int)∈bl→∃v,lk m c=some v∧V c v)
  (Kq (xs:=bl) (by unfold maxLen;omega) (fun t:List (Int×Int)×Int=>t.2) (fun i t=>(∀a,a∉bl→lk t.1 a=none)∧(∀a,a∈bl→a∉bl.take i→lk t.1 a=some (-1))∧∀c:Nat,(c:Int)∈bl.take i→∃v,lk t.1 c=some v∧V c v) rfl ⟨fun a ha=>by show lk m1 a=_;rw [k1,if_neg ha],fun a ha _=>by show lk m1 a=_;rw [k1,if_pos ha],fun c hc=>by simp at hc⟩ (fun i a t ha ht hI=>?_) (fun t hI=>by rw [List.take_length] at hI;exact⟨hI.1,hI.2.2⟩)) (fun m2 hm2=>?_)
 ·obtain⟨i1,i2,i3⟩:=hI
  have ham:=List.mem_of_getElem? ha
  obtain⟨c,hc,hcn⟩:=hnat a ham
  subst hc
  have hnot:(c:Int)∉bl.take i:=fun hm=>by
   obtain⟨j,hj⟩:=List.getElem?_of_mem hm
   rw [List.getElem?_take] at hj
   split at hj
   ·rename_i hji
    have:=Q1o hbl.nd hj ha;omega
   ·cases hj
  refine WS hg l1 (fun d hd=>by have:=hf1b d hd;omega) hcn (fun l r hl hr=>?_)
  refine Jn.mk (fun m=>(∀a,a∉bl→lk m a=none)∧(∀a,a∈bl→a∉bl.take (i+1)→lk m a=some (-1))∧∀c:Nat,(c:Int)∈bl.take (i+1)→∃v,lk m c=some v∧V c v) (Ite.mk (fun h0=>?_) (fun h0=>?_)) (fun m hm=>⟨by rw [ht],hm⟩)
  ·have h0':0≤r.1:=of_decide_eq_true h0
   refine⟨fun a hna=>?_,fun a hb hnt=>?_,fun d hd=>?_⟩
   ·rw [Gu,if_neg (fun e=>hna (by rw [←e];exact ham))];exact i1 a hna
   ·rw [Gu,if_neg (fun e=>hnt ((Qy ha).2 (.inr e.symm)))]
    exact i2 a hb (fun hm=>hnt ((Qy ha).2 (.inl hm)))
   ·rw [Gu]
    by_cases e:(c:Int)=d
    ·have:c=d:=by omega
     subst this
     rw [if_pos rfl];exact⟨_,rfl,l,r,hl,hr,by rw [if_pos h0']⟩
    ·rw [if_neg e]
     exact i3 d (((Qy ha).1 hd).resolve_right (fun h=>e h.symm))
  ·have h0':¬0≤r.1:=of_decide_eq_false h0
   refine⟨i1,fun a hb hnt=>i2 a hb (fun hm=>hnt ((Qy ha).2 (.inl hm))),fun d hd=>?_⟩
   by_cases e:(c:Int)=d
   ·have:c=d:=by omega
    subst this
    exact⟨-1,i2 _ ham hnot,l,r,hl,hr,by rw [if_neg h0']⟩
   ·exact i3 d (((Qy ha).1 hd).resolve_right (fun h=>e h.symm))
 obtain⟨n2,v2⟩:=hm2
 let w:=fun c:Nat=>(lk m2 (c:Int)).getD 0
 have hw:∀c:Nat,(c:Int)∈bl→V c (w c):=fun c hc=>by
  obtain⟨v,e,hv⟩:=v2 c hc
  show V c ((lk m2 (c:Int)).getD 0)
  rw [e];exact hv
 -- they come into the table,and into the queue
 refine Jn.mk (fun t:List Int×List Int=>t.1.length=n∧(∀d,d<n→fu t.1 d=if (d:Int)∈bl then w d else fu f d)∧(∀a,a∈t.2→a∈bl)∧(∀c:Nat,(c:Int)∈bl→0≤w c→(c:Int)∈t.2)∧t.2.length≤n)
  (Kq (xs:=bl) (by unfold maxLen;omega) (fun t:List Int×List Int×Int=>t.2.2) (fun i t=>t.1.length=n∧(∀d,d<n→fu t.1 d=if (d:Int)∈bl.take i then w d else fu f1 d)∧(∀a,a∈t.2.1→a∈bl)∧(∀c:Nat,(c:Int)∈bl.take i→0≤w c→(c:Int)∈t.2.1)∧t.2.1.length≤i) rfl ⟨l1,fun d hd=>by simp,fun a ha=>(by cases ha),fun c hc=>by simp at hc,by simp⟩ (fun i a t ha ht hI=>?_) (fun t hI=>?_)) (fun t2 ht2=>?_)
 ·obtain⟨i1,i2,i3,i4,i5⟩:=hI
  have ham:=List.mem_of_getElem? ha
  obtain⟨c,hc,hcn⟩:=hnat a ham
  subst hc
  have hil:=(List.getElem?_eq_some_iff.1 ha).1
  have hset:∀d,fu (t.1.set c (w c)) d=if d=c then w c else fu t.1 d:=fun d=>YU (by omega)
  have hfin:∀d,d<n→fu (t.1.set c (w c)) d=if (d:Int)∈bl.take (i+1) then w d else fu f1 d:=fun d hd=>by
   rw [hset,i2 d hd]
   by_cases e:d=c
   ·subst e
    rw [if_pos rfl,if_pos ((Qy ha).2 (.inr rfl))]
   ·rw [if_neg e]
    by_cases e2:(d:Int)∈bl.take i
    ·rw [if_pos e2,if_pos ((Qy ha).2 (.inl e2))]
    ·rw [if_neg e2,if_neg (fun h=>((Qy ha).1 h).elim e2 (fun h=>e (by omega)))]
  refine⟨_,Yr (by omega),Jn.mk (fun q=>(∀a,a∈q→a∈bl)∧(∀c:Nat,(c:Int)∈bl.take (i+1)→0≤w c→(c:Int)∈q)∧q.length≤i+1) (Ite.mk (fun h0=>⟨by simp;omega,?_⟩) (fun h0=>?_)) (fun q hq=>⟨by rw [ht],by show (t.1.set _ _).length=n;rw [List.length_set];exact i1,hfin,hq⟩)⟩
  ·refine⟨fun a hq=>?_,fun d hd hd0=>?_,by simp;omega⟩
   ·rcases List.mem_append.1 hq with hq | hq
    ·exact i3 a hq
    ·simp at hq;subst hq;exact ham
   ·rcases (Qy ha).1 hd with hd | hd
    ·exact List.mem_append_left _ (i4 d hd hd0)
    ·exact List.mem_append_right _ (by simp [hd])
  ·have h0':¬0≤w c:=of_decide_eq_false h0
   refine⟨i3,fun d hd hd0=>?_,by omega⟩
   rcases (Qy ha).1 hd with hd | hd
   ·exact i4 d hd hd0
   ·have:d=c:=by omega
    subst this;exact absurd hd0 h0'
 ·obtain⟨i1,i2,i3,i4,i5⟩:=hI
  rw [List.take_length] at i2 i4
  refine⟨i1,fun d hd=>?_,i3,i4,by show t.2.1.length≤n;omega⟩
  rw [i2 d hd]
  by_cases e:(d:Int)∈bl
  ·rw [if_pos e,if_pos e]
  ·rw [if_neg e,if_neg e,b1 d hd,if_neg e]
 obtain⟨f2,q2⟩:=t2
 obtain⟨l2,b2,q2a,q2b,q2l⟩:=ht2
 simp only at l2 b2 q2a q2b q2l
 have hho:=fun c hc hh=>hF.home (c:=c) hc hh
 have hot:=Q2r (x:=x) hg hF h hho
 have hf1:∀c,c<n→0≤fu f1 c→(c:Int)∉bl∧fu f1 c=fu f c:=fun c hc h0=>by
  have e:=b1 c hc
  by_cases hm:(c:Int)∈bl
  ·rw [if_pos hm] at e;omega
  ·rw [if_neg hm] at e;exact⟨hm,e⟩
 have hwb:∀c:Nat,(c:Int)∈bl→-1≤w c∧w c≤P*n+P:=fun c hc=>by
  obtain⟨l,r,hl,hr,e⟩:=hw c hc
  rw [e]
  split
  ·rename_i h0
   rcases hr.is with er | ⟨z,hz,hzb,hz0,er⟩
   ·rw [er] at h0;exact absurd h0 (by decide)
   ·obtain⟨⟨t0,t1⟩,p1,p2⟩:=hg.to_ c l z hl hz
    have:=hf1b z.to_.toNat (by omega)
    rw [er];show -1≤fu f1 z.to_.toNat+z.price∧fu f1 z.to_.toNat+z.price≤_;omega
  ·omega
 have hnn:0≤P*(nn f2:Int):=Int.mul_nonneg (by omega) (by omega)
 have hS:SInv g x n P (P*n+P) (fun c=>(c:Int)∈bl) f2 f2 q2:=by
  refine⟨l2,fun c hc=>?_,fun c hc=>?_,fun c hc h0=>?_,fun c hc hh=>?_,fun c l z hm hh hl hz hzb hz0 hzq=>?_,fun a ha=>hbl.rng a (q2a a ha),fun c hc _=>rfl⟩
  ·rw [b2 c hc];split
   ·rename_i hm;exact (hwb c hm).1
   ·exact hF.lo c hc
  ·rw [b2 c hc];split
   ·rename_i hm;have:=(hwb c hm).2;omega
   ·have:=hB c hc;omega
  ·rw [b2 c hc] at h0 ⊢
   by_cases hm:(c:Int)∈bl
   ·rw [if_pos hm] at h0 ⊢
    obtain⟨l,r,hl,hr,e⟩:=hw c hm
    rw [e] at h0 ⊢
    split at h0
    ·rename_i hr0
     rw [if_pos hr0]
     rcases hr.is with er | ⟨z,hz,hzb,hz0,er⟩
     ·rw [er] at hr0;exact absurd hr0 (by decide)
     ·obtain⟨⟨t0,t1⟩,p1,p2⟩:=hg.to_ c l z hl hz
      have hzn:z.to_.toNat<n:=by omega
      obtain⟨hzm,hze⟩:=hf1 _ hzn hz0
      have hwz:=hot _ _ hzn rfl (fun hu=>hzm ((hbl.mem _).2 hu)) (by omega)
      have hst:=Wg.step (b:=(x:Int)) (Q1u hg h ((hbl.mem c).1 hm)).2.2.1 hl hz hzb hwz
      have e1:r.1=fu f1 z.to_.toNat+z.price:=by rw [er]
      rw [show r.1.toNat=(fu f z.to_.toNat).toNat+z.price.toNat by omega]
      exact hst
    ·omega
   ·rw [if_neg hm] at h0 ⊢
    exact hot _ c hc rfl (fun hu=>hm ((hbl.mem c).2 hu)) h0
  ·have hm:(c:Int)∉bl:=fun hm=>by
    have:=(Q1u hg h ((hbl.mem c).1 hm)).2.2.1
    rw [hh] at this;cases this
   rw [b2 c hc,if_neg hm];exact hho c hc hh
  ·have hcn:c<n:=by have:=hbl.rng _ hm;omega
   obtain⟨⟨t0,t1⟩,p1,p2⟩:=hg.to_ c l z hl hz
   have hzn:z.to_.toNat<n:=by omega
   have ez:((z.to_.toNat:Nat):Int)=z.to_:=by omega
   rw [b2 _ hzn] at hz0 ⊢
   by_cases hzm:((z.to_.toNat:Nat):Int)∈bl
   ·rw [if_pos hzm] at hz0
    have:=q2b _ hzm hz0
    rw [ez] at this;exact absurd this hzq
   ·rw [if_neg hzm] at hz0 ⊢
    rw [b2 c hcn,if_pos hm]
    obtain⟨l',r,hl',hr,e⟩:=hw c hm
    rw [hl] at hl';cases hl'
    have e1:fu f1 z.to_.toNat=fu f z.to_.toNat:=by rw [b1 _ hzn,if_neg hzm]
    have:=hr.le z hz hzb (by rw [e1];exact hz0)
    rw [e1] at this
    rw [e,if_pos this.1];exact this
 have hKb:0≤P*(n:Int)+P∧P*(n:Int)+P≤20000000:=by omega
 have hwf:=Q5q (K:=P*n+P) hg hKb l2 (fun c hc=>hS.top hg hc)
 unfold Qq
 haveI:DecidablePred (fun c:Nat=>(c:Int)∈bl):=fun c=>inferInstanceAs (Decidable ((c:Int)∈bl))
 refine Q2m (may:=fun c:Nat=>(c:Int)∈bl) (f0:=f2) (K:=P*n+P) hg hKb (M:=fun c q=>QV c m2 q) (fun c q hc hq=>?_) hS (by omega) (fun f' hf'=>?_)
 ·show QV (c:Int) m2 q
  unfold QV
  have:(lk m2 (c:Int)).isSome=decide ((c:Int)∈bl):=by
   by_cases hm:(c:Int)∈bl
   ·obtain⟨v,e,_⟩:=v2 c hm
    rw [e,decide_eq_true hm];rfl
   ·rw [n2 _ hm,decide_eq_false hm];rfl
  rw [this];exact hq
 have hF':FOk g x n f':=hf'.least hg (fun c hc hm hh m hmw=>by
  rw [b2 c hc,if_neg hm]
  exact hF.least c hc m (Wg.weak hg hmw))
 have htop:∀c,c<n→fu f' c≤40000000:=fun c hc=>by have:=hf'.top hg hc;omega
 have hkeep:∀c,c<n→¬Und ch x c→fu f' c=fu f c:=fun c hc hu=>by
  have hm:(c:Int)∉bl:=fun hm=>hu ((hbl.mem c).1 hm)
  rw [hf'.keep c hc hm,b2 c hc,if_neg hm]
 have l3:=hF'.len
 refine Jn.mk (fun m=>∀a,lk m a=if a∈bl then some (fu f' a.toNat) else none)
  (Kq (xs:=bl) (by unfold maxLen;omega) (fun t:List (Int×Int)×Int=>t.2) (fun i t=>∀a,lk t.1 a=if a∈bl.take i then some (fu f' a.toNat) else lk m2 a) rfl (fun a=>by simp) (fun i a t ha ht hI=>?_) (fun t hI a=>?_)) (fun mp hmp=>?_)
 ·obtain⟨c,hc,hcn⟩:=hnat a (List.mem_of_getElem? ha)
  subst hc
  refine⟨_,Yr (by omega),by rw [ht],fun a=>?_⟩
  show lk (upd t.1 (c:Int) (fu f' c)) a=_
  rw [Gu,hI]
  by_cases e:(c:Int)=a
  ·subst e
   rw [if_pos rfl,if_pos ((Qy ha).2 (.inr rfl))];simp
  ·rw [if_neg e]
   by_cases e2:a∈bl.take i
   ·rw [if_pos e2,if_pos ((Qy ha).2 (.inl e2))]
   ·rw [if_neg e2,if_neg (fun h=>((Qy ha).1 h).elim e2 (fun h=>e h.symm))]
 ·rw [hI a,List.take_length]
  by_cases e:a∈bl
  ·rw [if_pos e,if_pos e]
  ·rw [if_neg e,if_neg e,n2 a e]
 ·refine hp2 mp f' hF' htop hkeep (fun a v=>?_)
  rw [hmp]
  constructor
  ·intro hv
   by_cases e:a∈bl
   ·rw [if_pos e] at hv
    obtain⟨c,hc,hcn⟩:=hnat a e
    subst hc
    exact⟨c,rfl,(hbl.mem c).1 e,by have:=Option.some.inj hv;simp at this;exact this.symm⟩
   ·rw [if_neg e] at hv;cases hv
  ·rintro⟨c,rfl,hu,rfl⟩
   rw [if_pos ((hbl.mem c).2 hu)];simp
end
end Go.Taq
