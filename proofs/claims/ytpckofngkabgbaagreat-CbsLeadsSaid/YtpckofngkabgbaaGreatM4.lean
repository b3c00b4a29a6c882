/- Part 4 of what the walks and the law rest on: a library over any program, and the mathematics of the law. No condition. -/
import Derived.Test.YtpckofngkabgbaaGreatM3
import Derived.IntWalk
set_option linter.unusedVariables false
set_option linter.unusedSimpArgs false
namespace Go.Taq
open Go
def dHit(st:Q7)(shelf c:Int)(i:Nat):Bool:=!((i:Int) == shelf)&&!carB st i&&(st.Al.getD i 0 == c)
def dAp(s:Q5)(st:Q7)(shelf c:Int)(i:Nat):Bool:=!((i:Int) == shelf)&&!carB st i&&Q2G s.A9 (st.Al.getD i 0) c&&nev s (clsS s shelf) (clsS s i)
def Q5m(s:Q5)(st:Q7)(shelf c:Int):Int:=
 if shelf<0∨shelf≥st.Al.length then 4 else if stB s c=false then 13 else if (List.range st.Al.length).any (dHit st shelf c)=true then 13 else if (List.range st.Al.length).any (dAp s st shelf c)=true then 17 else 0
theorem Q1p(p:Nat->Bool)(n:Nat):(List.range (n+1)).any p=((List.range n).any p||p n):=by rw [List.range_succ,List.any_append];simp
theorem Q23{p:Nat->Bool}{n i:Nat}(hi:i<n)(hp:p i=true):(List.range n).any p=true:=List.any_eq_true.2 ⟨i,by simpa using hi,hp⟩
section
variable {s:Q5} {st:Q7}
theorem Qbw{l:List Int}{n:Nat}{x:Int}(h:l[n]?=some x):l.getD n 0=x:=by rw [gD,h];rfl
theorem Q6G(ks:QF s)(k:KK st)(hf:RF s.A9)(hl:st.Al.length≤1000000){shelf c:Int}{post:Int->Prop}(hp:post (Q5m s st shelf c)):YJ s st shelf c post:=by
 unfold YJ;refine Jor2 (Ite.mk (λh=>?_) (λh=>Q4r (Ite.mk (λh2=>?_) (λh2=>?_))))
 ·unfold Q5m at hp;rw [gF (by simp at h;omega)] at hp;exact hp
 ·unfold Q5m at hp;rw [gC (by simp at h;omega),gF (by simpa using h2)] at hp;exact hp
 ·unfold Q5m at hp;rw [gC (by simp at h;omega),gC (by simp at h2;simp [h2])] at hp;refine Jn.mk (λe=>(List.range st.Al.length).any (dHit st shelf c)=false∧e=if (List.range st.Al.length).any (dAp s st shelf c)=true then 17 else 0)
   (Q7r (xs:=st.Al) k.Al.1 (λt:Int×Int=>t.2) (λn (t:Int×Int)=>(List.range n).any (dHit st shelf c)=false∧t.1=if (List.range n).any (dAp s st shelf c)=true then 17 else 0) rfl ⟨rfl,rfl⟩ (λn x t hx ht hI=>?_) (λt h=>h)) (λe he=>by rw [he.1] at hp;rw [he.2];exact hp)
  have hn:=(gS.1 hx).1;have hxg:=Qbw hx;rw [ht];refine Jn.mk (λe=>(List.range (n+1)).any (dHit st shelf c)=false∧e=if (List.range (n+1)).any (dAp s st shelf c)=true then 17 else 0) ⟨x,Qo rfl hx,?_⟩ (λe he=>⟨rfl,he⟩);rw [Q1p,Q1p,hI.1,hI.2];refine Jn.mk (λb=>(b=true->dHit st shelf c n=false∧dAp s st shelf c n=false)∧(b=false->((n:Int) == shelf)=false∧carB st n=false∧(x≠c->Q2G s.A9 x c=true))) ?_ (λb hb=>Ite.mk (λh3=>?_) (λh3=>?_))
  ·refine Ite.mk (λh3=>⟨λ_=>⟨by unfold dHit;rw [h3];rfl,by unfold dAp;rw [h3];rfl⟩,λh=>by cases h⟩) (λh3=>Ite.mk (λh4=>Q2U hf (Ite.mk (λh5=>Q0L k ⟨λh6=>?_,λh6=>?_⟩) (λh5=>⟨λ_=>⟨?_,?_⟩,λh=>by cases h⟩))) (λh4=>Q0L k ⟨λh6=>?_,λh6=>?_⟩))
   ·have:carB st n=true:=by unfold carB;simpa using h6
    exact⟨by unfold dHit;rw [this];simp,by unfold dAp;rw [this];simp⟩
   ·have:carB st n=false:=by unfold carB;simpa using h6
    exact⟨h3,this,λ_=>h5⟩
   ·unfold dHit;rw [hxg];simp at h4;simp [h4]
   ·unfold dAp;rw [hxg,h5];simp
   ·have:carB st n=true:=by unfold carB;simpa using h6
    exact⟨by unfold dHit;rw [this];simp,by unfold dAp;rw [this];simp⟩
   ·have:carB st n=false:=by unfold carB;simpa using h6
    exact⟨h3,this,λh=>absurd (by simpa using h4) h⟩
  ·rw [(hb.1 h3).1,(hb.1 h3).2];exact⟨by simp,by simp⟩
  ·obtain⟨g1,g2,g3⟩:=hb.2 h3;refine Ite.mk (λh4=>?_) (λh4=>Q20 (Q20 (Q5k ks ?_)))
   ·have:dHit st shelf c n=true:=by unfold dHit;rw [g1,g2,hxg,h4];rfl
    rw [Q23 hn this] at hp;exact hp
   ·have e1:dHit st shelf c n=false:=by unfold dHit;rw [hxg,h4];simp
    have e2:dAp s st shelf c n=nev s (clsS s shelf) (clsS s n):=by unfold dAp;rw [g1,g2,hxg,g3 (by simpa using h4)];rfl
    rw [e1,e2];refine Jn.mk (λe=>e=if ((List.range n).any (dAp s st shelf c)||nev s (clsS s shelf) (clsS s n))=true then 17 else 0) (Ite.mk (λh5=>by rw [h5];simp) (λh5=>by rw [h5];simp)) (λe he=>⟨by simp,he⟩)
end
theorem Q6y{α:Type}{X:α->Prop}{xs:List α}(h1:xs.length≤1000)(h2:∀x,x∈xs->X x):OkL X xs:=⟨Nat.le_trans h1 (by decide),h2⟩
theorem Q0p{x:Int}(h:-1000000≤x∧x≤1000000):I64 x:=by constructor <;> omega
theorem Qa7{s:Q5}(a b:ByteArray):nev s a b=nev s b a:=by
 unfold nev apB;have e:∀x:Qp,((seq x.A a&&seq x.B b)||(seq x.A b&&seq x.B a))=((seq x.A b&&seq x.B a)||(seq x.A a&&seq x.B b)):=λx=>Bool.or_comm _ _
 simp only [e];rw [Bool.and_comm (!nosh a)]
theorem Q6v{s:Q5}{st:Q7}:(ZU s st).2.2=decide (0≤fnat (λa=>decide (0≤Q2x s st a)) st.Al.length):=by
 unfold ZU;simp only;split <;> rename_i h <;> simp <;> omega
theorem Qaa{f:Qe}{x y z:Int}(h:0≤Wi f x y z):0≤x∧x<f.W∧0≤y∧y<f.H∧0≤z∧z<f.D:=by
 unfold Wi at h;split at h
 ·assumption
 ·omega
theorem Q9L{f:Qe}(hf:RF f){x y z:Int}(h:0≤x∧x<f.W∧0≤y∧y<f.H∧0≤z∧z<f.D):pX f (Wi f x y z)=x∧pY f (Wi f x y z)=y∧pZ f (Wi f x y z)=z:=by
 have e:Wi f x y z=(z*f.H+y)*f.W+x:=by unfold Wi;rw [gF h]
 have w:=hf.W1;have hh:=hf.H1;have d1:((z*f.H+y)*f.W+x) / f.W=z*f.H+y:=by
  rw [Int.add_comm,Int.add_mul_ediv_right _ _ (by omega),Int.ediv_eq_zero_of_lt h.1 h.2.1];omega
 have d2:(z*f.H+y) / f.H=z:=by
  rw [Int.add_comm,Int.add_mul_ediv_right _ _ (by omega),Int.ediv_eq_zero_of_lt h.2.2.1 h.2.2.2.1];omega
 unfold pX pY pZ;rw [e,d1,d2];refine⟨?_,?_,rfl⟩
 ·rw [Int.add_comm,Int.add_mul_emod_self_right,Int.emod_eq_of_lt h.1 h.2.1]
 ·rw [Int.add_comm,Int.add_mul_emod_self_right,Int.emod_eq_of_lt h.2.2.1 h.2.2.2.1]
theorem Qbl{f:Qe}(hf:RF f){c:Int}(hc:isC f c=true):Wi f (pX f c) (pY f c) (pZ f c)=c:=by
 have hb:=p_bd hf hc;unfold Wi;rw [gF hb];unfold pX pY pZ;have w:=hf.W1;have hh:=hf.H1;have e1:c / f.W / f.H*f.H+c / f.W % f.H=c / f.W:=by rw [Int.mul_comm];exact Int.mul_ediv_add_emod ..
 rw [e1,Int.mul_comm];exact Int.mul_ediv_add_emod ..
theorem Q9Z{f:Qe}(hf:RF f){a b d:Int}(hb:isC f b=true)(hd:0≤d∧d<4)(h:nbr f a d=b):isC f a=true∧nbr f b (if d<2 then d+2 else d-2)=a:=by
 have ha:isC f a=true:=by
  cases e:isC f a with
  | true=>rfl
  | false=>unfold nbr at h;rw [gF e] at h;rw [XO] at hb;omega
 refine⟨ha,?_⟩;have hb0:0≤b:=(XO.1 hb).1;have hd':d=0∨d=1∨d=2∨d=3:=by omega
 rcases hd' with rfl | rfl | rfl | rfl <;> (
  simp only [nbr,ha,hb,Bool.true_eq_false,if_false,reduceCtorEq] at h ⊢;simp at h ⊢;obtain⟨q1,q2,q3⟩:=Q9L hf (Qaa (by rw [h];exact hb0));rw [h] at q1 q2 q3;rw [q1,q2,q3];have:=Qbl hf ha;simpa using this)
theorem Q8p{f:Qe}(hf:RF f){a b:Int}(ha:isC f a=true)(hb:isC f b=true):Q2G f a b=Q2G f b a:=by
 have key:∀{a b:Int},isC f a=true->isC f b=true->Q2G f a b=true->Q2G f b a=true:=λ{a b} ha hb h=>by
  unfold Q2G at h ⊢;rw [hb,Bool.true_and,List.any_eq_true] at h;obtain⟨d,hd,e⟩:=h;have hd':0≤d∧d<4:=by simp at hd;omega
  obtain⟨_,h2⟩:=Q9Z hf hb hd' (by simpa using e);rw [ha,Bool.true_and,List.any_eq_true];refine⟨if d<2 then d+2 else d-2,?_,by simp [h2]⟩;simp at hd;rcases hd with rfl | rfl | rfl | rfl <;> decide
 rw [Bool.eq_iff_iff];exact⟨key ha hb,key hb ha⟩
theorem Q13{s:Q5}{st:Q7}:(ZU s st).2.2=true↔∃a b:Nat,a<b∧b<st.Al.length∧badP s st a b=true:=by
 rw [Q6v,decide_eq_true_eq];rcases ZX (λa=>decide (0≤Q2x s st a)) st.Al.length with ⟨a,ha,e,hp,_⟩ | ⟨e,hb⟩
 ·rw [e];refine⟨λ_=>?_,λ_=>by omega⟩;rcases ZX (λb=>decide (a<b)&&badP s st a b) st.Al.length with ⟨b,hb,e2,hp2,_⟩ | ⟨e2,_⟩
  ·simp at hp2;exact⟨a,b,hp2.1,hb,hp2.2⟩
  ·simp [Q2x,e2] at hp
 ·rw [e];refine⟨λh=>by omega,λ⟨a,b,h1,h2,h3⟩=>?_⟩;have:=hb a (by omega);rcases ZX (λb=>decide (a<b)&&badP s st a b) st.Al.length with ⟨w,_,e2,_,_⟩ | ⟨e2,hb2⟩
  ·simp [Q2x,e2] at this
  ·have:=hb2 b h2;simp [h1,h3] at this
section
end
theorem Q6Q{r:List Int}(hl:r.length≤1000000000)(ha:Asc r){c:Int}{post:Bool->Prop}(hp:post (r.contains c)):XW r c post:=by
 unfold XW;refine Jn.mk (λi:Int=>0≤i∧i≤r.length∧(∀(j:Nat) x,(j:Int)<i->r[j]?=some x->x<c)∧(∀(j:Nat) x,i≤(j:Int)->r[j]?=some x->c≤x))
  (Loop.mk (λs:Int×Int=>0≤s.1∧s.1≤s.2∧s.2≤r.length∧(∀(j:Nat) x,(j:Int)<s.1->r[j]?=some x->x<c)∧(∀(j:Nat) x,s.2≤(j:Int)->r[j]?=some x->c≤x)) (λs=>(s.2-s.1).toNat) ⟨by simp,by simp,by simp,λj x hj=>absurd hj (by simp),λj x hj hx=>?_⟩ ?_) ?_
 ·have:=(gS.1 hx).1;simp at hj;omega
 ·rintro⟨i,j⟩ ⟨h0,h1,h2,h3,h4⟩;simp only at h0 h1 h2 h3 h4;refine Ite.mk (λhlt=>?_) (λhge=>?_)
  ·simp only [decide_eq_true_eq] at hlt;have e:w64 ((w64 (i+j)).tdiv 2)=(i+j) / 2:=by
    rw [K9 (x:=i+j) (by omega) (by omega),Int.tdiv_eq_ediv_of_nonneg (by omega),K9 (by omega) (by omega)]
   simp only [];rw [e];have hmid:i≤(i+j) / 2∧(i+j) / 2<j:=by omega
   refine⟨_,Q0O (by omega) (by omega),?_⟩;generalize hx:r[((i+j) / 2).toNat]'(by omega)=x;have hx':r[((i+j) / 2).toNat]?=some x:=by rw [gE (by omega),hx]
   refine Jn.mk' (Ite.mk (λh5=>?_) (λh5=>?_))
   ·simp at h5;rw [K9 (by omega) (by omega)];refine⟨⟨by omega,by simp only [];omega,by simp only [];omega,λq y hq hy=>?_,h4⟩,by simp only [];omega⟩;rcases gH q ((i+j) / 2).toNat with h6 | h6
    ·exact Int.lt_trans (ha _ _ _ _ h6 hy hx') h5
    ·have:q=((i+j) / 2).toNat:=by simp only [] at hq;omega
     subst this;rw [hx'] at hy;cases hy;exact h5
   ·simp at h5;refine⟨⟨by omega,by simp only [];omega,by simp only [];omega,h3,λq y hq hy=>?_⟩,by simp only [];omega⟩;rcases gH ((i+j) / 2).toNat q with h6 | h6
    ·have:=ha _ _ _ _ h6 hx' hy;omega
    ·have:q=((i+j) / 2).toNat:=by simp only [] at hq;omega
     subst this;rw [hx'] at hy;cases hy;omega
  ·simp only [decide_eq_false_iff_not] at hge;have:i=j:=by omega
   subst this;exact⟨h0,h2,h3,h4⟩
 ·rintro i ⟨h0,h1,h3,h4⟩;have hc:r.contains c=true↔∃j:Nat,r[j]?=some c:=by
   rw [List.contains_iff_mem];exact List.mem_iff_getElem?
  refine Ite.mk (λh5=>?_) (λh5=>?_)
  ·simp at h5;cases hcc:r.contains c
   ·rw [hcc] at hp;exact hp
   ·obtain⟨j,hj⟩:=hc.1 hcc;have:=(gS.1 hj).1;have:=h3 j c (by omega) hj;omega
  ·simp at h5;have hlt:i<r.length:=by omega
   refine⟨_,Q0O h0 hlt,?_⟩;generalize hx:r[i.toNat]'(by omega)=x;have hx':r[i.toNat]?=some x:=by rw [gE (by omega),hx]
   have:(x == c)=r.contains c:=by
    rw [Bool.eq_iff_iff,hc,beq_iff_eq];constructor
    ·rintro rfl;exact⟨_,hx'⟩
    ·rintro⟨j,hj⟩;rcases Nat.lt_trichotomy j i.toNat with h6 | h6 | h6
     ·have:=h3 j c (by omega) hj;omega
     ·subst h6;rw [hx'] at hj;cases hj;rfl
     ·have:=ha _ _ _ _ h6 hx' hj;have:=h4 i.toNat x (by omega) hx';omega
   rw [this];exact hp
theorem zlen{s:Q5}(h:Q0r s){z:K7}(hz:z∈s.Au):z.A5.length≤s.A9.Ac.length:=by
 have ha:=h.rs.asc z hz;have hc:=h.rs.zc z hz;have key:∀(i:Nat) x,z.A5[i]?=some x->(i:Int)≤x:=by
  intro i;induction i with
  | zero=>intro x hx;have:=XO.1 (hc x (gM hx));omega
  | succ i ih=>
   intro x hx;have hlt:=(gS.1 hx).1;have hy:z.A5[i]?=some (z.A5[i]'(by omega)):=gE _;have:=ih _ hy;have:=ha i (i+1) _ x (by omega) hy hx;omega
 rcases Nat.eq_zero_or_pos z.A5.length with e | e
 ·omega
 ·have hx:z.A5[z.A5.length-1]?=some (z.A5[z.A5.length-1]'(by omega)):=gE _;have h1:=key _ _ hx;have h2:=XO.1 (hc _ (gM hx));omega
theorem Q4u{s:Q5}(k:QF s)(h:Q0r s){c:Int}{post:Int->Prop}(hp:post (zn s c)):XF s c post:=by
 unfold XF;refine Z5 k.Au.1 (λz:K7=>z.A5.contains c) (T:=λz post=>XW z.A5 c post) (λz hz post hq=>?_) hp;have:=zlen h hz;have:=h.fl.len.1;exact Q6Q (by omega) (h.rs.asc z hz) hq
theorem Q58{s:Q5}(k:QF s)(h:Q0r s){c:Int}{post:Int->Prop}(hp:post (spd s c)):G7 s c post:=by
 unfold G7;refine Q4u k h (Ite.mk (λh1=>?_) (λh1=>⟨_,Q8R (by simpa using h1),?_⟩))
 ·simp at h1;rw [spd,gF h1] at hp;exact hp
 ·simp at h1;rw [spd,gC (by omega)] at hp;exact hp
section
end
theorem Q5P{a b:List Int}(hm:a.length≤maxLen){post:Bool->Prop}(hp:a=b->post true)(hab:a=b):X4 a b post:=by
 subst hab;unfold X4;refine Ite.f (by simp) ?_;refine Jn.mk (λ_=>True) (XE hm (λt=>t) (λ_ _=>True) rfl trivial (λn x t hx ht _=>⟨x,by rw [ht];exact Qo rfl hx,Ite.f (by simp) ⟨by rw [ht],trivial⟩⟩) (λ_ _=>trivial)) (λ_ _=>hp rfl)
def bas(a:Int)(l:Bool):Int:=
 if a=0∨a=8 then 1 else if a=7 then 3 else if a<1∨a≥7 then 0 else (if a=5 then 5 else if a=6 then 1 else 2)+if l=true then 2 else 0
def agT(t:Int):Int:=if t<0 then 0 else if t>20000 then 20 else t / 1000
def cst(t a:Int)(l:Bool):Int:=(bas a l*(10+agT t)+9) / 10
def aft(t ch a:Int)(l:Bool):Int×Int:=
 if ch<0∨ch>1000000∨a<0∨a≥10 then (ch,1) else if a=9 then (if ch>999980 then 1000000 else ch+20,0) else if ch<cst t a l then (ch,16) else (ch-cst t a l,0)
theorem Qcp(a:Int)(l:Bool):bas a l=0∨bas a l=1∨bas a l=2∨bas a l=3∨bas a l=4∨bas a l=5∨bas a l=7:=by
 unfold bas;cases l <;> simp <;> split <;> (try split) <;> (try split) <;> (try split) <;> (try split) <;> omega
theorem Q8C(t:Int):0≤agT t∧agT t≤20:=by unfold agT;split <;> (try split) <;> omega
theorem Q98(a t:Int)(l:Bool):0≤bas a l*(10+agT t)∧bas a l*(10+agT t)≤210:=by
 have h:=Q8C t;rcases Qcp a l with e | e | e | e | e | e | e <;> rw [e] <;> omega
theorem Q4S(t a:Int)(l:Bool):0≤cst t a l∧cst t a l≤21:=by have:=Q98 a t l;unfold cst;omega
theorem act10{a:Int}(h0:0≤a)(h9:a<10):a=0∨a=1∨a=2∨a=3∨a=4∨a=5∨a=6∨a=7∨a=8∨a=9:=by omega
theorem Q4i{a:Int}(h0:0≤a)(h9:a<10){l:Bool}{post:Int->Prop}(hp:post (bas a l)):WS a l post:=by
 unfold WS;rcases act10 h0 h9 with rfl | rfl | rfl | rfl | rfl | rfl | rfl | rfl | rfl | rfl <;> cases l <;> repeat (first | exact hp | refine Jn.mk' ?_ | refine Ite.t (by decide) ?_ | refine Ite.f (by decide) ?_)
theorem QcJ(t:Int):w64 ((imin (imax t 0) 20000).tdiv 1000)=agT t:=by
 have e:(imin (imax t 0) 20000).tdiv 1000=agT t:=by
  unfold imin imax agT;rw [Int.tdiv_eq_ediv_of_nonneg (by repeat' split <;> omega)]
  repeat' split <;> omega
 rw [e];have:=Q8C t;exact K9 (by omega) (by omega)
theorem Q4s{t a:Int}(h0:0≤a)(h9:a<10){l:Bool}{post:Int->Prop}(hp:post (cst t a l)):WQ t a l post:=by
 unfold WQ;refine Q4i h0 h9 ?_;have hb:=Q98 a t l;have ha:=Q8C t;rw [QcJ,K9 (x:=10+agT t) (by omega) (by omega),K9 (x:=bas a l*(10+agT t)) (by omega) (by omega),K9 (x:=bas a l*(10+agT t)+9) (by omega) (by omega),Int.tdiv_eq_ediv_of_nonneg (by omega)];have hc:=Q4S t a l;unfold cst at hc hp;rw [K9 (by omega) (by omega)];exact hp
theorem Q3P{ch c:Int}(hc:0≤c∧c≤100){post:Int×Int->Prop}(hp:post (if ch<0∨ch>1000000 then (ch,1) else if ch<c then (ch,16) else (ch-c,0))):WC ch c post:=by
 unfold WC Xw;refine Jn.mk (λb=>b=decide (ch<0∨ch>1000000)) (Q0K (Ite.mk (λh=>?_) (λh=>?_))) (λb hb=>?_)
 ·simp at h;rw [decide_eq_false (by omega:¬c<0)];simp;omega
 ·simp at h;simp;omega
 ·subst hb;refine Ite.mk (λh=>?_) (λh=>Ite.mk (λh1=>?_) (λh1=>?_))
  ·rw [gF (by simpa using h)] at hp;exact hp
  ·rw [gC (by simpa using h),gF (by simpa using h1)] at hp;exact hp
  ·rw [gC (by simpa using h),gC (by simpa using h1)] at hp;simp at h h1;rw [K9 (by omega) (by omega)];exact hp
theorem Q0W{t ch a:Int}{l:Bool}{post:Int×Int->Prop}(hp:post (aft t ch a l)):GL t ch a l post:=by
 unfold GL Xw;refine Jn.mk (λb=>b=decide (ch<0∨ch>1000000∨a<0∨a≥10)) (Q0K (Ite.mk (λh=>Ite.mk (λh1=>?_) (λh1=>?_)) (λh=>?_))) (λb hb=>?_)
 ·simp at h h1;simp;omega
 ·simp at h h1;show decide (a≥10)=decide (ch<0∨ch>1000000∨a<0∨a≥10);rw [Bool.eq_iff_iff];simp;omega
 ·simp at h;simp;omega
 ·subst hb;unfold aft at hp;refine Ite.mk (λh=>?_) (λh=>Ite.mk (λh1=>?_) (λh1=>?_))
  ·rw [gF (by simpa using h)] at hp;exact hp
  ·simp at h1;rw [gC (by simpa using h),gF h1] at hp;simp at h;rw [K9 (x:=ch+20) (by omega) (by omega)];have e:imin (ch+20) 1000000=if ch>999980 then 1000000 else ch+20:=by unfold imin;repeat' split <;> omega
   rw [e];exact hp
  ·simp at h1;rw [gC (by simpa using h),gC h1] at hp;simp at h;refine Q4s (by omega) (by omega) (Q3P (by have:=Q4S t a l;omega) ?_);rw [gC (by omega)];split
   ·rw [gF (by assumption)] at hp;exact hp
   ·rw [gC (by assumption)] at hp;exact hp
def low(c:Int):Int:=w64 (2*c)
def high(c:Int):Int:=w64 (w64 (2*c)+1)
def slR(r:Q2):List Int:=if 0≤r.Ae then [low r.A4,high r.A4] else [low r.A4]
def slS(st:Q7)(i:Nat):List Int:=if carB st i=true then [] else [high (st.Al.getD i 0)]
def slP(c:Int):List Int:=[low c,high c]
def allS(st:Q7):List Int:=(List.range st.Ak.length).flatMap (λi=>slR (st.Ak.getD i default))++(List.range st.Al.length).flatMap (slS st)++(List.range st.Ai.length).flatMap (λi=>slP (st.Ai.getD i 0))
structure Sz (st:Q7):Prop where
 sh:st.Al.length≤1000
 rb:st.Ak.length≤1000
 pp:st.Ai.length≤1000
 dd:st.A8.length≤1000
 sk:st.Aq.length≤1000
theorem Zn{n:Nat}{f:Nat->List Int}(h:∀i,i<n->(f i).length≤2):((List.range n).flatMap f).length≤2*n:=by
 induction n with
 | zero=>simp
 | succ n ih=>rw [List.range_succ,List.flatMap_append,List.length_append];have:=ih (λi hi=>h i (by omega));have:=h n (by omega);simp only [List.flatMap_cons,List.flatMap_nil,List.append_nil];omega
theorem Qby{n:Nat}(hn:n≤1000){f:Nat->List Int}(hf:∀i,i<n->(f i).length≤2){T:Int->(List Int->Prop)->Prop}(hT:∀i:Nat,i<n->∀{q:List Int->Prop},q (f i)->T (i:Int) q){l0:List Int}(hl:l0.length≤1000000){K:List Int->Prop}(hK:K (l0++(List.range n).flatMap f)):
  Jn (λ(J:List Int->Prop)=>Loop (λ(s:List Int×Int) Y=>Ite (decide (s.2<(n:Int))) (T s.2 (λx=>(s.1.length+x.length≤1099511627776)∧Y (s.1++x,w64 (s.2+1)))) (J s.1)) (l0,0)) (λx=>K x):=by
 refine Jn.mk (λx=>x=l0++(List.range n).flatMap f) (Q7R n (λt:List Int×Int=>t.2) (λi t=>t.1=l0++(List.range i).flatMap f) (by unfold maxLen;omega) rfl (by simp) (λi t hi h1 h2=>?_) (λt h=>h)) (λx hx=>hx▸hK);rw [h1];refine hT i hi ⟨?_,rfl,?_⟩
 ·have:=hf i hi;have h3:=Zn (n:=i) (f:=f) (λj hj=>hf j (by omega));rw [h2,List.length_append];omega
 ·show t.1++f i=_;rw [h2,List.range_succ,List.flatMap_append,List.append_assoc];simp
section
variable {st:Q7}
theorem Q9G{r:Q2}{post:List Int->Prop}(hp:post (slR r)):YH r r.A4 post:=by
 unfold YH Ge Xg;unfold slR low high at hp;refine Ite.mk (λh=>?_) (λh=>?_) <;> simp at h
 ·rw [gF h] at hp;exact hp
 ·rw [gC (by omega)] at hp;exact hp
theorem Zh{i:Nat}{r:Q2}(h:st.Ak[i]?=some r):st.Ak.getD i default=r:=by rw [gD,h];rfl
theorem Zd{l:List Int}{n:Nat}{x:Int}(h:l[n]?=some x):l.getD n 0=x:=by rw [gD,h];rfl
theorem Q6B{i:Nat}(hi:i<st.Ak.length){post:List Int->Prop}(hp:post (slR (st.Ak.getD i default))):Y0 st i post:=by
 have hx:=gE hi;rw [Zh hx] at hp;unfold Y0;exact Jor2 (Ite.f (by simp;omega) ⟨_,Qo rfl hx,Q9G hp⟩)
theorem Q1j(hz:Sz st){i:Int}{post:Int->Prop}(hp:post (carr st i)):Gr st i post:=by
 unfold Gr QN;unfold carr at hp;refine Ite.mk (λh=>?_) (λh=>?_) <;> simp at h
 ·rw [gF h] at hp;exact hp
 ·rw [gC (by omega)] at hp;exact Z5 (by have:=hz.rb;unfold maxLen;omega) (λr:Q2=>r.Ae == i) (T:=λx q=>W5 x i q) (λx _ q hq=>by unfold W5;exact hq) hp
theorem Q6q(hz:Sz st){i:Nat}(hi:i<st.Al.length){post:List Int->Prop}(hp:post (slS st i)):Y2 st i post:=by
 have hx:=gE hi;unfold slS carB high at hp;rw [Zd hx] at hp;unfold Y2;refine Jn.mk' (Ite.f (by simp) (Ite.f (by simp;omega) (Q1j hz ?_)));refine Ite.mk (λh=>?_) (λh=>?_)
 ·rw [gF (by simpa using h)] at hp;exact hp
 ·rw [gC (by simpa using h)] at hp;exact⟨_,Qo rfl hx,by unfold Xg;exact hp⟩
theorem Q5U{i:Nat}(hi:i<st.Ai.length){post:List Int->Prop}(hp:post (slP (st.Ai.getD i 0))):WI st i post:=by
 have hx:=gE hi;rw [Zd hx] at hp;unfold WI Ge Xg;exact Jor2 (Ite.f (by simp;omega) ⟨_,Qo rfl hx,hp⟩)
theorem Q77(r:Q2):(slR r).length≤2:=by unfold slR;split <;> simp
theorem Q70(i:Nat):(slS st i).length≤2:=by unfold slS;split <;> simp
theorem Q1b(hz:Sz st):(allS st).length≤6000:=by
 have h1:=Zn (n:=st.Ak.length) (f:=λi=>slR (st.Ak.getD i default)) (λi _=>Q77 _);have h2:=Zn (n:=st.Al.length) (f:=slS st) (λi _=>Q70 i);have h3:=Zn (n:=st.Ai.length) (f:=λi=>slP (st.Ai.getD i 0)) (λi _=>by simp [slP]);have:=hz.sh;have:=hz.rb;have:=hz.pp;unfold allS;rw [List.length_append,List.length_append];omega
theorem Q2J(hz:Sz st){post:List Int->Prop}(hp:post (allS st)):Yt st post:=by
 have h1:=Zn (n:=st.Ak.length) (f:=λi=>slR (st.Ak.getD i default)) (λi _=>Q77 _);have h2:=Zn (n:=st.Al.length) (f:=slS st) (λi _=>Q70 i);have q1:=hz.sh;have q2:=hz.rb;have q3:=hz.pp;unfold Yt;refine Qby q2 (f:=λi=>slR (st.Ak.getD i default)) (λi _=>Q77 _) (T:=λi q=>Y0 st i q) (λi hi q hq=>Q6B hi hq) (by simp) ?_;refine Qby q1 (f:=slS st) (λi _=>Q70 i) (T:=λi q=>Y2 st i q) (λi hi q hq=>Q6q hz hi hq) (by rw [List.nil_append];omega) ?_;refine Qby q3 (f:=λi=>slP (st.Ai.getD i 0)) (λi _=>by simp [slP]) (T:=λi q=>WI st i q) (λi hi q hq=>Q5U hi hq) (by rw [List.length_append];simp only [List.nil_append];omega) ?_;exact hp
theorem Q4K(hz:Sz st){post:List Int->Prop}(hp:∀l,List.Perm l (allS st)->post l):Z0 st post:=by
 unfold Z0 Qz;exact Q2J hz ⟨by have:=Q1b hz;omega,hp _ (List.mergeSort_perm _ _)⟩
theorem Yd{l m:List Int}(h:List.Perm l m)(x:Int):l.contains x=m.contains x:=by
 rw [Bool.eq_iff_iff];simp [h.mem_iff]
end
def kx(f:Qe)(c:Int):Int:=if isC f c=true then kd f c else -1
structure RRob (s:Q5) (st:Q7) (i:Nat) (r:Q2):Prop where
 cell:isC s.A9 r.A4=true
 kind:kd s.A9 r.A4≠0
 load:-1≤r.Ae∧r.Ae<st.Al.length
 charge:0≤r.A6∧r.A6≤1000000
 Ba:0≤r.Aj∧r.Aj≤20000
 mute:0≤r.Af∧r.Af≤20000
 own:0≤r.Ae->carr st r.Ae=i∧st.Al.getD r.Ae.toNat 0=r.A4
structure RSt (s:Q5) (st:Q7):Prop where
 Bh:0≤st.Ar∧st.Ar≤20000
 sl:st.Al.length=s.Al.length
 rl:st.Ak.length=s.Ak.length
 pl:st.Ai.length≤20
 rob:∀(i:Nat) r,st.Ak[i]?=some r->RRob s st i r
 shel:∀(i:Nat) c,st.Al[i]?=some c->carB st i=false->kx s.A9 c=1∨kx s.A9 c=2
 ppl:∀(i:Nat) c,st.Ai[i]?=some c->kx s.A9 c=4∨kx s.A9 c=5
 dead:∀(i:Nat) c,st.A8[i]?=some c->isC s.A9 c=true
 deadA:∀(i:Nat) x y,st.A8[i]?=some x->st.A8[i+1]?=some y->x<y
 stuck:∀(i:Nat) x,st.Aq[i]?=some x->kx s.A9 x.A4=6∧1≤x.Ad∧x.Ad≤20000
 stuckA:∀(i:Nat) x y,st.Aq[i]?=some x->st.Aq[i+1]?=some y->x.A4<y.A4
 clash:(allS st).Nodup
section
variable {s:Q5} {st:Q7}
end
structure LS (s:Q5) (st:Q7):Prop where
 fl:RF s.A9
 rs:RS s
 sz:Sz st
 cell:∀c,c∈st.Al->isC s.A9 c=true
 rob:∀(i:Nat) r,st.Ak[i]?=some r->isC s.A9 r.A4=true∧-1≤r.Ae∧r.Ae<st.Al.length
def mvB(a:Int):Bool:=decide (1≤a)&&decide (a<7)
def movS(s:Q5)(st:Q7)(r:Q2)(d:Int):Int:=
 if (!(nx s.A9 r.A4 d).2||st.A8.contains (nx s.A9 r.A4 d).1)=true then 14
 else if ((d == 4||d == 5)&&(st.Aq.any λx=>x.A4 == r.A4||x.A4 == (nx s.A9 r.A4 d).1))=true then 14
 else if opn s (nx s.A9 r.A4 d).1 st.Ar=false then 18
 else if ((allS st).contains (low (nx s.A9 r.A4 d).1)||(decide (r.Ae≥0)&&(allS st).contains (high (nx s.A9 r.A4 d).1)))=true then 15 else 0
def legR(s:Q5)(st:Q7)(r:Q2)(a:Int):Int:=
 if a<0∨a≥10 then 1 else if a=0 then 0
 else if (r.A8||decide (r.Af>0))=true then 9
 else if (mvB a&&decide (r.Aj>0))=true then 8
 else if (aft st.Ar r.A6 a (decide (r.Ae≥0))).2=16 then 16
 else if mvB a=true then movS s st r (a-1)
 else if a=7 then (if r.Ae≥0 then 7 else if atS st r.A4<0 then 4 else 0)
 else if a=8 then (if r.Ae<0 then 7 else Q5m s st r.Ae r.A4)
 else if kd s.A9 r.A4=3 then 0 else 13
def legS(s:Q5)(st:Q7)(i a:Int):Int:=if i<0∨i≥st.Ak.length then 4 else legR s st (st.Ak.getD i.toNat default) a
def chg(st:Q7)(r:Q2)(a:Int):Int:=if (aft st.Ar r.A6 a (decide (r.Ae≥0))).2=0 then (aft st.Ar r.A6 a (decide (r.Ae≥0))).1 else 0
def lod(st:Q7)(r:Q2)(a:Int):Int:=if a=7 then atS st r.A4 else if a=8 then -1 else r.Ae
def nwR(s:Q5)(st:Q7)(r:Q2)(a:Int):Q2:=
 if (mvB a&&(nx s.A9 r.A4 (a-1)).2)=true then {r with A4:=(nx s.A9 r.A4 (a-1)).1,Ae:=lod st r a,A6:=chg st r a,Aj:=spd s (nx s.A9 r.A4 (a-1)).1-1}
 else {r with Ae:=lod st r a,A6:=chg st r a}
def nwS(s:Q5)(st:Q7)(r:Q2)(a:Int):List Int:=
 if (mvB a&&(nx s.A9 r.A4 (a-1)).2)=true∧0≤lod st r a then st.Al.set (lod st r a).toNat (nx s.A9 r.A4 (a-1)).1 else st.Al
def doR(s:Q5)(st:Q7)(n:Nat)(r:Q2)(a:Int):Q7:=
 if r.A8=true then st else {st with Al:=nwS s st r a,Ak:=st.Ak.set n (nwR s st r a)}
section
variable {s:Q5} {st:Q7}
theorem Yo{a:Int}:mvB a=true↔1≤a∧a<7:=by simp [mvB]
theorem Q0y{a:Int}(h0:0≤a)(h9:a<10){post:Int×Bool->Prop}(hp:post (a-1,mvB a)):GH a post:=by
 unfold GH;rw [K9 (by omega) (by omega)];refine Q0K ?_;have:(decide (a-1≥0)&&decide (a-1<6))=mvB a:=by rw [Bool.eq_iff_iff,Yo];simp;omega
 rw [this];exact hp
theorem QbP{xs:List Qd}(hl:xs.length≤maxLen){r:Q2}{c:Int}{post:Bool->Prop}(hp:post (xs.any λx=>x.A4 == r.A4||x.A4 == c)):QD xs r c post:=by
 unfold QD K5;exact Z5 hl (λx:Qd=>x.A4 == r.A4||x.A4 == c) (T:=λx q=>YE x r c q) (λx _ q hq=>by unfold YE;exact Jor2 hq) (post:=λn=>post (decide (n≥0))) (by rw [Zs];exact hp)
theorem Q8c(ks:QF s)(h:LS s st){r:Q2}{d:Int}{post:Int->Prop}(hp:post (movS s st r d)):Q03 s st r d post:=by
 have hd:st.A8.length≤maxLen:=by have:=h.sz.dd;unfold maxLen;omega
 have hk:st.Aq.length≤maxLen:=by have:=h.sz.sk;unfold maxLen;omega
 unfold Q03 Ge Xg;unfold movS at hp;refine Ww h.fl ?_;generalize nx s.A9 r.A4 d=x at hp;refine Jn.mk (λb=>b=(!x.2||st.A8.contains x.1)) (Ite.mk (λh1=>KE hd (by rw [h1];rfl)) (λh1=>by rw [h1];rfl)) (λb hb=>?_);subst hb;refine Ite.mk (λh1=>?_) (λh1=>?_)
 ·rw [gF h1] at hp;exact hp
 rw [gC (by rw [h1];simp)] at hp;refine Jor2 (Jn.mk (λ_=>((d == 4||d == 5)&&(st.Aq.any λy=>y.A4 == r.A4||y.A4 == x.1))=false) (Ite.mk (λh2=>QbP hk (Ite.mk (λh3=>?_) (λh3=>?_))) (λh2=>?_)) (λ_ h2=>?_))
 ·rw [gF (by rw [h2,h3];rfl)] at hp;exact hp
 ·rw [h3];simp
 ·rw [h2];simp
 rw [gC (by rw [h2];simp)] at hp;refine Q0R ks h.rs (Ite.mk (λh3=>?_) (λh3=>Q4K h.sz (λl hl=>?_)))
 ·rw [gF (by simpa using h3)] at hp;exact hp
 rw [gC (by simpa using h3)] at hp;have hlm:l.length≤maxLen:=by rw [hl.length_eq];have:=Q1b h.sz;unfold maxLen;omega
 refine Jn.mk (λb=>b=((allS st).contains (low x.1)||(decide (r.Ae≥0)&&(allS st).contains (high x.1)))) (KE hlm (Ite.mk (λh4=>?_) (λh4=>Ite.mk (λh5=>KE hlm ?_) (λh5=>?_)))) (λb hb=>?_)
 ·rw [Yd hl] at h4;unfold low;rw [h4];rfl
 ·rw [Yd hl] at h4 ⊢;unfold low high;rw [h4,h5];rfl
 ·rw [Yd hl] at h4;unfold low;rw [h4,h5];rfl
 ·subst hb;refine Ite.mk (λh4=>?_) (λh4=>?_)
  ·rw [gF h4] at hp;exact hp
  ·rw [gC (by rw [h4];simp)] at hp;exact hp
theorem Q3z(ks:QF s)(k:KK st)(h:LS s st){i a:Int}{post:Int->Prop}(hp:post (legS s st i a)):GW s st i a post:=by
 have hsl:st.Al.length≤1000000:=by have:=h.sz.sh;omega
 unfold GW;unfold legS legR at hp;refine Jor2 (Ite.mk (λh1=>?_) (λh1=>?_)) <;> simp at h1
 ·rw [gF (by omega)] at hp;exact hp
 rw [gC (by omega)] at hp;refine Jor2 (Ite.mk (λh2=>?_) (λh2=>?_)) <;> simp at h2
 ·rw [gF (by omega)] at hp;exact hp
 rw [gC (by omega)] at hp;refine Ite.mk (λh3=>?_) (λh3=>?_) <;> simp at h3
 ·rw [gF h3] at hp;exact hp
 rw [gC h3] at hp;obtain⟨n,hn⟩:=Int.eq_ofNat_of_zero_le h1.1;have hlt:n<st.Ak.length:=by omega
 have hx:=gE hlt;have hg:st.Ak.getD i.toNat default=st.Ak[n]:=by rw [hn];exact Zh hx
 rw [hg] at hp;generalize st.Ak[n]=r at hp hx;obtain⟨hc,hlo⟩:=h.rob n r hx;refine⟨r,Qo hn hx,Q0y h2.1 h2.2 (Jor2 (Ite.mk (λh4=>?_) (λh4=>?_)))⟩
 ·rw [gF h4] at hp;exact hp
 rw [gC (by rw [h4];simp)] at hp;refine Q0K (Ite.mk (λh5=>?_) (λh5=>?_))
 ·rw [gF h5] at hp;exact hp
 rw [gC (by rw [h5];simp)] at hp;refine Q0W (Ite.mk (λh6=>?_) (λh6=>?_))
 ·simp at h6;rw [gF h6] at hp;rw [h6];exact hp
 simp at h6;rw [gC h6] at hp;refine Ite.mk (λh7=>?_) (λh7=>?_)
 ·simp only at h7;rw [gF h7] at hp;exact Q8c ks h hp
 simp only at h7;rw [gC (by rw [h7];simp)] at hp;refine Ite.mk (λh8=>?_) (λh8=>?_) <;> simp at h8
 ·rw [gF h8] at hp;unfold Q18;refine Ite.mk (λh9=>?_) (λh9=>Q4H k hsl ?_) <;> simp at h9
  ·rw [gF h9] at hp;exact hp
  ·rw [gC (by omega)] at hp;refine Ite.mk (λg=>?_) (λg=>?_) <;> simp at g
   ·rw [gF g] at hp;exact hp
   ·rw [gC (by omega)] at hp;exact hp
 rw [gC h8] at hp;refine Q0K (Ite.mk (λh9=>?_) (λh9=>Ite.mk (λg=>?_) (λg=>?_)))
 ·simp at h9;rw [gF h9.1,gF h9.2] at hp;exact hp
 ·simp at g;rw [g] at h9;simp at h9;rw [gF g,gC (by omega)] at hp;exact Q6G ks k h.fl hsl hp
 ·simp at g;rw [gC g] at hp;refine⟨_,Q0l hc,Ite.mk (λg1=>?_) (λg1=>?_)⟩
  ·rw [gC (by simpa using g1)] at hp;exact hp
  ·rw [gF (by simpa using g1)] at hp;exact hp
end
def doS(s:Q5)(st:Q7)(i a:Int):Q7:=if i<0∨i≥st.Ak.length then st else doR s st i.toNat (st.Ak.getD i.toNat default) a
section
variable {s:Q5} {st:Q7}
theorem Q7h{α:Type}{xs:List α}(hl:xs.length≤1099511627776){post:List α->Prop}(hp:post xs):∀hb5:Bool,(hb5=true->xs=[])->Ite (hb5 == true) (post []) ((([]:List α).length+xs.length≤1099511627776)∧post (([]:List α)++xs)):=by
 intro b hb;refine Ite.mk (λh=>?_) (λh=>⟨by simp;omega,by rw [List.nil_append];exact hp⟩);rw [hb (by simpa using h)] at hp;exact hp
theorem ZO{xs:List Int}(hl:xs.length≤1000){post:List Int->Prop}(hp:post xs):Kb xs post:=by
 unfold Kb;exact Q7h (by omega) hp
theorem Q9g{xs:List Q2}(hl:xs.length≤1000){post:List Q2->Prop}(hp:post xs):Kn xs post:=by
 unfold Kn;exact Q7h (by omega) hp
theorem Q94{xs:List Qd}(hl:xs.length≤1000){post:List Qd->Prop}(hp:post xs):Ko xs post:=by
 unfold Ko;exact Q7h (by omega) hp
theorem Q0P(hz:Sz st){post:Q7->Prop}(hp:post st):Wm st post:=by
 unfold Wm;exact ZO hz.sh (Q9g hz.rb (ZO hz.pp (ZO hz.dd (Q94 hz.sk hp))))
theorem Qcy(c:Int):-1≤atS st c∧atS st c<st.Al.length:=Qay st c
theorem QaG(h:LS s st){n:Nat}{r:Q2}(hx:st.Ak[n]?=some r)(a:Int):-1≤lod st r a∧lod st r a<st.Al.length:=by
 have:=h.rob n r hx;unfold lod;split
 ·exact Qcy _
 ·split <;> omega
theorem QcO{t ch a:Int}{l:Bool}(h:I64 ch):I64 (aft t ch a l).1:=by
 have hc:=Q4S t a l;unfold aft;split
 ·exact h
 ·split
  ·split <;> constructor <;> (simp only;omega)
  ·split
   ·exact h
   ·constructor <;> (simp only;omega)
theorem Qch(k:KK st){n:Nat}{r:Q2}(hx:st.Ak[n]?=some r)(a:Int):I64 (chg st r a):=by
 have h:=(k.Ak.2 r (gM hx)).A6;unfold chg;split
 ·exact QcO h
 ·exact Q0p (by decide)
theorem QbL{α:Type}{l:List α}{n:Nat}{i:Int}{a:α}(hi:i=n)(h:n<l.length):idx (l.set i.toNat a) i=some a:=by
 refine Qo hi ?_;rw [hi];simp [h]
theorem Q7V(ks:QF s)(k:KK st)(h:LS s st){i a:Int}(h0:0≤a)(h9:a<10){post:Q7->Prop}(hp:post (doS s st i a)):Zx s st i a post:=by
 have hsl:st.Al.length≤1000000:=by have:=h.sz.sh;omega
 unfold Zx;refine Q0P h.sz ?_;by_cases hv:i<0∨i≥st.Ak.length
 ·unfold doS at hp;rw [gF hv] at hp;refine Jn.mk (λb=>b=true) (Ite.mk (λ_=>rfl) (λh1=>Ite.mk (λ_=>rfl) (λh2=>?_))) (λb hb=>Ite.t hb hp);simp at h1 h2;omega
 unfold doS at hp;rw [gC hv] at hp;obtain⟨n,hn⟩:=Int.eq_ofNat_of_zero_le (show 0≤i by omega);have hlt:n<st.Ak.length:=by omega
 have hx:=gE hlt;have hg:st.Ak.getD i.toNat default=st.Ak[n]:=by rw [hn];exact Zh hx
 rw [hg] at hp;generalize st.Ak[n]=r at hp hx;have hb:=QaG h hx a;refine Jn.mk (λb=>b=r.A8) (Ite.f (by simp;omega) (Ite.f (by simp;omega) ⟨r,Qo hn hx,rfl⟩)) (λb hbd=>?_);subst hbd;unfold doR at hp;refine Ite.mk (λh1=>?_) (λh1=>?_)
 ·rw [gF h1] at hp;exact hp
 rw [gC (by rw [h1];simp)] at hp;refine⟨r,Qo hn hx,Q0W ?_⟩;refine Jn.mk (λc=>c=chg st r a) (Ite.mk (λh2=>?_) (λh2=>?_)) (λc hc=>?_)
 ·unfold chg;rw [gC (by simpa using h2)]
 ·unfold chg;rw [gF (by simpa using h2)]
 subst hc;refine Jn.mk (λl=>l=st.Ak.set i.toNat {r with Ae:=lod st r a,A6:=chg st r a}) (Ite.mk (λh2=>Q4H k hsl ?_) (λh2=>Jn.mk' (Ite.mk (λh3=>?_) (λh3=>?_)))) (λl hl=>?_)
 ·rw [List.set_set];unfold lod;rw [gF (by simpa using h2)]
 ·rw [List.set_set];unfold lod;rw [gC (by simpa using h2),gF (by simpa using h3)]
 ·unfold lod;rw [gC (by simpa using h2),gC (by simpa using h3)]
 subst hl;refine Q0y h0 h9 (Ite.mk (λh2=>?_) (λh2=>?_))
 ·have hm:mvB a=false:=by simpa using h2
  unfold nwR nwS at hp;rw [hm] at hp;simp only [Bool.false_and,Bool.false_eq_true,false_and,if_false] at hp;exact hp
 have hm:mvB a=true:=by simpa using h2
 refine⟨_,QbL hn hlt,Ww h.fl ?_⟩;unfold nwR nwS at hp;rw [hm,Bool.true_and] at hp;show Jn _ _;refine Jn.mk (λp:List Int×List Q2=>p=(nwS s st r a,st.Ak.set i.toNat (nwR s st r a))) (Ite.mk (λh3=>YV ks h.rs ?_) (λh3=>?_)) (λp hpp=>?_)
 ·have h3':(nx s.A9 r.A4 (a-1)).2=true:=h3;have hsp:=Q3H h.rs (nx s.A9 r.A4 (a-1)).1;refine Jn.mk (λl=>l=nwS s st r a) (Ite.mk (λh4=>?_) (λh4=>?_)) (λl hl=>?_)
  ·have h4':0≤lod st r a:=by simpa using h4
   obtain⟨m,hm2⟩:=Int.eq_ofNat_of_zero_le h4';refine⟨_,Qo hm2 (gE (by omega)),?_⟩;unfold nwS;rw [gF ⟨by rw [hm,h3'];rfl,h4'⟩]
  ·have h4':¬0≤lod st r a:=by simpa using h4
   unfold nwS;rw [gC (λe=>h4' e.2)]
  ·subst hl;have ew:w64 (spd s (nx s.A9 r.A4 (a-1)).1-1)=spd s (nx s.A9 r.A4 (a-1)).1-1:=K9 (by omega) (by omega);rw [List.set_set,List.set_set];simp only [] at ew ⊢;rw [ew];show (_,_)=(_,_);unfold nwR;rw [hm,h3'];rfl
 ·have h3':(nx s.A9 r.A4 (a-1)).2=false:=h3;show (_,_)=(_,_);unfold nwR nwS;rw [hm,h3'];simp only [Bool.and_false,Bool.false_eq_true,false_and,if_false]
 ·subst hpp;unfold nwR nwS;rw [hm,Bool.true_and];exact hp
end
section
variable {s:Q5} {st:Q7}
theorem Q5G(r:Q2)(a:Int):(nwS s st r a).length=st.Al.length:=by unfold nwS;split <;> simp
theorem Q95(h:LS s st)(r:Q2)(a:Int){c:Int}(hc:c∈nwS s st r a):isC s.A9 c=true:=by
 unfold nwS at hc;split at hc
 ·rename_i hif;simp only [gP] at hif;rcases List.mem_or_eq_of_mem_set hc with e | e
  ·exact h.cell c e
  ·rw [e];exact (Q4d h.fl hif.1.2).2.1
 ·exact h.cell c hc
theorem Q7K(h:LS s st){n:Nat}{r:Q2}(hx:st.Ak[n]?=some r)(a:Int):isC s.A9 (nwR s st r a).A4=true:=by
 unfold nwR;split
 ·rename_i hif;simp only [gP] at hif;exact (Q4d h.fl hif.2).2.1
 ·exact (h.rob n r hx).1
theorem Q7I(r:Q2)(a:Int):(nwR s st r a).Ae=lod st r a:=by unfold nwR;split <;> rfl
theorem Q8j(r:Q2)(a:Int):(nwR s st r a).A6=chg st r a:=by unfold nwR;split <;> rfl
theorem Q9X(r:Q2)(a:Int):(nwR s st r a).Af=r.Af∧(nwR s st r a).A8=r.A8:=by unfold nwR;split <;> exact⟨rfl,rfl⟩
theorem Q9V(h:LS s st)(r:Q2)(a:Int):(nwR s st r a).Aj=r.Aj∨0≤(nwR s st r a).Aj∧(nwR s st r a).Aj≤100:=by
 unfold nwR;split
 ·have:=Q3H h.rs (nx s.A9 r.A4 (a-1)).1;right;simp only;omega
 ·exact .inl rfl
theorem Q1D{α:Type}{l:List α}{n j:Nat}{a x:α}(h:(l.set n a)[j]?=some x):(j=n∧n<l.length∧x=a)∨(j≠n∧l[j]?=some x):=by
 rw [List.getElem?_set] at h;split at h
 ·split at h
  ·cases h;exact .inl ⟨by omega,by assumption,rfl⟩
  ·cases h
 ·exact .inr ⟨by omega,h⟩
theorem Q0F(hf:RF s.A9){c:Int}(h:isC s.A9 c=true):I64 c:=by
 have:=XO.1 h;have:=hf.len.1;exact Q0p (by omega)
theorem QcB(k:KK st)(h:LS s st){n:Nat}{r:Q2}(hx:st.Ak[n]?=some r)(a:Int):LS s (doR s st n r a)∧KK (doR s st n r a):=by
 unfold doR;split
 ·exact⟨h,k⟩
 have hlt:=(gS.1 hx).1;have hr:=k.Ak.2 r (gM hx);have hb:=QaG h hx a;have h3:=h.sz.sh;have hmx:(1000000:Nat)≤maxLen:=by decide
 refine⟨⟨h.fl,h.rs,⟨by simp only;rw [Q5G];exact h.sz.sh,by simp only;rw [List.length_set];exact h.sz.rb,h.sz.pp,h.sz.dd,h.sz.sk⟩,λc hc=>Q95 h r a hc,λi x hxi=>?_⟩,⟨k.Ar,⟨by rw [Q5G];exact k.Al.1,λc hc=>Q0F h.fl (Q95 h r a hc)⟩,⟨by rw [List.length_set];exact k.Ak.1,λx hxm=>?_⟩,k.Ai,k.A8,k.Aq⟩⟩
 ·show _∧_∧x.Ae<((nwS s st r a).length:Int);rw [Q5G];rcases Q1D hxi with ⟨_,_,e⟩ | ⟨_,e⟩
  ·subst e;rw [Q7I];exact⟨Q7K h hx a,hb.1,hb.2⟩
  ·exact h.rob i x e
 ·rcases List.mem_or_eq_of_mem_set hxm with e | e
  ·exact k.Ak.2 x e
  ·subst e;refine⟨Q0F h.fl (Q7K h hx a),?_,?_,?_,?_,trivial⟩
   ·rw [Q7I];exact Q0p (by omega)
   ·rw [Q8j];exact Qch k hx a
   ·rcases Q9V h r a with e | e
    ·rw [e];exact hr.Aj
    ·exact Q0p (by omega)
   ·rw [(Q9X r a).1];exact hr.Af
theorem Qcn(k:KK st)(h:LS s st)(i a:Int):LS s (doS s st i a)∧KK (doS s st i a):=by
 unfold doS;split
 ·exact⟨h,k⟩
 ·obtain⟨n,hn⟩:=Int.eq_ofNat_of_zero_le (show 0≤i by omega);have hlt:n<st.Ak.length:=by omega
  have hx:=gE hlt;rw [hn];show LS s (doR s st n (st.Ak.getD n default) a)∧KK (doR s st n (st.Ak.getD n default) a);rw [Zh hx];exact QcB k h hx a
theorem RSt.cells(h:RSt s st):∀c,c∈st.Al->isC s.A9 c=true:=by
 intro c hc;obtain⟨i,hi⟩:=gO hc;cases hb:carB st i with
 | true=>
  rw [Q5S (by omega)] at hb;obtain⟨r,hr,hl⟩:=List.any_eq_true.1 hb;obtain⟨j,hj⟩:=gO hr;have hR:=h.rob j r hj;have hl':r.Ae=(i:Int):=by simpa using hl
  have:=(hR.own (by omega)).2;rw [hl'] at this;have e:st.Al.getD i 0=c:=Zd hi;rw [<-e];show isC s.A9 (st.Al.getD ((i:Int)).toNat 0)=true;rw [this];exact hR.cell
 | false=>
  have:=h.shel i c hi hb;unfold kx at this;cases hic:isC s.A9 c with
  | true=>rfl
  | false=>rw [hic] at this;simp at this
end
theorem Q8L{s:Q5}{st:Q7}{i a:Int}(h:legS s st i a=0):(0≤i∧i<st.Ak.length)∧0≤a∧a<10:=by
 unfold legS at h;split at h
 ·cases h
 ·unfold legR at h;split at h
  ·cases h
  ·omega
section
variable {s:Q5} {st:Q7}
theorem Qav{i a:Int}{n:Nat}{r:Q2}(hn:i=n)(hx:st.Ak[n]?=some r):doS s st i a=doR s st n r a:=by
 have hlt:=(gS.1 hx).1;subst hn;unfold doS;rw [gC (by omega)];show doR s st n (st.Ak.getD n default) a=_;rw [Zh hx]
theorem Q8W{i a:Int}{n:Nat}{r:Q2}(hn:i=n)(hx:st.Ak[n]?=some r):legS s st i a=legR s st r a:=by
 have hlt:=(gS.1 hx).1;subst hn;unfold legS;rw [gC (by omega)];show legR s st (st.Ak.getD n default) a=_;rw [Zh hx]
theorem Qcl(n:Nat)(r:Q2)(a:Int):(doR s st n r a).Ak.length=st.Ak.length:=by unfold doR;split <;> simp
theorem QcG(n:Nat)(r:Q2)(a:Int):(doR s st n r a).Al.length=st.Al.length:=by
 unfold doR;split
 ·rfl
 ·exact Q5G r a
theorem Q7Q{α:Type}{l:List α}{n:Nat}{x:α}(h:l[n]?=some x):l.set n x=l:=by
 have:=Q45 (xs:=l) (i:=(n:Int)) (x:=x) (Qo rfl h);simpa using this
theorem Qaf{r:Q2}{a:Int}(hm:mvB a=true)(hd:r.A8=false)(h:legR s st r a=0):(nx s.A9 r.A4 (a-1)).2=true∧r.Aj≤0∧movS s st r (a-1)=0:=by
 have h1:=Yo.1 hm;unfold legR at h;rw [gC (by omega),gC (by omega)] at h;split at h
 ·cases h
 split at h
 ·cases h
 rename_i hb;split at h
 ·cases h
 refine⟨?_,?_,h⟩
 ·unfold movS at h;split at h
  ·cases h
  ·rename_i hc;cases e:(nx s.A9 r.A4 (a-1)).2 with
   | true=>rfl
   | false=>exact absurd (by rw [e];rfl) hc
 ·rw [hm] at hb;simpa using hb
end
section
variable {st:Q7}
theorem Q8S{a:Nat}(ha:a<st.Al.length):st.Al.getD a 0∈st.Al:=by rw [Zd (gE ha)];exact List.getElem_mem ha
theorem Qbu{c:Int}(h:0≤atS st c):∃i:Nat,i<st.Al.length∧atS st c=i∧st.Al.getD i 0=c∧carB st i=false:=by
 rcases ZX (atP st c) st.Al.length with ⟨i,hi,e,hp,_⟩ | ⟨e,_⟩
 ·refine⟨i,hi,e,?_⟩;unfold atP at hp;simpa using hp
 ·unfold atS at h;rw [e] at h;omega
end
section
variable {s:Q5} {st:Q7}
theorem Q9p{i:Int}(h:0≤i∧i<st.Ak.length):legS s st i 0=0:=by
 unfold legS;rw [gC (by omega)];unfold legR;rw [gC (by omega),gF rfl]
theorem Q8O{r:Q2}{a:Int}(ha:1≤a∧a<10)(h:legR s st r a=0):(mvB a=true->r.Aj≤0∧movS s st r (a-1)=0)∧(a=7->r.Ae<0∧0≤atS st r.A4)∧(a=8->0≤r.Ae∧stB s r.A4=true)∧(a=9->kd s.A9 r.A4=3):=by
 unfold legR at h;rw [gC (by omega),gC (by omega)] at h;split at h
 ·cases h
 split at h
 ·cases h
 rename_i hb;split at h
 ·cases h
 refine⟨λhm=>?_,λe=>?_,λe=>?_,λe=>?_⟩
 ·rw [gF hm] at h;rw [hm] at hb;exact⟨by simpa using hb,h⟩
 ·rw [gC (by rw [Yo];omega),gF e] at h;split at h
  ·cases h
  split at h
  ·cases h
  exact⟨by omega,by omega⟩
 ·rw [gC (by rw [Yo];omega),gC (by omega),gF e] at h;split at h
  ·cases h
  refine⟨by omega,?_⟩;unfold Q5m at h;split at h
  ·cases h
  split at h
  ·cases h
  rename_i hst;cases e2:stB s r.A4 with
  | true=>rfl
  | false=>exact absurd e2 hst
 ·rw [gC (by rw [Yo];omega),gC (by omega),gC (by omega)] at h;split at h
  ·assumption
  ·cases h
theorem Q8Y{r:Q2}{d:Int}(h:movS s st r d=0):(nx s.A9 r.A4 d).2=true∧st.A8.contains (nx s.A9 r.A4 d).1=false∧opn s (nx s.A9 r.A4 d).1 st.Ar=true∧(allS st).contains (low (nx s.A9 r.A4 d).1)=false∧(0≤r.Ae->(allS st).contains (high (nx s.A9 r.A4 d).1)=false):=by
 unfold movS at h;split at h
 ·cases h
 rename_i h1;split at h
 ·cases h
 split at h
 ·cases h
 rename_i h3;split at h
 ·cases h
 rename_i h4;simp only [Bool.or_eq_true,Bool.not_eq_true',not_or,Bool.not_eq_true,Bool.not_eq_false,gP,decide_eq_true_eq,not_and] at h1 h3 h4;exact⟨h1.1,h1.2,h3,h4.1,h4.2⟩
end
theorem Q19{f f':Nat->List Int}{N n:Nat}(hn:n<N)(hf:∀j,j<N->j≠n->f' j=f j)(x:Int):((List.range N).flatMap f').count x+(f n).count x=((List.range N).flatMap f).count x+(f' n).count x:=by
 have same:∀M,M≤n->M≤N->(List.range M).flatMap f'=(List.range M).flatMap f:=by
  intro M;induction M with
  | zero=>intros;rfl
  | succ M ih=>
   intro h1 h2;rw [List.range_succ,List.flatMap_append,List.flatMap_append,ih (by omega) (by omega)];congr 1;simp [hf M (by omega) (by omega)]
 have key:∀M,n<M->M≤N->((List.range M).flatMap f').count x+(f n).count x=((List.range M).flatMap f).count x+(f' n).count x:=by
  intro M;induction M with
  | zero=>intro h;omega
  | succ M ih=>
   intro h1 h2;rw [List.range_succ,List.flatMap_append,List.flatMap_append,List.count_append,List.count_append];simp only [List.flatMap_cons,List.flatMap_nil,List.append_nil];by_cases e:n=M
   ·subst e;rw [same n (by omega) (by omega)];omega
   ·have:=ih (by omega) (by omega);rw [hf M (by omega) (λe2=>e e2.symm)];omega
 exact key N hn (by omega)
theorem Q1Q{f f':Nat->List Int}{N:Nat}(hf:∀j,j<N->f' j=f j):(List.range N).flatMap f'=(List.range N).flatMap f:=by
 induction N with
 | zero=>rfl
 | succ N ih=>rw [List.range_succ,List.flatMap_append,List.flatMap_append,ih (λj hj=>hf j (by omega))];simp [hf N (by omega)]
section
variable {s:Q5} {st:Q7} {n:Nat} {r y:Q2} {sh:List Int}
theorem Q5j{st:Q7}{j:Nat}:carB st j=true↔∃(k:Nat) (z:Q2),st.Ak[k]?=some z∧z.Ae=(j:Int):=by
 rw [Q5S (by omega),List.any_eq_true];constructor
 ·rintro⟨z,hz,hl⟩;obtain⟨k,hk⟩:=gO hz;exact⟨k,z,hk,by simpa using hl⟩
 ·rintro⟨k,z,hk,hl⟩;exact⟨z,gM hk,by simpa using hl⟩
theorem Q05(hx:st.Ak[n]?=some r){j:Nat}:carB st j=true↔r.Ae=(j:Int)∨∃(k:Nat) (z:Q2),k≠n∧st.Ak[k]?=some z∧z.Ae=(j:Int):=by
 rw [Q5j];constructor
 ·rintro⟨k,z,hk,hl⟩;by_cases e:k=n
  ·subst e;rw [hx] at hk;cases hk;exact .inl hl
  ·exact .inr ⟨k,z,e,hk,hl⟩
 ·rintro (h | ⟨k,z,_,hk,hl⟩)
  ·exact⟨n,r,hx,h⟩
  ·exact⟨k,z,hk,hl⟩
theorem Q24(hx:st.Ak[n]?=some r){j:Nat}:carB {st with Al:=sh,Ak:=st.Ak.set n y} j=true↔y.Ae=(j:Int)∨∃(k:Nat) (z:Q2),k≠n∧st.Ak[k]?=some z∧z.Ae=(j:Int):=by
 have hlt:=(gS.1 hx).1;have hy:({st with Al:=sh,Ak:=st.Ak.set n y}:Q7).Ak[n]?=some y:=by show (st.Ak.set n y)[n]?=_;simp [hlt]
 rw [Q05 hy];constructor
 ·rintro (h | ⟨k,z,hne,hk,hl⟩)
  ·exact .inl h
  ·exact .inr ⟨k,z,hne,by rw [<-hk];exact (List.getElem?_set_ne (by omega)).symm,hl⟩
 ·rintro (h | ⟨k,z,hne,hk,hl⟩)
  ·exact .inl h
  ·exact .inr ⟨k,z,hne,by rw [<-hk];exact List.getElem?_set_ne (by omega),hl⟩
theorem Q9h{st:Q7}{j:Nat}{a:Q2}(hj:st.Ak[j]?=some a)(h0:0≤a.Ae)(hu:∀(k:Nat) z,st.Ak[k]?=some z->z.Ae=a.Ae->k=j):carr st a.Ae=j:=by
 unfold carr;rw [gC (by omega)];rcases Wb (λz:Q2=>z.Ae == a.Ae) st.Ak with ⟨i,x,hi,e,hp,_⟩ | ⟨_,hb⟩
 ·rw [e,hu i x hi (by simpa using hp)]
 ·have:=hb a (gM hj);simp at this
theorem RSt.uniq(h:RSt s st){j k:Nat}{a z:Q2}(hj:st.Ak[j]?=some a)(hk:st.Ak[k]?=some z)(h0:0≤a.Ae)(e:z.Ae=a.Ae):k=j:=by
 have h1:=((h.rob j a hj).own h0).1;have h2:=((h.rob k z hk).own (by omega)).1;rw [e,h1] at h2;omega
theorem RSt.upd(h:RSt s st)(hx:st.Ak[n]?=some r)(hc:isC s.A9 y.A4=true)(hk:kd s.A9 y.A4≠0)(hl:-1≤y.Ae∧y.Ae<st.Al.length)(hch:0≤y.A6∧y.A6≤1000000)(hre:0≤y.Aj∧y.Aj≤20000)(hmu:0≤y.Af∧y.Af≤20000)
  (hsl:sh.length=st.Al.length) (hown:0≤y.Ae->sh.getD y.Ae.toNat 0=y.A4) (hfree:∀(k:Nat) z,k≠n->st.Ak[k]?=some z->0≤z.Ae->z.Ae≠y.Ae∧sh.getD z.Ae.toNat 0=st.Al.getD z.Ae.toNat 0)
  (hshel:∀(i:Nat) c,sh[i]?=some c->carB {st with Al:=sh,Ak:=st.Ak.set n y} i=false->kx s.A9 c=1∨kx s.A9 c=2)
  (hcl:(allS {st with Al:=sh,Ak:=st.Ak.set n y}).Nodup):RSt s {st with Al:=sh,Ak:=st.Ak.set n y} where
 Bh:=h.Bh
 sl:=by show sh.length=_;rw [hsl];exact h.sl
 rl:=by show (st.Ak.set n y).length=_;rw [List.length_set];exact h.rl
 pl:=h.pl
 ppl:=h.ppl
 dead:=h.dead
 deadA:=h.deadA
 stuck:=h.stuck
 stuckA:=h.stuckA
 clash:=hcl
 shel:=hshel
 rob:=λi x hi=>by
  have hlt:=(gS.1 hx).1;have huniq:∀{j:Nat} {a:Q2},(st.Ak.set n y)[j]?=some a->0≤a.Ae->∀(k:Nat) z,(st.Ak.set n y)[k]?=some z->z.Ae=a.Ae->k=j:=by
   intro j a hj h0 k z hk e;rcases Q1D hj with ⟨ej,_,ea⟩ | ⟨ej,ha⟩
   ·rcases Q1D hk with ⟨ek,_,ez⟩ | ⟨ek,hz⟩
    ·omega
    ·subst ea;exact absurd e (hfree k z ek hz (by omega)).1
   ·rcases Q1D hk with ⟨ek,_,ez⟩ | ⟨ek,hz⟩
    ·subst ez;exact absurd e.symm (hfree j a ej ha h0).1
    ·exact h.uniq ha hz h0 e
  rcases Q1D hi with ⟨ei,_,ex⟩ | ⟨ei,hx2⟩
  ·subst ex;exact⟨hc,hk,by show _∧_<(sh.length:Int);rw [hsl];exact hl,hch,hre,hmu,λh0=>⟨Q9h hi h0 (huniq hi h0),hown h0⟩⟩
  ·have hR:=h.rob i x hx2;exact⟨hR.cell,hR.kind,by show _∧_<(sh.length:Int);rw [hsl];exact hR.load,hR.charge,hR.Ba,hR.mute,λh0=>⟨Q9h hi h0 (huniq hi h0),by show sh.getD _ _=_;rw [(hfree i x ei hx2 h0).2];exact (hR.own h0).2⟩⟩
theorem Q15{α:Type}{l:List α}{m j:Nat}{a d:α}(hm:m<l.length):(l.set m a).getD j d=if j=m then a else l.getD j d:=by
 rw [gD,gD,List.getElem?_set];by_cases e:m=j
 ·subst e;simp [hm]
 ·rw [gC e,gC (λe2=>e e2.symm)]
theorem Q0x(hx:st.Ak[n]?=some r)(x:Int):((List.range (st.Ak.set n y).length).flatMap (λi=>slR ((st.Ak.set n y).getD i default))).count x+(slR r).count x=((List.range st.Ak.length).flatMap (λi=>slR (st.Ak.getD i default))).count x+(slR y).count x:=by
 have hlt:=(gS.1 hx).1;rw [List.length_set];have:=Q19 (f:=λi=>slR (st.Ak.getD i default)) (f':=λi=>slR ((st.Ak.set n y).getD i default)) hlt (λj _ hne=>by rw [Q15 hlt,gC hne]) x;rw [Q15 hlt,gF rfl,Zh hx] at this;exact this
theorem Q7Z{f:Qe}(hf:RF f){c:Int}(h:isC f c=true):low c=2*c∧high c=2*c+1:=by
 have h1:=XO.1 h;have h2:=hf.len.1;unfold low high;rw [K9 (x:=2*c) (by omega) (by omega),K9 (by omega) (by omega)];exact⟨rfl,rfl⟩
theorem Q3e(h:(allS st).Nodup)(x:Int):(allS st).count x≤1:=List.nodup_iff_count.1 h x
theorem kx12{c:Int}(h:stB s c=true):kx s.A9 c=1∨kx s.A9 c=2:=by
 unfold stB Q1h at h;simp only [gP,Bool.or_eq_true,beq_iff_eq] at h;unfold kx;rw [gF h.1];exact h.2
theorem QbR{a:Int}(hc:0≤r.A6∧r.A6≤1000000)(ha:0≤a∧a<10):0≤chg st r a∧chg st r a≤1000000:=by
 have hb:=Q4S st.Ar a (decide (r.Ae≥0));unfold chg;split
 ·rename_i h;unfold aft at h ⊢;rw [gC (by omega)] at h ⊢;split
  ·simp only;split <;> omega
  ·rename_i h9;rw [gC h9] at h;split
   ·rename_i h2;rw [gF h2] at h;cases h
   ·simp only;omega
 ·omega
theorem Q4T{st':Q7}(hs:st'.Al.length=st.Al.length)(hk:∀j:Nat,j<st.Al.length->carB st' j=false->carB st j=false∧st'.Al.getD j 0=st.Al.getD j 0)(h:(ZU s st).2.2=false):(ZU s st').2.2=false:=by
 cases e:(ZU s st').2.2 with
 | false=>rfl
 | true=>
  obtain⟨a,b,hab,hb,hbad⟩:=Q13.1 e;rw [hs] at hb;unfold badP at hbad;simp only [gP,Bool.not_eq_true'] at hbad;obtain⟨⟨⟨h1,h2⟩,h3⟩,h4⟩:=hbad;obtain⟨k1,k2⟩:=hk a (by omega) h3;obtain⟨k3,k4⟩:=hk b hb h4;have:(ZU s st).2.2=true:=Q13.2 ⟨a,b,hab,hb,by unfold badP;rw [<-k2,<-k4,h1,h2,k1,k3];rfl⟩;rw [this] at h;cases h
theorem Q96{st':Q7}{j:Nat}(hc:carB st' j=carB st j)(hg:carB st j=false->st'.Al.getD j 0=st.Al.getD j 0):slS st' j=slS st j:=by
 unfold slS;rw [hc];split
 ·rfl
 ·rename_i h;rw [hg (by simpa using h)]
theorem Q3Z(h:RSt s st)(hf:RF s.A9)(hx:st.Ak[n]?=some r)(hc:isC s.A9 y.A4=true)(hk:kd s.A9 y.A4≠0)(hly:y.Ae=r.Ae)(hch:0≤y.A6∧y.A6≤1000000)(hre:0≤y.Aj∧y.Aj≤20000)(hmu:y.Af=r.Af)
  (hsh:sh=if 0≤r.Ae then st.Al.set r.Ae.toNat y.A4 else st.Al)
  (hsub:y.A4=r.A4∨∀x,x∈slR y->(allS st).contains x=false):
  RSt s {st with Al:=sh,Ak:=st.Ak.set n y}∧((ZU s st).2.2=false->(ZU s {st with Al:=sh,Ak:=st.Ak.set n y}).2.2=false):=by
 have hR:=h.rob n r hx;have hcarE:∀j:Nat,carB {st with Al:=sh,Ak:=st.Ak.set n y} j=carB st j:=λj=>by
  rw [Bool.eq_iff_iff,Q24 hx,Q05 hx,hly]
 have hsl:sh.length=st.Al.length:=by rw [hsh];split <;> simp
 have hgo:∀j:Nat,(0≤r.Ae->(j:Int)≠r.Ae)->sh.getD j 0=st.Al.getD j 0:=λj hj=>by
  rw [hsh];split
  ·rename_i h0;rw [Q15 (by have:=hR.load;omega),gC (by have:=hj h0;omega)]
  ·rfl
 have hgc:∀j:Nat,carB st j=false->sh.getD j 0=st.Al.getD j 0:=λj hj=>hgo j λh0 e=>by
  have:carB st j=true:=(Q05 hx).2 (.inl e.symm);rw [this] at hj;cases hj
 refine⟨h.upd hx hc hk (by rw [hly];exact hR.load) hch hre (by rw [hmu];exact hR.mute) hsl (λh0=>?_) (λk z hne hz h0=>?_) (λi c hi hcr=>?_) ?_,λhap=>Q4T hsl (λj hj hc2=>?_) hap⟩
 ·rw [hly] at h0 ⊢;rw [hsh,gF h0,Q15 (by have:=hR.load;omega),gF rfl]
 ·have hne2:z.Ae≠r.Ae:=λe=>hne (h.uniq hx hz (by omega) e)
  refine⟨by rw [hly];exact hne2,hgo _ λ_ e=>hne2 ?_⟩;omega
 ·have hcr':carB st i=false:=by rw [<-hcarE i];exact hcr
  have hlt:i<st.Al.length:=by rw [<-hsl];exact (gS.1 hi).1
  have e:=hgc i hcr';rw [Zd hi] at e;exact h.shel i c (by rw [e,Zd (gE hlt)];exact gE hlt) hcr'
 ·rw [List.nodup_iff_count];intro x;have hA:=Q0x (y:=y) hx x;have hS:(List.range sh.length).flatMap (slS {st with Al:=sh,Ak:=st.Ak.set n y})=(List.range st.Al.length).flatMap (slS st):=by
   rw [hsl];exact Q1Q λj hj=>Q96 (hcarE j) (hgc j)
  have hle:=Q3e h.clash x;have hlh:=Q7Z hf hc;have hy1:(slR y).count x≤1:=by
   refine List.nodup_iff_count.1 ?_ x;unfold slR;split <;> simp;omega
  have hmem:(slR y).count x=0∨x∈slR y:=by
   by_cases e:x∈slR y
   ·exact .inr e
   ·exact .inl (List.count_eq_zero.2 e)
  have h0:x∈slR y->(allS st).contains x=false->(allS st).count x=0:=λ_ e=>List.count_eq_zero.2 (by simpa using e)
  unfold allS at hle h0 hsub ⊢;simp only [List.count_append] at hle h0 ⊢;show ((List.range (st.Ak.set n y).length).flatMap (λi=>slR ((st.Ak.set n y).getD i default))).count x+((List.range sh.length).flatMap (slS {st with Al:=sh,Ak:=st.Ak.set n y})).count x+_≤1;rw [hS];rcases hmem with e | e
  ·omega
  ·rcases hsub with e2 | e2
   ·have:slR y=slR r:=by unfold slR;rw [hly,e2]
    rw [this] at hA;omega
   ·have:=h0 e (e2 x e);omega
 ·have hj2:carB st j=false:=by rw [<-hcarE j];exact hc2
  exact⟨hj2,hgc j hj2⟩
end
section
variable {s:Q5} {st:Q7} {n:Nat} {r:Q2}
def Kept(s:Q5)(st st':Q7):Prop:=RSt s st'∧((ZU s st).2.2=false->(ZU s st').2.2=false)
theorem Q97(h:RSt s st)(hf:RF s.A9)(hx:st.Ak[n]?=some r)(hr:r.Ae<0)(hat:0≤atS st r.A4){ch:Int}(hch:0≤ch∧ch≤1000000):Kept s st {st with Al:=st.Al,Ak:=st.Ak.set n {r with Ae:=atS st r.A4,A6:=ch}}:=by
 have hR:=h.rob n r hx;obtain⟨i,hi,hie,hcell,hcar⟩:=Qbu hat;rw [hie];have hlt:=(gS.1 hx).1;have hc1:∀j:Nat,j≠i->carB {st with Al:=st.Al,Ak:=st.Ak.set n {r with Ae:=(i:Int),A6:=ch}} j=carB st j:=λj hj=>by
  rw [Bool.eq_iff_iff,Q24 hx,Q05 hx];constructor
  ·rintro (e | e)
   ·simp only at e;omega
   ·exact .inr e
  ·rintro (e | e)
   ·omega
   ·exact .inr e
 have hci:carB {st with Al:=st.Al,Ak:=st.Ak.set n {r with Ae:=(i:Int),A6:=ch}} i=true:=(Q24 hx).2 (.inl rfl);have hback:∀j:Nat,carB {st with Al:=st.Al,Ak:=st.Ak.set n {r with Ae:=(i:Int),A6:=ch}} j=false->carB st j=false:=λj hj=>by
  by_cases e:j=i
  ·subst e;rw [hci] at hj;cases hj
  ·rw [<-hc1 j e];exact hj
 refine⟨h.upd hx hR.cell hR.kind ⟨by simp only;omega,by simp only;omega⟩ hch hR.Ba hR.mute rfl (λ_=>hcell) (λk z hk hz h0=>⟨λe=>?_,rfl⟩) (λj c hj hcj=>h.shel j c hj (hback j hcj)) ?_,Q4T rfl (λj _ hj=>⟨hback j hj,rfl⟩)⟩
 ·have:carB st i=true:=Q5j.2 ⟨k,z,hz,e⟩;rw [this] at hcar;cases hcar
 ·rw [List.nodup_iff_count];intro x;have hA:=Q0x (y:={r with Ae:=(i:Int),A6:=ch}) hx x;have hS:=Q19 (f:=slS st) (f':=slS {st with Al:=st.Al,Ak:=st.Ak.set n {r with Ae:=(i:Int),A6:=ch}}) hi (λj _ hj=>Q96 (hc1 j hj) (λ_=>rfl)) x;have hle:=Q3e h.clash x;have e1:slR r=[low r.A4]:=by unfold slR;rw [gC (by omega)]
  have e2:slR {r with Ae:=(i:Int),A6:=ch}=[low r.A4]++[high r.A4]:=by unfold slR;rw [gF (by simp only;omega)];rfl
  have e3:slS st i=[high r.A4]:=by unfold slS;rw [hcar,hcell];rfl
  have e4:slS {st with Al:=st.Al,Ak:=st.Ak.set n {r with Ae:=(i:Int),A6:=ch}} i=[]:=by unfold slS;rw [hci];rfl
  rw [e1,e2,List.count_append] at hA;rw [e3,e4,List.count_nil] at hS;unfold allS at hle ⊢;simp only [List.count_append] at hle ⊢;omega
theorem Q9d(h:RSt s st)(hf:RF s.A9)(hx:st.Ak[n]?=some r)(hr:0≤r.Ae)(hd:Q5m s st r.Ae r.A4=0){ch:Int}(hch:0≤ch∧ch≤1000000):Kept s st {st with Al:=st.Al,Ak:=st.Ak.set n {r with Ae:=-1,A6:=ch}}:=by
 have hR:=h.rob n r hx;obtain⟨i,hi⟩:=Int.eq_ofNat_of_zero_le hr;have hil:i<st.Al.length:=by have:=hR.load;omega
 have hcell:st.Al.getD i 0=r.A4:=by have:=(hR.own hr).2;rw [hi] at this;exact this
 have hcar:carB st i=true:=Q5j.2 ⟨n,r,hx,hi⟩;unfold Q5m at hd;split at hd
 ·cases hd
 split at hd
 ·cases hd
 rename_i hst;split at hd
 ·cases hd
 split at hd
 ·cases hd
 rename_i hap;have hstB:stB s r.A4=true:=by simpa using hst
 have hc1:∀j:Nat,j≠i->carB {st with Al:=st.Al,Ak:=st.Ak.set n {r with Ae:=-1,A6:=ch}} j=carB st j:=λj hj=>by
  rw [Bool.eq_iff_iff,Q24 hx,Q05 hx];constructor
  ·rintro (e | e)
   ·simp only at e;omega
   ·exact .inr e
  ·rintro (e | e)
   ·omega
   ·exact .inr e
 have hci:carB {st with Al:=st.Al,Ak:=st.Ak.set n {r with Ae:=-1,A6:=ch}} i=false:=by
  cases e:carB {st with Al:=st.Al,Ak:=st.Ak.set n {r with Ae:=-1,A6:=ch}} i with
  | false=>rfl
  | true=>
   rcases (Q24 hx).1 e with e2 | ⟨k,z,hk,hz,hzl⟩
   ·simp only at e2;omega
   ·exact absurd (h.uniq hx hz hr (by omega)) hk
 refine⟨h.upd hx hR.cell hR.kind ⟨by simp,by simp only;omega⟩ hch hR.Ba hR.mute rfl (λh0=>by simp at h0) (λk z hk hz h0=>⟨by simp only;omega,rfl⟩) (λj c hj hcj=>?_) ?_,λhap0=>?_⟩
 ·by_cases e:j=i
  ·subst e;rw [Zd hj] at hcell;rw [hcell];exact kx12 hstB
  ·exact h.shel j c hj (by rw [<-hc1 j e];exact hcj)
 ·rw [List.nodup_iff_count];intro x;have hA:=Q0x (y:={r with Ae:=-1,A6:=ch}) hx x;have hS:=Q19 (f:=slS st) (f':=slS {st with Al:=st.Al,Ak:=st.Ak.set n {r with Ae:=-1,A6:=ch}}) hil (λj _ hj=>Q96 (hc1 j hj) (λ_=>rfl)) x;have hle:=Q3e h.clash x;have e1:slR r=[low r.A4]++[high r.A4]:=by unfold slR;rw [gF hr];rfl
  have e2:slR {r with Ae:=-1,A6:=ch}=[low r.A4]:=by unfold slR;rw [gC (by simp)]
  have e3:slS st i=[]:=by unfold slS;rw [hcar];rfl
  have e4:slS {st with Al:=st.Al,Ak:=st.Ak.set n {r with Ae:=-1,A6:=ch}} i=[high r.A4]:=by
   unfold slS;rw [hci];show [high (st.Al.getD i 0)]=_;rw [hcell]
  rw [e1,e2,List.count_append] at hA;rw [e3,e4,List.count_nil] at hS;unfold allS at hle ⊢;simp only [List.count_append] at hle ⊢;omega
 ·cases e:(ZU s {st with Al:=st.Al,Ak:=st.Ak.set n {r with Ae:=-1,A6:=ch}}).2.2 with
  | false=>rfl
  | true=>
   exfalso;obtain⟨a,b,hab,hb,hbad⟩:=Q13.1 e;have hb':b<st.Al.length:=hb;unfold badP at hbad;simp only [gP,Bool.not_eq_true'] at hbad;obtain⟨⟨⟨h1,h2⟩,h3⟩,h4⟩:=hbad
   -- the shelf that is put down,and another
   have key:∀j:Nat,j<st.Al.length->j≠i->carB st j=false->Q2G s.A9 (st.Al.getD j 0) r.A4=true->nev s (clsS s i) (clsS s j)=true->False:=λj hj hne hcj hn hv=>by
    refine hap (Q23 (i:=j) hj ?_);unfold dAp;rw [hi,hcj,hn,hv];simp;omega
   by_cases ea:a=i
   ·subst ea;have hbi:b≠a:=by omega
    rw [hc1 b hbi] at h4;rw [hcell] at h1;rw [Q8p hf hR.cell (h.cells _ (Q8S hb'))] at h1;exact key b hb' hbi h4 h1 h2
   ·by_cases eb:b=i
    ·subst eb;rw [hc1 a ea] at h3;rw [hcell] at h1;rw [Qa7] at h2;exact key a (by omega) ea h3 h1 h2
    ·rw [hc1 a ea] at h3;rw [hc1 b eb] at h4;have:(ZU s st).2.2=true:=Q13.2 ⟨a,b,hab,hb',by unfold badP;rw [h1,h2,h3,h4];rfl⟩;rw [this] at hap0;cases hap0
theorem Q8s(h:RSt s st)(hx:st.Ak[n]?=some r):st.Al=if 0≤r.Ae then st.Al.set r.Ae.toNat r.A4 else st.Al:=by
 split
 ·rename_i h0;have hR:=h.rob n r hx;have hlt:r.Ae.toNat<st.Al.length:=by have:=hR.load;omega
  have h1:=(hR.own h0).2;have hx2:=gE hlt;rw [Zd hx2] at h1;rw [<-h1];exact (Q7Q hx2).symm
 ·rfl
theorem Q9W{a:Int}(e:a=8)(h:legR s st r a=0):Q5m s st r.Ae r.A4=0:=by
 unfold legR at h;rw [gC (by omega),gC (by omega)] at h;split at h
 ·cases h
 split at h
 ·cases h
 split at h
 ·cases h
 rw [gC (by rw [Yo];omega),gC (by omega)] at h;split at h
 ·cases h
 exact h
theorem QbC(h:RSt s st)(ls:LS s st)(hx:st.Ak[n]?=some r){a:Int}(ha:0≤a∧a<10)(hleg:legR s st r a=0):Kept s st (doR s st n r a):=by
 have hR:=h.rob n r hx;have hch:=QbR (st:=st) (r:=r) hR.charge ha;unfold doR;by_cases hd:r.A8=true
 ·rw [gF hd];exact⟨h,λe=>e⟩
 rw [gC hd];have hd':r.A8=false:=by simpa using hd
 cases hm:mvB a with
 | true=>
  obtain⟨hnx,hrest,hmov⟩:=Qaf hm hd' hleg;have hm':=Yo.1 hm;have hld:lod st r a=r.Ae:=by unfold lod;rw [gC (by omega),gC (by omega)]
  obtain⟨m1,m2,m3,m4,m5⟩:=Q8Y hmov;obtain⟨n1,n2,n3,n4,n5,n6⟩:=Q4d ls.fl hnx;have hsp:=Q3H ls.rs (nx s.A9 r.A4 (a-1)).1;have e1:nwR s st r a={r with A4:=(nx s.A9 r.A4 (a-1)).1,Ae:=r.Ae,A6:=chg st r a,Aj:=spd s (nx s.A9 r.A4 (a-1)).1-1}:=by unfold nwR;rw [hm,hnx,hld];rfl
  have e2:nwS s st r a=if 0≤r.Ae then st.Al.set r.Ae.toNat (nx s.A9 r.A4 (a-1)).1 else st.Al:=by unfold nwS;rw [hm,hnx,hld];simp
  rw [e1];refine Q3Z h ls.fl hx n2 n5 rfl hch ⟨by simp only;omega,by simp only;omega⟩ rfl e2 (.inr λx hxm=>?_);unfold slR at hxm;simp only at hxm;split at hxm
  ·rename_i h0;simp only [List.mem_cons,List.not_mem_nil,or_false] at hxm;rcases hxm with e | e
   ·rw [e];exact m4
   ·rw [e];exact m5 h0
  ·simp only [List.mem_cons,List.not_mem_nil,or_false] at hxm;rw [hxm];exact m4
 | false=>
  have e1:nwR s st r a={r with Ae:=lod st r a,A6:=chg st r a}:=by unfold nwR;rw [hm];rfl
  have e2:nwS s st r a=st.Al:=by unfold nwS;rw [hm];simp
  rw [e1,e2];by_cases h0:a=0
  ·have hld:lod st r a=r.Ae:=by unfold lod;rw [gC (by omega),gC (by omega)]
   rw [hld];exact Q3Z h ls.fl hx hR.cell hR.kind rfl hch hR.Ba rfl (Q8s h hx) (.inl rfl)
  have ha1:1≤a∧a<10:=by omega
  obtain⟨_,h7,h8,h9⟩:=Q8O ha1 hleg;by_cases e7:a=7
  ·have hld:lod st r a=atS st r.A4:=by unfold lod;rw [gF e7]
   rw [hld];exact Q97 h ls.fl hx (h7 e7).1 (h7 e7).2 hch
  by_cases e8:a=8
  ·have hld:lod st r a=-1:=by unfold lod;rw [gC e7,gF e8]
   rw [hld];refine Q9d h ls.fl hx (h8 e8).1 ?_ hch;exact Q9W e8 hleg
  ·have hld:lod st r a=r.Ae:=by unfold lod;rw [gC e7,gC e8]
   rw [hld];exact Q3Z h ls.fl hx hR.cell hR.kind rfl hch hR.Ba rfl (Q8s h hx) (.inl rfl)
end
theorem Q7W{α:Type}{xs:List α}(hm:xs.length≤maxLen){T:Int->(Bool->Prop)->Prop}{F E:Prop}(hT:∀(i:Nat) x,xs[i]?=some x->∀{q:Bool->Prop},q false->T (i:Int) q)(hE:E):
  Jn (λ(J:Unit->Prop)=>Loop (λ(s:Int) Y=>Ite (decide (s<(xs.length:Int))) (T s (λb=>Ite b F (Y (w64 (s+1))))) (J ())) 0) (λ_=>E):=
 Jn.mk (λ_=>E) (Q7r hm (λt=>t) (λ_ _=>True) rfl trivial (λi x t hx ht _=>by rw [ht];exact hT i x hx (Ite.f rfl ⟨rfl,trivial⟩)) (λ_ _=>hE)) (λ_ h=>h)
section
variable {s:Q5} {st:Q7}
theorem WK{x a b:Int}(h:a≤x∧x≤b){post:Bool->Prop}(hp:post true):X3 x a b post:=by
 unfold X3;refine Q0K ?_;rw [decide_eq_true (by omega:x≥a),decide_eq_true h.2];exact hp
theorem Q48{f:Qe}{c:Int}{ks:List Int}(hk:ks.length≤10)(h0:0≤kx f c)(h:kx f c∈ks){post:Bool->Prop}(hp:post true):WN f c ks post:=by
 have hc:isC f c=true:=by
  cases e:isC f c with
  | true=>rfl
  | false=>unfold kx at h0;rw [e] at h0;simp at h0
 have hb:=XO.1 hc;unfold WN;unfold kx at h;rw [gF hc] at h;refine Jn.mk' (Ite.t (by simp;omega) (Ite.t (by simp;omega) ⟨_,Q0l hc,KE (by unfold maxLen;omega) ?_⟩));rw [List.contains_iff_mem.2 h];exact hp
theorem Q5p(h:RSt s st)(hz:Sz st){post:Bool->Prop}(hp:post true):Ye s st post:=by
 unfold Ye;have q1:=hz.rb;have q2:=hz.sh;refine Jn.mk (λ_=>post true) (XE (xs:=st.Ak) (by unfold maxLen;omega) (λt:List (Int×Bool)×Int=>t.2) (λi t=>∀x,0≤x->(lk t.1 x).getD false=true->∃(k:Nat) (z:Q2),k<i∧st.Ak[k]?=some z∧z.Ae=x) rfl (λx _ hx=>by simp [lk] at hx) (λi r t hx ht hI=>?_) (λ_ _=>hp)) (λ_ h=>h);have hR:=h.rob i r hx;have hc:=XO.1 hR.cell;refine Jn.mk (λb=>b=false) (Ite.f (by simp;omega) (Ite.f (by simp;omega) ⟨_,Q0l hR.cell,Ite.f (by simpa using hR.kind) (WK (by rw [K9 (by omega) (by omega)];have:=hR.load;omega) rfl)⟩)) (λb hb=>Ite.f hb ?_);refine Jn.mk (λb=>b=false) (WK hR.charge (Ite.t rfl (WK hR.Ba (Ite.t rfl (WK hR.mute rfl))))) (λb hb=>Ite.f hb ?_);refine Jn.mk (λb=>b=false) (Ite.mk (λh0=>Ite.mk (λh1=>?_) (λh1=>?_)) (λ_=>rfl)) (λb hb=>Ite.f hb ⟨by show w64 (t.2+1)=_;rw [ht],λx h0 hx2=>?_⟩)
 ·exfalso;have h0':0≤r.Ae:=by simpa using h0
  obtain⟨k,z,hk,hz2,e⟩:=hI _ h0' h1;have:=h.uniq hx hz2 h0' e;omega
 ·have h0':0≤r.Ae:=by simpa using h0
  obtain⟨m,hm⟩:=Int.eq_ofNat_of_zero_le h0';have hml:m<st.Al.length:=by have:=hR.load;omega
  have ho:=(hR.own h0').2;have hsx:=gE hml;rw [hm] at ho;have ho2:st.Al.getD m 0=r.A4:=ho;rw [Zd hsx] at ho2;refine⟨_,Qo hm hsx,?_⟩;rw [ho2];simp
 ·have hx3:(lk (upd t.1 r.Ae true) x).getD false=true:=hx2;rw [GR] at hx3;by_cases e:r.Ae=x
  ·exact⟨i,r,by omega,hx,e⟩
  ·rw [gC e] at hx3;obtain⟨k,z,hk,hz2,e2⟩:=hI x h0 hx3;exact⟨k,z,by omega,hz2,e2⟩
theorem Q7t(h:RSt s st)(hz:Sz st){post:Bool->Prop}(hp:post true):Z7 s.A9 st post:=by
 unfold Z7;have q4:=hz.dd;have q5:=hz.sk;refine Q7W (xs:=st.A8) (by unfold maxLen;omega) (T:=λi q=>∃x14,idx st.A8 i=some x14∧Jn (λ(J16:Bool->Prop)=>Ite (decide (x14<0)) (J16 true) (Ite (decide (x14≥(s.A9.Ac.length:Int))) (J16 true) (Ite (decide (i>0)) (∃x20,idx st.A8 (w64 (i-1))=some x20∧J16 (decide (x14≤x20))) (J16 false)))) q) (λi x hx q hq=>⟨x,Qo rfl hx,Jn.mk' ?_⟩) ?_
 ·have hc:=XO.1 (h.dead i x hx);have hil:=(gS.1 hx).1;refine Ite.f (by simp;omega) (Ite.f (by simp;omega) (Ite.mk (λh1=>?_) (λ_=>hq)));cases i with
  | zero=>simp at h1
  | succ j=>
   have hy:=gE (show j<st.A8.length by omega);refine⟨_,Qo (n:=j) (by rw [K9 (by omega) (by omega)];omega) hy,?_⟩;have:=h.deadA j _ x hy hx;rw [decide_eq_false (by omega)];exact hq
 refine Q7W (xs:=st.Aq) (by unfold maxLen;omega) (T:=λi q=>∃x37,idx st.Aq i=some x37∧Jn (λ(J39:Bool->Prop)=>WN s.A9 x37.A4 ([6]:List Int) (λx40=>Ite x40 (X3 x37.Ad 1 20000 (λx42=>Ite x42 (Ite (decide (i>0)) (∃x45,idx st.Aq (w64 (i-1))=some x45∧J39 (decide (x37.A4≤x45.A4))) (J39 false)) (J39 true))) (J39 true))) q) (λi x hx q hq=>⟨x,Qo rfl hx,Jn.mk' ?_⟩) hp;obtain⟨k1,k2,k3⟩:=h.stuck i x hx;have hil:=(gS.1 hx).1;refine Q48 (by decide) (by omega) (by rw [k1];decide) (Ite.t rfl (WK ⟨k2,k3⟩ (Ite.t rfl (Ite.mk (λh1=>?_) (λ_=>hq)))));cases i with
 | zero=>simp at h1
 | succ j=>
  have hy:=gE (show j<st.Aq.length by omega);refine⟨_,Qo (n:=j) (by rw [K9 (by omega) (by omega)];omega) hy,?_⟩;have:=h.stuckA j _ x hy hx;rw [decide_eq_false (by omega)];exact hq
theorem Q6z{l:List Int}(hl:l.length≤10000)(hn:l.Nodup){post:Int×Bool->Prop}(hp:post (0,false)):Gl l post:=by
 unfold Gl X6 QS QO QC;refine⟨by omega,?_⟩;refine Each.inv l (λi t=>t=l.take i) rfl (λi x t hx ht Y hY=>?_) (λt ht=>?_)
 ·have:=(gS.1 hx).1;refine⟨by rw [ht];simp;omega,hY _ ?_⟩;rw [ht,Kt hx]
 rw [List.take_length] at ht;subst ht;unfold Qz;refine⟨by omega,?_⟩;have hperm:=List.mergeSort_perm t (λx y=>decide (x≤y));have hnd:=hperm.nodup_iff.2 hn;have hlen:=hperm.length_eq;generalize t.mergeSort (λx y=>decide (x≤y))=m at *;refine Jn.mk (λ_=>post (0,false)) ?_ (λ_ h=>h);refine Loop.inv (m.length-1) (λi q=>q=(i:Int)+1) rfl (λi q hi hq=>?_) (λq hq=>Ite.f (by subst hq;simp;omega) hp);subst hq;have h1:=gE (show i+1<m.length by omega);have h2:=gE (show i<m.length by omega);refine Ite.lt (by omega) ⟨_,Qo (n:=i+1) (by omega) h1,_,Qo (n:=i) (by rw [K9 (by omega) (by omega)];omega) h2,Ite.f ?_ (by rw [K9 (by omega) (by omega)];simp)⟩;have:=List.pairwise_iff_getElem.1 hnd i (i+1) (by omega) (by omega) (by omega);simpa using λe=>this e.symm
theorem Q6J(h:RSt s st)(hz:Sz st){post:Bool->Prop}(hp:post true):YI s st post:=by
 unfold YI;have q1:=hz.sh;have q3:=hz.pp;refine Jn.mk (λb=>b=false) (WK h.Bh (Ite.t rfl (Ite.f (by simp [h.sl]) (Ite.f (by simp [h.rl]) (Ite.f (by have:=h.pl;simp;omega) (Q5p h hz (Ite.t rfl (Q7t h hz rfl)))))))) (λb hb=>Ite.f hb ?_);refine Q7W (xs:=st.Al) (by unfold maxLen;omega) (T:=λi q=>∃x27,idx st.Al i=some x27∧Jn (λ(J29:Bool->Prop)=>Gr st i (λx30=>Ite (decide (x30<0)) (WN s.A9 x27 ([1,2]:List Int) (λx32=>J29 (!x32))) (J29 false))) q) (λi x hx q hq=>⟨x,Qo rfl hx,Jn.mk' (Q1j hz (Ite.mk (λh1=>?_) (λ_=>hq)))⟩) ?_
 ·have hc:carB st i=false:=by unfold carB;simp at h1 ⊢;omega
  have:=h.shel i x hx hc;refine Q48 (by decide) (by omega) (by rcases this with e | e <;> rw [e] <;> decide) hq
 refine Q7W (xs:=st.Ai) (by unfold maxLen;omega) (T:=λi q=>∃x49,idx st.Ai i=some x49∧WN s.A9 x49 ([4,5]:List Int) (λx52=>q (!x52))) (λi x hx q hq=>⟨x,Qo rfl hx,?_⟩) ?_
 ·have:=h.ppl i x hx;exact Q48 (by decide) (by omega) (by rcases this with e | e <;> rw [e] <;> decide) hq
 exact Q2J hz (Q6z (by have:=Q1b hz;omega) h.clash hp)
end
def stOf(t:Int×List Int×List Q2×List Int×List Int×List Qd×Int):Q7:=⟨t.1,t.2.1,t.2.2.1,t.2.2.2.1,t.2.2.2.2.1,t.2.2.2.2.2.1⟩
def slAt(r:Q2)(c:Int):List Int:=if 0≤r.Ae then [low c,high c] else [low c]
theorem Q7v(r:Q2)(c:Int):(slAt r c).length≤2:=by unfold slAt;split <;> simp
theorem Q8l{r:Q2}{c:Int}{post:List Int->Prop}(hp:post (slAt r c)):YH r c post:=by
 unfold YH Ge Xg;unfold slAt low high at hp;refine Ite.mk (λh=>?_) (λh=>?_) <;> simp at h
 ·rw [gF h] at hp;exact hp
 ·rw [gC (by omega)] at hp;exact hp
def mvS(f:Qe)(st:Q7)(acts:List Int)(i:Nat):List Int:=
 if ((st.Ak.getD i default).A8||!mvB (acts.getD i 0))=true then []
 else if (nx f (st.Ak.getD i default).A4 (acts.getD i 0-1)).2=true then slAt (st.Ak.getD i default) (nx f (st.Ak.getD i default).A4 (acts.getD i 0-1)).1 else []
def movL(f:Qe)(st:Q7)(acts:List Int):List Int:=allS st++(List.range st.Ak.length).flatMap (mvS f st acts)
theorem Q9y(f:Qe)(st:Q7)(acts:List Int)(i:Nat):(mvS f st acts i).length≤2:=by
 unfold mvS;split
 ·simp
 ·split
  ·exact Q7v _ _
  ·simp
section
variable {s:Q5} {st:Q7}
theorem Q7C(hz:Sz st)(f:Qe)(acts:List Int):(movL f st acts).length≤9000:=by
 have h1:=Zn (n:=st.Ak.length) (f:=mvS f st acts) (λi _=>Q9y ..);have h2:=Q1b hz;have:=hz.rb;unfold movL;rw [List.length_append];omega
theorem Q3G{f:Nat->List Int}{i:Nat}:(List.range (i+1)).flatMap f=(List.range i).flatMap f++f i:=by
 rw [List.range_succ,List.flatMap_append];simp
theorem Q5O(hf:RF s.A9)(hz:Sz st){acts:List Int}(hl:acts.length=st.Ak.length){post:List Int->Prop}(hp:∀l,List.Perm l (movL s.A9 st acts)->post l):WE s.A9 st acts post:=by
 unfold WE Qz;have h1:=Q7C hz s.A9 acts;have hrb:=hz.rb;refine Q2J hz (Jn.mk (λl=>l=movL s.A9 st acts) (Q7R st.Ak.length (λt:List Int×Int=>t.2) (λi t=>t.1=allS st++(List.range i).flatMap (mvS s.A9 st acts)) (by unfold maxLen;omega) rfl (by simp) (λi t hi ht hI=>?_) (λt h=>h)) (λl hl=>by subst hl;exact⟨by omega,hp _ (List.mergeSort_perm _ _)⟩));rw [ht];have hx:=gE hi;generalize st.Ak[i]=r at hx;have ha:=gE (show i<acts.length by omega);generalize acts[i]'_=a at ha;have hlen:t.1.length≤10000:=by
  have h3:=Zn (n:=i) (f:=mvS s.A9 st acts) (λi _=>Q9y ..);have:=Q1b hz;rw [hI,List.length_append];omega
 refine Jn.mk (λl=>l=t.1++mvS s.A9 st acts i) ⟨r,Qo rfl hx,?_⟩ (λl hl=>⟨rfl,by show l=_;rw [hl,hI,Q3G,List.append_assoc]⟩);have em:mvS s.A9 st acts i=if (r.A8||!mvB a)=true then [] else if (nx s.A9 r.A4 (a-1)).2=true then slAt r (nx s.A9 r.A4 (a-1)).1 else []:=by
  unfold mvS;rw [Zh hx,Zd ha]
 rw [em];refine Jn.mk (λb=>b=(r.A8||!mvB a)) (Ite.f (by simp;omega) (Ite.mk (λh=>by rw [h];rfl) (λh=>⟨a,Qo rfl ha,?_⟩))) (λb hb=>?_)
 ·rw [h,Bool.false_or];refine Ite.mk (λh2=>?_) (λh2=>?_)
  ·have:mvB a=false:=by have:=@Yo a;simp at h2;cases hm:mvB a <;> simp_all;omega
   rw [this];rfl
  ·simp at h2;by_cases h3:a≥7
   ·have:mvB a=false:=by have:=@Yo a;cases hm:mvB a <;> simp_all;omega
    rw [this];simpa using h3
   ·have:mvB a=true:=Yo.2 (by omega);rw [this];simpa using h3
 ·refine Ite.mk (λh=>?_) (λh=>?_)
  ·rw [gF (by rw [<-hb];exact h)];simp
  ·rw [gC (by rw [<-hb,h];simp)];have hm:mvB a=true:=by rw [h] at hb;simpa using (Bool.or_eq_false_iff.1 hb.symm).2
   have hm':=Yo.1 hm;refine⟨a,Qo rfl ha,?_⟩;rw [K9 (by omega) (by omega)];refine Ww hf (Jn.mk' (Ite.mk (λh2=>?_) (λh2=>?_)))
   ·rw [gF h2];exact Q8l ⟨by have:=Q7v r (nx s.A9 r.A4 (a-1)).1;omega,rfl⟩
   ·rw [gC (by rw [h2];simp)];simp
theorem Q8V{m:List Int}(hs:m.Pairwise (·≤·))(ha:∀(i:Nat) x y,m[i]?=some x->m[i+1]?=some y->x≠y):m.Nodup:=by
 have:m.Pairwise (· < ·):=by
  induction m with
  | nil=>exact .nil
  | cons x m ih=>
   have hs':=List.pairwise_cons.1 hs;have ih':=ih hs'.2 (λi a b h1 h2=>ha (i+1) a b (by simpa using h1) (by simpa using h2));refine List.pairwise_cons.2 ⟨λy hy=>?_,ih'⟩;cases m with
   | nil=>cases hy
   | cons z m=>
    have h0:=ha 0 x z rfl rfl;have h1:=hs'.1 z (by simp);rcases List.mem_cons.1 hy with e | e
    ·subst e;omega
    ·have:=(List.pairwise_cons.1 ih').1 y e;omega
 exact this.imp (λh=>by omega)
theorem Q5d{l:List Int}(hl:l.length≤10000){post:Int×Bool->Prop}(hp:∀n b,(b=true↔¬l.Nodup)->post (n,b)):Gl l post:=by
 unfold Gl X6 QS QO QC;refine⟨by omega,?_⟩;refine Each.inv l (λi t=>t=l.take i) rfl (λi x t hx ht Y hY=>?_) (λt ht=>?_)
 ·have:=(gS.1 hx).1;refine⟨by rw [ht];simp;omega,hY _ ?_⟩;rw [ht,Kt hx]
 rw [List.take_length] at ht;subst ht;unfold Qz;refine⟨by omega,?_⟩;have hperm:=List.mergeSort_perm t (λx y=>decide (x≤y));have hsort:(t.mergeSort λx y=>decide (x≤y)).Pairwise (·≤·):=by
  have:=List.pairwise_mergeSort (le:=λx y:Int=>decide (x≤y)) (λa b c h1 h2=>by simp at *;omega) (λa b=>by simp;omega) t;exact this.imp (λh=>by simpa using h)
 have hlen:=hperm.length_eq;have hnd:=hperm.nodup_iff;generalize t.mergeSort (λx y=>decide (x≤y))=m at *;refine Jn.mk (λ_=>m.Nodup) ?_ (λ_ h=>hp 0 false (by simp [<-hnd,h]));refine Loop.inv (m.length-1) (λi q=>q=(i:Int)+1∧∀(j:Nat) x y,j<i->m[j]?=some x->m[j+1]?=some y->x≠y) ⟨rfl,λj x y h=>by omega⟩ (λi q hi hq=>?_) (λq hq=>Ite.f (by rw [hq.1];simp;omega) (Q8V hsort (λj x y h1 h2=>hq.2 j x y (by have:=(gS.1 h2).1;omega) h1 h2)));obtain⟨hq,hI⟩:=hq;subst hq;have h1:=gE (show i+1<m.length by omega);have h2:=gE (show i<m.length by omega);refine Ite.lt (by omega) ⟨_,Qo (n:=i+1) (by omega) h1,_,Qo (n:=i) (by rw [K9 (by omega) (by omega)];omega) h2,Ite.mk (λh3=>?_) (λh3=>?_)⟩
 ·refine hp _ true ⟨λ_ hn=>?_,λ_=>rfl⟩;have:=List.pairwise_iff_getElem.1 (hnd.2 hn) i (i+1) (by omega) (by omega) (by omega);exact this (by simpa using h3:m[i+1]=m[i]).symm
 ·refine⟨by rw [K9 (by omega) (by omega)];simp,λj x y hj hx hy=>?_⟩;by_cases e:j=i
  ·subst e;rw [h2] at hx;rw [h1] at hy;cases hx;cases hy;intro e;rw [e] at h3;simp at h3
  ·exact hI j x y (by omega) hx hy
def fstB(s:Q5)(st:Q7)(acts:List Int):Nat->Nat->Int
 | 0,_=>0
 | n+1,i=>if legS s st i (acts.getD i 0)=0 then fstB s st acts n (i+1) else legS s st i (acts.getD i 0)
def seqB(s:Q5)(acts:List Int):Nat->Nat->Q7->Int
 | 0,_,_=>0
 | n+1,i,st=>if legS s st i (acts.getD i 0)=0 then seqB s acts n (i+1) (doS s st i (acts.getD i 0)) else legS s st i (acts.getD i 0)
open Classical in
noncomputable def chkS(s:Q5)(st:Q7)(acts:List Int):Int:=
 if st.Ar≥20000 then 28 else if (acts.length:Int)≠st.Ak.length then 1
 else if fstB s st acts acts.length 0≠0 then fstB s st acts acts.length 0
 else if ¬(movL s.A9 st acts).Nodup then 15 else seqB s acts acts.length 0 st
theorem Q9N{s:Q5}{st:Q7}{i a:Int}(h:legS s st i a=0):0≤a∧a<10:=(Q8L h).2
theorem Qbe{s:Q5}{st:Q7}{acts:List Int}(k:KK st)(h:LS s st)(hm:acts.length≤maxLen){post:Int->Prop}
  {L:Q7->Int->Int->(Int->Prop)->Prop} (hL:∀st,KK st->LS s st->∀i a {q:Int->Prop},q (legS s st i a)->L st i a q)
  {D:Q7->Int->Int->(Q7->Prop)->Prop} (hD:∀st,KK st->LS s st->∀i a {q:Q7->Prop},0≤a->a<10->q (doS s st i a)->D st i a q)
  {M:(List Int->Prop)->Prop} (hM:∀{q:List Int->Prop},acts.length=st.Ak.length->(∀l,List.Perm l (movL s.A9 st acts)->q l)->M q)
  {C:List Int->(Int×Bool->Prop)->Prop} (hC:∀l {q:Int×Bool->Prop},l.length≤10000->(∀n b,(b=true↔¬l.Nodup)->q (n,b))->C l q) (hp:post (chkS s st acts)):
  Ite (decide (st.Ar≥20000)) (post 28) (Ite ((acts.length:Int) != (st.Ak.length:Int)) (post 1)
   (Jn (λ(J:Unit->Prop)=>Loop (λ(t:Int) Y=>Ite (decide (t<(acts.length:Int))) (∃x,idx acts t=some x∧L st t x (λy=>Ite (y != 0) (post y) (Y (w64 (t+1))))) (J ())) 0)
    (λ(_:Unit)=>M (λl=>C l (λc=>Ite c.2 (post 15)
     (Jn (λ(J:Unit->Prop)=>Loop (λ(t:Int×List Int×List Q2×List Int×List Int×List Qd×Int) Y=>Ite (decide (t.2.2.2.2.2.2<(acts.length:Int)))
      (∃x,idx acts t.2.2.2.2.2.2=some x∧L (stOf t) t.2.2.2.2.2.2 x (λy=>Ite (y != 0) (post y) (D (stOf t) t.2.2.2.2.2.2 x (λz=>Y (z.Ar,z.Al,z.Ak,z.Ai,z.A8,z.Aq,w64 (t.2.2.2.2.2.2+1)))))) (J ())) (st.Ar,st.Al,st.Ak,st.Ai,st.A8,st.Aq,0)) (λ_=>post 0))))))):=by
 unfold chkS at hp;refine Ite.mk (λh1=>by rw [gF (by simpa using h1)] at hp;exact hp) (λh1=>?_);rw [gC (by simpa using h1)] at hp;refine Ite.mk (λh2=>by rw [gF (by simpa using h2)] at hp;exact hp) (λh2=>?_);rw [gC (by simpa using h2)] at hp;have hl:acts.length=st.Ak.length:=by simp at h2;omega
 refine Jn.mk (λ_=>fstB s st acts acts.length 0=0) (Loop.inv acts.length (λi t=>t=(i:Int)∧fstB s st acts acts.length 0=fstB s st acts (acts.length-i) i) ⟨rfl,rfl⟩ (λi t hi hI=>?_) (λt hI=>?_)) (λ_ h3=>?_)
 ·obtain⟨ht,hI⟩:=hI;have hx:=gE hi;generalize acts[i]=a at hx;have hn:acts.length-i=(acts.length-(i+1))+1:=by omega
  rw [hn,fstB,Zd hx] at hI;subst ht;refine Ite.lt (by omega) ⟨a,Qo rfl hx,hL st k h i a (Ite.mk (λh4=>?_) (λh4=>?_))⟩
  ·have h4':legS s st i a≠0:=by simpa using h4
   rw [gC h4'] at hI;rw [gF (by rw [hI];exact h4'),hI] at hp;exact hp
  ·have h4':legS s st i a=0:=by simpa using h4
   rw [gF h4'] at hI;exact⟨Yy hi hm,hI⟩
 ·obtain⟨ht,hI⟩:=hI;rw [Nat.sub_self,fstB] at hI;exact Ite.nlt (by omega) hI
 ·rw [gC (by simpa using h3)] at hp;refine hM hl (λl hperm=>hC l (by rw [hperm.length_eq];have:=Q7C h.sz s.A9 acts;omega) (λn b hb=>Ite.mk (λh4=>?_) (λh4=>?_)))
  ·rw [gF (by rw [<-hperm.nodup_iff];exact hb.1 h4)] at hp;exact hp
  ·rw [gC (by rw [<-hperm.nodup_iff];intro hn;have:=hb.2 hn;simp only at h4;rw [h4] at this;cases this)] at hp;refine Jn.mk (λ_=>seqB s acts acts.length 0 st=0) (Loop.inv acts.length (λi t=>t.2.2.2.2.2.2=(i:Int)∧KK (stOf t)∧LS s (stOf t)∧seqB s acts acts.length 0 st=seqB s acts (acts.length-i) i (stOf t)) ⟨rfl,k,h,rfl⟩ (λi t hi hI=>?_) (λt hI=>?_)) (λ_ h5=>by rw [h5] at hp;exact hp)
   ·obtain⟨ht,hk,hls,hI⟩:=hI;have hx:=gE hi;generalize acts[i]=a at hx;have hn':acts.length-i=(acts.length-(i+1))+1:=by omega
    rw [hn',seqB,Zd hx] at hI;rw [ht];refine Ite.lt (by omega) ⟨a,Qo rfl hx,hL _ hk hls i a (Ite.mk (λh6=>?_) (λh6=>?_))⟩
    ·have h6':legS s (stOf t) i a≠0:=by simpa using h6
     rw [gC h6'] at hI;rw [hI] at hp;exact hp
    ·have h6':legS s (stOf t) i a=0:=by simpa using h6
     rw [gF h6'] at hI;have ha:=Q9N h6';have hd:=Qcn hk hls (i:Int) a;exact hD _ hk hls i a ha.1 ha.2 ⟨Yy hi hm,hd.2,hd.1,hI⟩
   ·obtain⟨ht,hk,hls,hI⟩:=hI;rw [Nat.sub_self,seqB] at hI;exact Ite.nlt (by omega) hI
theorem Q53(ks:QF s)(k:KK st)(h:LS s st){acts:List Int}(ka:OkL I64 acts){post:Int->Prop}(hp:post (chkS s st acts)):Ym s st acts post:=by
 unfold Ym;exact Qbe k h ka.1 (L:=λst i a q=>GW s st i a q) (λst k h i a q hq=>Q3z ks k h hq) (D:=λst i a q=>Zx s st i a q) (λst k h i a q h0 h9 hq=>Q7V ks k h h0 h9 hq)
  (M:=λq=>WE s.A9 st acts q) (λ{q} hl hq=>Q5O h.fl h.sz hl hq) (C:=λl q=>Gl l q) (λl q hl hq=>Q5d hl hq) hp
end
def k0(f:Qe)(c:Int):Int:=if isC f c=true then kd f c else 0
def Q2C(st:Q7)(i:Int):Bool:=decide (0≤i)&&decide (i<st.Ak.length)&&!(st.Ak.getD i.toNat default).A8
def Q5I(n:Int):Bool:=decide (n≥1)&&decide (n≤20000)
def Q6n(s:Q5)(st:Q7)(a c:Int):Bool:=
 (k0 s.A9 c == 4||k0 s.A9 c == 5)&&(!(allS st).contains (low c)&&!(allS st).contains (high c)) &&
 (if a=st.Ai.length then k0 s.A9 c == 5&&decide (a<20) else decide (0≤a)&&decide (a<st.Ai.length)&&Q2G s.A9 (st.Ai.getD a.toNat 0) c)
def Gv(s:Q5)(st:Q7)(f:Kk):Bool:=
 if f.Ac=0 then true else if f.Ac=1 then Q2C st f.A else if f.Ac=2 then k0 s.A9 f.A != 0&&!st.A8.contains f.A
 else if f.Ac=3 then Q2C st f.A&&Q5I f.N else if f.Ac=4 then k0 s.A9 f.A == 6&&Q5I f.N else if f.Ac=5 then Q6n s st f.A f.N else false
section
variable {s:Q5} {st:Q7}
theorem Q7m{i:Int}{n:Nat}{r:Q2}(hi:i=n)(h:st.Ak[n]?=some r):st.Ak.getD i.toNat default=r:=by subst hi;exact Zh h
theorem Q2V{i:Int}{post:Bool->Prop}(hp:post (Q2C st i)):Y1 st i post:=by
 unfold Y1;refine Jn.mk' (Ite.mk (λh1=>Ite.mk (λh2=>?_) (λh2=>?_)) (λh1=>?_))
 ·have h1':0≤i:=by simpa using h1
  obtain⟨n,hn⟩:=Int.eq_ofNat_of_zero_le h1';have h2':i<(st.Ak.length:Int):=by simpa using h2
  have hx:=gE (show n<st.Ak.length by omega);refine⟨_,Qo hn hx,?_⟩;have:Q2C st i=!(st.Ak[n]).A8:=by unfold Q2C;rw [Q7m hn hx];simp [h1',h2']
  rw [<-this];exact hp
 ·have:Q2C st i=false:=by unfold Q2C;rw [h2];simp
  rw [<-this];exact hp
 ·have:Q2C st i=false:=by unfold Q2C;have:decide (0≤i)=false:=by simpa using h1
                          rw [this];simp
  rw [<-this];exact hp
theorem Qbm{f:Qe}{c:Int}{post:Int->Prop}(hp:post (k0 f c)):
  Jn (λ(J4:Bool->Prop)=>Ite (decide (c<0)) (J4 true) (J4 (decide (c≥(f.Ac.length:Int))))) (λ(x3:Bool)=>Ite x3 (post 0) (∃x11,idx f.Ac c=some x11∧post x11)):=by
 unfold k0 at hp;refine Jn.mk (λb=>b=!isC f c) (Ite.mk (λh=>?_) (λh=>?_)) (λb hb=>Ite.mk (λh=>?_) (λh=>?_))
 ·rw [Q7f.2 (by simp at h;omega)];rfl
 ·cases e:isC f c with
  | true=>have:=XO.1 e;simp;omega
  | false=>have:=Q7f.1 e;simp at h ⊢;omega
 ·rw [h] at hb;have:isC f c=false:=by simpa using hb.symm
  rw [this] at hp;exact hp
 ·rw [h] at hb;have:isC f c=true:=by simpa using hb.symm
  rw [gF this] at hp;exact⟨_,Q0l this,hp⟩
theorem Q0Y{f:Qe}{c:Int}{post:Int->Prop}(hp:post (k0 f c)):Wo f c post:=by unfold Wo;exact Qbm hp
theorem Q5C(hf:RF s.A9)(hz:Sz st){a c:Int}{post:Bool->Prop}(hp:post (Q6n s st a c)):Yn s st a c post:=by
 unfold Yn Ge Xg;unfold Q6n at hp;refine Q0Y (Jn.mk (λb=>b=!(k0 s.A9 c == 4||k0 s.A9 c == 5)) (Ite.mk (λh=>?_) (λh=>?_)) (λb hb=>Ite.mk (λh=>?_) (λh=>?_)))
 ·have:(k0 s.A9 c == 4)=false:=by simpa using h
  rw [this];simp [bne]
 ·have:(k0 s.A9 c == 4)=true:=by simpa using h
  rw [this];rfl
 ·rw [h] at hb;have:(k0 s.A9 c == 4||k0 s.A9 c == 5)=false:=by cases e:(k0 s.A9 c == 4||k0 s.A9 c == 5) with
   | false=>rfl
   | true=>rw [e] at hb;cases hb
  rw [this] at hp;simpa using hp
 ·rw [h] at hb;have:(k0 s.A9 c == 4||k0 s.A9 c == 5)=true:=by cases e:(k0 s.A9 c == 4||k0 s.A9 c == 5) with
   | true=>rfl
   | false=>rw [e] at hb;cases hb
  rw [this,Bool.true_and] at hp;refine Q4K hz (λl hl=>?_);rw [<-Yd hl,<-Yd hl] at hp;have hll:l.length≤maxLen:=by have:=hl.length_eq;have:=Q1b hz;unfold maxLen;omega
  have hany:(l.any λx=>x == low c||x == high c)=!(!l.contains (low c)&&!l.contains (high c)):=by
   cases e1:l.contains (low c) with
   | true=>
    have h1:low c∈l:=by simpa using e1
    show _=true;exact List.any_eq_true.2 ⟨_,h1,by simp⟩
   | false=>
    cases e2:l.contains (high c) with
    | true=>
     have h1:high c∈l:=by simpa using e2
     show _=true;exact List.any_eq_true.2 ⟨_,h1,by simp⟩
    | false=>
     have h1:low c∉l:=by simpa using e1
     have h2:high c∉l:=by simpa using e2
     show _=false;cases e3:(l.any λx=>x == low c||x == high c) with
     | false=>rfl
     | true=>
      obtain⟨x,hx,h⟩:=List.any_eq_true.1 e3;simp at h;rcases h with h | h <;> subst h
      ·exact absurd hx h1
      ·exact absurd hx h2
  refine Jn.mk (λ_=>(l.any λx=>x == low c||x == high c)=false) (XE (xs:=l) hll (λt:Int=>t) (λi _=>∀x,x∈l.take i->(x == low c||x == high c)=false) rfl (λx hx=>by simp at hx) (λi x t hx ht hI=>?_) (λt hI=>?_)) (λ_ hn=>?_)
  ·refine Jn.mk (λb=>b=(x == low c||x == high c)) (Ite.mk (λh1=>?_) (λh1=>?_)) (λb hb=>Ite.mk (λh2=>?_) (λh2=>⟨by rw [ht],λy hy=>?_⟩))
   ·have:(x == low c)=true:=h1;rw [this];rfl
   ·have:(x == low c)=false:=h1;rw [this];rfl
   ·have:(l.any λx=>x == low c||x == high c)=true:=List.any_eq_true.2 ⟨x,gM hx,by rw [<-hb];exact h2⟩;rw [hany] at this;have:(!l.contains (low c)&&!l.contains (high c))=false:=by
     cases e:(!l.contains (low c)&&!l.contains (high c)) with
     | false=>rfl
     | true=>rw [e] at this;cases this
    rw [this] at hp;exact hp
   ·rw [Kt hx] at hy;rcases List.mem_append.1 hy with h | h
    ·exact hI y h
    ·simp at h;subst h;rw [<-hb];exact h2
  ·rw [List.take_length] at hI;cases e:(l.any λx=>x == low c||x == high c) with
   | false=>rfl
   | true=>obtain⟨x,hx,h⟩:=List.any_eq_true.1 e;rw [hI x hx] at h;cases h
  ·rw [hany] at hn;have:(!l.contains (low c)&&!l.contains (high c))=true:=by
    cases e:(!l.contains (low c)&&!l.contains (high c)) with
    | true=>rfl
    | false=>rw [e] at hn;cases hn
   rw [this,Bool.true_and] at hp;refine Ite.mk (λh1=>?_) (λh1=>?_)
   ·rw [gF (by simpa using h1)] at hp;exact Q0K hp
   ·rw [gC (by simpa using h1)] at hp;refine Jn.mk' (Ite.mk (λh2=>Ite.mk (λh3=>?_) (λh3=>?_)) (λh2=>?_))
    ·have h2':0≤a:=by simpa using h2
     obtain⟨n,hn⟩:=Int.eq_ofNat_of_zero_le h2';have h3':a<(st.Ai.length:Int):=by simpa using h3
     have hx:=gE (show n<st.Ai.length by omega);have e:∀y,st.Ai[n]?=some y->st.Ai.getD a.toNat 0=y:=λy hy=>by rw [hn];exact Zd hy
     rw [e _ hx] at hp;refine⟨_,Qo hn hx,Q2U hf ?_⟩;rw [decide_eq_true h2',decide_eq_true h3'] at hp;exact hp
    ·rw [h3] at hp;simpa using hp
    ·have:decide (0≤a)=false:=by simpa using h2
     rw [this] at hp;simpa using hp
theorem Q8K{f:Kk}(h:f.Ac=0):Gv s st f=true:=by unfold Gv;rw [gF h]
theorem Q7s{f:Kk}(h:f.Ac=1):Gv s st f=Q2C st f.A:=by unfold Gv;rw [gC (by omega),gF h]
theorem Q9s{f:Kk}(h:f.Ac=2):Gv s st f=(k0 s.A9 f.A != 0&&!st.A8.contains f.A):=by unfold Gv;rw [gC (by omega),gC (by omega),gF h]
theorem Q6M{f:Kk}(h:f.Ac=3):Gv s st f=(Q2C st f.A&&Q5I f.N):=by unfold Gv;rw [gC (by omega),gC (by omega),gC (by omega),gF h]
theorem Q8U{f:Kk}(h:f.Ac=4):Gv s st f=(k0 s.A9 f.A == 6&&Q5I f.N):=by unfold Gv;rw [gC (by omega),gC (by omega),gC (by omega),gC (by omega),gF h]
theorem Q7e{f:Kk}(h:f.Ac=5):Gv s st f=Q6n s st f.A f.N:=by unfold Gv;rw [gC (by omega),gC (by omega),gC (by omega),gC (by omega),gC (by omega),gF h]
theorem Q54{f:Kk}(h0:f.Ac≠0)(h1:f.Ac≠1)(h2:f.Ac≠2)(h3:f.Ac≠3)(h4:f.Ac≠4)(h5:f.Ac≠5):Gv s st f=false:=by
 unfold Gv;rw [gC h0,gC h1,gC h2,gC h3,gC h4,gC h5]
def Q6u(s:Q5)(st:Q7)(f:Kk):Int:=if Gv s st f=true then 0 else 26
theorem Q0o(hf:RF s.A9)(hz:Sz st){f:Kk}{post:Int->Prop}(hp:post (Q6u s st f)):Gd s st f post:=by
 unfold Gd;refine Jn.mk (λb=>b=Q5I f.N) (Ite.mk (λh=>?_) (λh=>?_)) (λlg hlg=>?_)
 ·unfold Q5I;rw [h];rfl
 ·unfold Q5I;rw [h];rfl
 refine Jn.mk (λb=>b=Gv s st f) ?_ (λb hb=>?_)
 rotate_left
 ·unfold Q6u at hp;refine Ite.mk (λh=>?_) (λh=>?_)
  ·have:b=false:=by simpa using h
   rw [this] at hb;rw [<-hb,gC (by simp)] at hp;exact hp
  ·have:b=true:=by simpa using h
   rw [this] at hb;rw [<-hb,gF rfl] at hp;exact hp
 refine Ite.mk (λh=>(Q8K (by simpa using h)).symm) (λh0=>Jn.mk' (Ite.mk (λh=>?_) (λh1=>Jn.mk' (Ite.mk (λh=>?_) (λh2=>Jn.mk' (Ite.mk (λh=>?_) (λh3=>Jn.mk' (Ite.mk (λh=>?_) (λh4=>Jn.mk' (Ite.mk (λh=>?_) (λh5=>?_)))))))))))
 ·exact Q2V (Q7s (by simpa using h)).symm
 ·have e:=Q9s (s:=s) (st:=st) (f:=f) (by simpa using h);refine Jn.mk' (Q0Y (Ite.mk (λh=>KE (by have:=hz.dd;unfold maxLen;omega) ?_) (λh=>?_)))
  ·show _=Gv s st f;rw [e,h];rfl
  ·show _=Gv s st f;rw [e,h];rfl
 ·have e:=Q6M (s:=s) (st:=st) (f:=f) (by simpa using h);refine Jn.mk' (Q2V (Ite.mk (λh=>?_) (λh=>?_)))
  ·show _=Gv s st f;rw [e,h,hlg];rfl
  ·show _=Gv s st f;rw [e,h];rfl
 ·have e:=Q8U (s:=s) (st:=st) (f:=f) (by simpa using h);refine Jn.mk' (Q0Y (Ite.mk (λh=>?_) (λh=>?_)))
  ·show _=Gv s st f;rw [e,h,hlg];rfl
  ·show _=Gv s st f;rw [e,h];rfl
 ·exact Q5C hf hz (Q7e (by simpa using h)).symm
 ·exact (Q54 (by simpa using h0) (by simpa using h1) (by simpa using h2) (by simpa using h3) (by simpa using h4) (by simpa using h5)).symm
def srtI(l:List Int):List Int:=l.mergeSort λx y=>decide (x≤y)
theorem Q62(l:List Int):List.Perm (srtI l) l:=List.mergeSort_perm _ _
theorem Qbp(l:List Int):(srtI l).Pairwise (·≤·):=by
 have:=List.pairwise_mergeSort (le:=λx y:Int=>decide (x≤y)) (λa b c h1 h2=>by simp at *;omega) (λa b=>by simp;omega) l;exact this.imp (λh=>by simpa using h)
def Gu(c n:Int):List Qd->List Qd
 | []=>[⟨c,n⟩]
 | x :: r=>if x.A4<c then x :: Gu c n r else if x.A4=c then ⟨c,imax x.Ad n⟩ :: r else ⟨c,n⟩ :: x :: r
theorem Q2j{c n:Int}:∀{p:List Qd} (q:List Qd),(∀x,x∈p->x.A4<c)->Gu c n (p++q)=p++Gu c n q
 | [],_,_=>rfl
 | x :: p,q,h=>by
  show Gu c n (x :: (p++q))=_;rw [Gu,gF (h x (by simp)),Q2j q (λy hy=>h y (by simp [hy]))];rfl
theorem Q4U(c n:Int):∀l:List Qd,l.length≤(Gu c n l).length∧(Gu c n l).length≤l.length+1
 | []=>by simp [Gu]
 | x :: r=>by
  have:=Q4U c n r;unfold Gu;split
  ·simp;omega
  ·split <;> simp
theorem Q5Q{c n:Int}{l:List Qd}(hl:l.length≤1000){post:List Qd->Prop}(hp:post (Gu c n l)):GA c n l post:=by
 unfold GA QP;refine Z5 (xs:=l) (by unfold maxLen;omega) (λx:Qd=>decide (x.A4≥c)) (T:=λx q=>Wt x c q) (λx _ q hq=>by unfold Wt;exact hq) (post:=λm=>Ite (decide (m<0)) _ _) ?_;rcases Wb (λx:Qd=>decide (x.A4≥c)) l with ⟨i,x,hx,e,hpx,hb⟩ | ⟨e,hb⟩
 ·rw [e];have hlt:=(gS.1 hx).1;have hsplit:l=l.take i++x :: l.drop (i+1):=by
   have h1:=(gS.1 hx).2
   conv=>lhs;rw [<-List.take_append_drop i l]
   rw [List.drop_eq_getElem_cons hlt,h1]
  have hlow:∀y,y∈l.take i->y.A4<c:=λy hy=>by
   obtain⟨j,hj⟩:=gO hy;have hjl:=(gS.1 hj).1;rw [List.length_take] at hjl;rw [List.getElem?_take,gF (by omega)] at hj;have:=hb j y (by omega) hj;simpa using this
  have hpx':c≤x.A4:=by simpa using hpx
  have est:Gu c n l=l.take i++Gu c n (x :: l.drop (i+1)):=by
   conv=>lhs;rw [hsplit]
   exact Q2j _ hlow
  refine Ite.f (decide_eq_false (by omega)) ⟨x,Qo rfl hx,Ite.mk (λh=>?_) (λh=>?_)⟩
  ·have hc:x.A4=c:=by simpa using h
   have:l.set (Int.toNat (i:Int)) ⟨x.A4,imax x.Ad n⟩=Gu c n l:=by
    rw [est,Gu,gC (by omega),gF hc];show l.set i _=_
    conv=>lhs;rw [hsplit]
    have hti:(l.take i).length=i:=by rw [List.length_take];omega
    rw [List.set_append,gC (by omega),hti,Nat.sub_self,List.set_cons_zero,hc]
   rw [this];exact hp
  ·have hc:x.A4≠c:=by simpa using h
   unfold Kg;refine⟨by omega,by simp,by rw [List.length_singleton];omega,?_⟩;have:l.take (Int.toNat (i:Int))++([⟨c,n⟩]++l.drop (Int.toNat (i:Int)))=Gu c n l:=by
    rw [est,Gu,gC (by omega),gC hc];show l.take i++([_]++l.drop i)=_;rw [List.drop_eq_getElem_cons hlt,(gS.1 hx).2];rfl
   rw [this];exact hp
 ·rw [e];refine Ite.t (by decide) ⟨by simp;omega,?_⟩;have:Gu c n l=l++Gu c n []:=by
   have:=Q2j (n:=n) (p:=l) [] (λx hx=>by simpa using hb x hx);simpa using this
  rw [this] at hp;exact hp
end
def setR(st:Q7)(i:Int)(r:Q2):Q7:={st with Ak:=st.Ak.set i.toNat r}
def rAt(st:Q7)(i:Int):Q2:=st.Ak.getD i.toNat default
def Yu(s:Q5)(st:Q7)(f:Kk):Q7:=
 if Gv s st f=false then st
 else if f.Ac=1 then setR st f.A {rAt st f.A with A8:=true}
 else if f.Ac=2 then {st with A8:=srtI (st.A8++[f.A])}
 else if f.Ac=3 then setR st f.A {rAt st f.A with Af:=f.N}
 else if f.Ac=4 then {st with Aq:=Gu f.A f.N st.Aq}
 else if f.Ac=5 then {st with Ai:=if f.A=st.Ai.length then st.Ai++[f.N] else st.Ai.set f.A.toNat f.N}
 else st
theorem Qc5{α:Type}{l:List α}{g:α->Int}(h:∀(i:Nat) x y,l[i]?=some x->l[i+1]?=some y->g x<g y):∀(i j:Nat) x y,i<j->l[i]?=some x->l[j]?=some y->g x<g y:=by
 intro i j;induction j with
 | zero=>intro x y h0;omega
 | succ j ih=>
  intro x y hij hx hy;by_cases e:i=j
  ·subst e;exact h i x y hx hy
  ·have hjl:=(gS.1 hy).1;have hz:=gE (show j<l.length by omega);have h1:=ih x _ (by omega) hx hz;have h2:=h j _ y hz hy;omega
section
variable {s:Q5} {st:Q7}
theorem Q6Z{f:Kk}(h:Gv s st f=false):Yu s st f=st:=by unfold Yu;rw [gF h]
theorem Q9e{f:Kk}(h:f.Ac=0):Yu s st f=st:=by unfold Yu;rw [gC (by rw [Q8K h];simp),gC (by omega),gC (by omega),gC (by omega),gC (by omega),gC (by omega)]
theorem Q90{f:Kk}(hb:Gv s st f=true)(h:f.Ac=1):Yu s st f=setR st f.A {rAt st f.A with A8:=true}:=by unfold Yu;rw [gC (by rw [hb];simp),gF h]
theorem Q8I{f:Kk}(hb:Gv s st f=true)(h:f.Ac=2):Yu s st f={st with A8:=srtI (st.A8++[f.A])}:=by unfold Yu;rw [gC (by rw [hb];simp),gC (by omega),gF h]
theorem Q8N{f:Kk}(hb:Gv s st f=true)(h:f.Ac=3):Yu s st f=setR st f.A {rAt st f.A with Af:=f.N}:=by unfold Yu;rw [gC (by rw [hb];simp),gC (by omega),gC (by omega),gF h]
theorem Q9q{f:Kk}(hb:Gv s st f=true)(h:f.Ac=4):Yu s st f={st with Aq:=Gu f.A f.N st.Aq}:=by unfold Yu;rw [gC (by rw [hb];simp),gC (by omega),gC (by omega),gC (by omega),gF h]
theorem Q7F{f:Kk}(hb:Gv s st f=true)(h:f.Ac=5):Yu s st f={st with Ai:=if f.A=st.Ai.length then st.Ai++[f.N] else st.Ai.set f.A.toNat f.N}:=by unfold Yu;rw [gC (by rw [hb];simp),gC (by omega),gC (by omega),gC (by omega),gC (by omega),gF h]
theorem Q25{i:Int}(h:Q2C st i=true):∃(n:Nat) (r:Q2),i=n∧st.Ak[n]?=some r∧r.A8=false∧rAt st i=r:=by
 unfold Q2C at h;simp only [gP,decide_eq_true_eq] at h;obtain⟨⟨h1,h2⟩,h3⟩:=h;obtain⟨n,hn⟩:=Int.eq_ofNat_of_zero_le h1;have hx:=gE (show n<st.Ak.length by omega);rw [Q7m hn hx] at h3;exact⟨n,_,hn,hx,by simpa using h3,Q7m hn hx⟩
theorem Q9O{a c:Int}(h:Q6n s st a c=true):a=st.Ai.length∨∃n:Nat,a=n∧n<st.Ai.length:=by
 unfold Q6n at h;simp only [gP] at h;by_cases e:a=st.Ai.length
 ·exact .inl e
 ·rw [gC e] at h;simp only [gP,decide_eq_true_eq] at h;obtain⟨n,hn⟩:=Int.eq_ofNat_of_zero_le h.2.1.1;exact .inr ⟨n,hn,by omega⟩
theorem Q21{f:Kk}:Q6u s st f=0↔Gv s st f=true:=by
 unfold Q6u;cases Gv s st f <;> simp
def st4(st:Q7)(t:List Q2×List Int×List Int×List Qd):Q7:={st with Ak:=t.1,Ai:=t.2.1,A8:=t.2.2.1,Aq:=t.2.2.2}
theorem Q4v(hf:RF s.A9)(hz:Sz st){f:Kk}{post:Q7->Prop}(hp:post (Yu s st f)):WM s st f post:=by
 unfold WM;refine Q0P hz (Q0o hf hz (Ite.mk (λh=>?_) (λh=>?_)))
 ·have:Gv s st f=false:=by
   have h1:Q6u s st f≠0:=by simpa using h
   cases e:Gv s st f with
   | false=>rfl
   | true=>exact absurd (Q21.2 e) h1
  rw [Q6Z this] at hp;exact hp
 have hb:Gv s st f=true:=Q21.1 (by simpa using h);have q3:=hz.pp;have q4:=hz.dd;have q5:=hz.sk;refine Jn.mk (λt=>st4 st t=Yu s st f) ?_ (λt ht=>by rw [<-ht] at hp;exact hp);refine Ite.mk (λh1=>?_) (λh1=>Jn.mk' (Ite.mk (λh2=>?_) (λh2=>Jn.mk' (Ite.mk (λh3=>?_) (λh3=>Jn.mk' (Ite.mk (λh4=>?_) (λh4=>Jn.mk' (Ite.mk (λh5=>?_) (λh5=>?_)))))))))
 ·have e:f.Ac=1:=by simpa using h1
  have hl:=hb;rw [Q7s e] at hl;obtain⟨n,r,hn,hx,_,hr⟩:=Q25 hl;refine⟨r,Qo hn hx,?_⟩;rw [Q90 hb e,hr];rfl
 ·have e:f.Ac=2:=by simpa using h2
  unfold Qz;refine⟨by simp;omega,by simp;omega,?_⟩;show st4 st _=_;rw [Q8I hb e];rfl
 ·have e:f.Ac=3:=by simpa using h3
  have hl:=hb;rw [Q6M e,gP] at hl;obtain⟨n,r,hn,hx,_,hr⟩:=Q25 hl.1;refine⟨r,Qo hn hx,?_⟩;show st4 st _=_;rw [Q8N hb e,hr];rfl
 ·have e:f.Ac=4:=by simpa using h4
  refine Q5Q q5 ?_;show st4 st _=_;rw [Q9q hb e];rfl
 ·have e:f.Ac=5:=by simpa using h5
  have hl:=hb;rw [Q7e e] at hl;refine Jn.mk (λl=>l=if f.A=st.Ai.length then st.Ai++[f.N] else st.Ai) (Ite.mk (λh6=>⟨by simp;omega,by rw [gF (by simpa using h6)]⟩) (λh6=>by rw [gC (by simpa using h6)])) (λl hl2=>?_);rcases Q9O hl with hA | ⟨n,hA,hn⟩
  ·rw [gF hA] at hl2;refine⟨f.N,?_,?_⟩
   ·rw [hl2];exact Qo hA (by simp)
   ·show st4 st _=_;rw [Q7F hb e,gF hA,hl2,hA];show st4 st (st.Ak,(st.Ai++[f.N]).set st.Ai.length f.N,st.A8,st.Aq)=_;rw [QaS];rfl
  ·rw [gC (by omega)] at hl2;subst hl2;refine⟨_,Qo hA (gE hn),?_⟩;show st4 st _=_;rw [Q7F hb e,gC (by omega)];rfl
 ·show st4 st _=_;by_cases e:f.Ac=0
  ·rw [Q9e e];rfl
  ·have:=Q54 (s:=s) (st:=st) e (by simpa using h1) (by simpa using h2) (by simpa using h3) (by simpa using h4) (by simpa using h5);rw [this] at hb;cases hb
end
def CL(r:Q2):Int×Int:=(r.A4,r.Ae)
theorem Qa0{α β:Type}(p:β->Bool)(g:α->β)(xs:List α):fidx p (xs.map g)=fidx (λx=>p (g x)) xs:=by
 unfold fidx;rw [List.findIdx?_map];rfl
section
variable {s:Q5} {st st':Q7}
theorem QaH(hcl:st'.Ak.map CL=st.Ak.map CL){i:Nat}{r':Q2}(h:st'.Ak[i]?=some r'):∃r,st.Ak[i]?=some r∧r'.A4=r.A4∧r'.Ae=r.Ae:=by
 have h1:(st'.Ak.map CL)[i]?=some (CL r'):=by rw [gK,h];rfl
 rw [hcl,gK] at h1;cases e:st.Ak[i]? with
 | none=>rw [e] at h1;cases h1
 | some r=>
  rw [e] at h1;have:=Option.some.inj h1;unfold CL at this;injection this with a b
  exact⟨r,rfl,a.symm,b.symm⟩
theorem Q8t(hcl:st'.Ak.map CL=st.Ak.map CL):st'.Ak.length=st.Ak.length:=by
 have:=congrArg List.length hcl;simpa using this
theorem Q9E(hcl:st'.Ak.map CL=st.Ak.map CL)(a:Int):carr st' a=carr st a:=by
 have h1:∀t:Q7,fidx (λz:Q2=>z.Ae == a) t.Ak=fidx (λq:Int×Int=>q.2 == a) (t.Ak.map CL):=λt=>by rw [Qa0];rfl
 unfold carr;rw [h1,h1,hcl]
theorem Q9m(hcl:st'.Ak.map CL=st.Ak.map CL)(i:Nat):carB st' i=carB st i:=by unfold carB;rw [Q9E hcl]
theorem Qcs(hcl:st'.Ak.map CL=st.Ak.map CL)(i:Nat):slR (st'.Ak.getD i default)=slR (st.Ak.getD i default):=by
 have hl:=Q8t hcl;cases e:st'.Ak[i]? with
 | none=>
  have:st.Ak[i]?=none:=by rw [List.getElem?_eq_none_iff] at e ⊢;omega
  rw [gD,gD,e,this]
 | some r'=>
  obtain⟨r,hr,h1,h2⟩:=QaH hcl e;rw [Zh e,Zh hr];unfold slR;rw [h1,h2]
theorem Qb2(hcl:st'.Ak.map CL=st.Ak.map CL)(hsh:st'.Al=st.Al)(hpp:st'.Ai=st.Ai):allS st'=allS st:=by
 unfold allS;rw [Q8t hcl,hsh,hpp];congr 1;congr 1
 ·exact Q1Q λj _=>Qcs hcl j
 ·exact Q1Q λj _=>by unfold slS;rw [Q9m hcl,hsh]
theorem Q1T(h:RSt s st)(hcl:st'.Ak.map CL=st.Ak.map CL)(hsh:st'.Al=st.Al)(hpp:st'.Ai=st.Ai)(ht:0≤st'.Ar∧st'.Ar≤20000)
  (hr:∀(i:Nat) r,st'.Ak[i]?=some r->(0≤r.A6∧r.A6≤1000000)∧(0≤r.Aj∧r.Aj≤20000)∧(0≤r.Af∧r.Af≤20000))
  (hd:∀(i:Nat) c,st'.A8[i]?=some c->isC s.A9 c=true) (hdA:∀(i:Nat) x y,st'.A8[i]?=some x->st'.A8[i+1]?=some y->x<y)
  (hk:∀(i:Nat) x,st'.Aq[i]?=some x->kx s.A9 x.A4=6∧1≤x.Ad∧x.Ad≤20000) (hkA:∀(i:Nat) x y,st'.Aq[i]?=some x->st'.Aq[i+1]?=some y->x.A4<y.A4):RSt s st' where
 Bh:=ht
 sl:=by rw [hsh];exact h.sl
 rl:=by rw [Q8t hcl];exact h.rl
 pl:=by rw [hpp];exact h.pl
 rob:=λi r' hi=>by
  obtain⟨r,hr2,h1,h2⟩:=QaH hcl hi;have hR:=h.rob i r hr2;obtain⟨b1,b2,b3⟩:=hr i r' hi;exact⟨by rw [h1];exact hR.cell,by rw [h1];exact hR.kind,by rw [h2,hsh];exact hR.load,b1,b2,b3,λh0=>by rw [h2,Q9E hcl,hsh,h1];exact hR.own (by rw [<-h2];exact h0)⟩
 shel:=λi c hi hc=>by rw [hsh] at hi;rw [Q9m hcl] at hc;exact h.shel i c hi hc
 ppl:=λi c hi=>by rw [hpp] at hi;exact h.ppl i c hi
 dead:=hd
 deadA:=hdA
 stuck:=hk
 stuckA:=hkA
 clash:=by rw [Qb2 hcl hsh hpp];exact h.clash
theorem Q4C{n:Nat}{r y:Q2}(hx:st.Ak[n]?=some r)(hc:y.A4=r.A4)(hl:y.Ae=r.Ae):(st.Ak.set n y).map CL=st.Ak.map CL:=by
 rw [List.map_set];have:CL y=CL r:=by unfold CL;rw [hc,hl]
 rw [this];exact Q7Q (by rw [gK,hx];rfl)
theorem Q9c{n:Nat}{r y:Q2}(h:RSt s st)(hx:st.Ak[n]?=some r)(hy:(0≤y.A6∧y.A6≤1000000)∧(0≤y.Aj∧y.Aj≤20000)∧(0≤y.Af∧y.Af≤20000)):
  ∀(i:Nat) z,(st.Ak.set n y)[i]?=some z->(0≤z.A6∧z.A6≤1000000)∧(0≤z.Aj∧z.Aj≤20000)∧(0≤z.Af∧z.Af≤20000):=λi z hz=>by
 rcases Q1D hz with ⟨_,_,e⟩ | ⟨_,e⟩
 ·subst e;exact hy
 ·have:=h.rob i z e;exact⟨this.charge,this.Ba,this.mute⟩
theorem Qai{f:Qe}{c:Int}{n:Int}(hn:n≠0)(h:k0 f c=n):isC f c=true∧kx f c=n:=by
 unfold k0 at h;cases e:isC f c with
 | true=>rw [gF e] at h;unfold kx;rw [gF e];exact⟨rfl,h⟩
 | false=>rw [e] at h;simp at h;omega
theorem Q4W{c n:Int}{l:List Qd}{x:Qd}(h:x∈Gu c n l):x∈l∨x.A4=c∧(x.Ad=n∨∃y,y∈l∧x.Ad=imax y.Ad n):=by
 induction l with
 | nil=>simp [Gu] at h;subst h;exact .inr ⟨rfl,.inl rfl⟩
 | cons y r ih=>
  unfold Gu at h;split at h
  ·rcases List.mem_cons.1 h with e | e
   ·subst e;exact .inl (by simp)
   ·rcases ih e with h1 | ⟨h1,h2⟩
    ·exact .inl (by simp [h1])
    ·refine .inr ⟨h1,?_⟩;rcases h2 with h2 | ⟨z,hz,h2⟩
     ·exact .inl h2
     ·exact .inr ⟨z,by simp [hz],h2⟩
  ·split at h
   ·rcases List.mem_cons.1 h with e | e
    ·subst e;exact .inr ⟨rfl,.inr ⟨y,by simp,rfl⟩⟩
    ·exact .inl (by simp [e])
   ·rcases List.mem_cons.1 h with e | e
    ·subst e;exact .inr ⟨rfl,.inl rfl⟩
    ·exact .inl e
theorem Q99{c n:Int}{l:List Qd}(h:l.Pairwise (λx y=>x.A4<y.A4)):(Gu c n l).Pairwise (λx y=>x.A4<y.A4):=by
 induction l with
 | nil=>simp [Gu]
 | cons y r ih=>
  have h':=List.pairwise_cons.1 h;unfold Gu;split
  ·rename_i hc;refine List.pairwise_cons.2 ⟨λz hz=>?_,ih h'.2⟩;rcases Q4W hz with e | ⟨e,_⟩
   ·exact h'.1 z e
   ·omega
  ·split
   ·rename_i hc;exact List.pairwise_cons.2 ⟨λz hz=>by have:=h'.1 z hz;show c<_;omega,h'.2⟩
   ·refine List.pairwise_cons.2 ⟨λz hz=>?_,h⟩;show c<_;rcases List.mem_cons.1 hz with e | e
    ·subst e;omega
    ·have:=h'.1 z e;omega
theorem Q3A{α:Type}{l:List α}{g:α->Int}(h:∀(i:Nat) x y,l[i]?=some x->l[i+1]?=some y->g x<g y):l.Pairwise (λx y=>g x<g y):=
 List.pairwise_iff_getElem.2 λi j hi hj hij=>Qc5 h i j _ _ hij (gE hi) (gE hj)
theorem Q3B{α:Type}{l:List α}{g:α->Int}(h:l.Pairwise (λx y=>g x<g y))(i:Nat)(x y:α)(hx:l[i]?=some x)(hy:l[i+1]?=some y):g x<g y:=by
 obtain⟨h1,e1⟩:=gS.1 hx;obtain⟨h2,e2⟩:=gS.1 hy;have:=List.pairwise_iff_getElem.1 h i (i+1) h1 h2 (by omega);rw [e1,e2] at this;exact this
theorem QaV(h:RF s.A9){a c:Int}(hb:Q6n s st a c=true):isC s.A9 c=true∧(kx s.A9 c=4∨kx s.A9 c=5)∧low c∉allS st∧high c∉allS st∧(a=st.Ai.length->a<20):=by
 unfold Q6n at hb;simp only [gP,Bool.or_eq_true,beq_iff_eq,Bool.not_eq_true'] at hb;obtain⟨⟨h1,h2,h3⟩,h4⟩:=hb;have hk:isC s.A9 c=true∧(kx s.A9 c=4∨kx s.A9 c=5):=by
  rcases h1 with h1 | h1
  ·have:=Qai (by decide) h1;exact⟨this.1,.inl this.2⟩
  ·have:=Qai (by decide) h1;exact⟨this.1,.inr this.2⟩
 refine⟨hk.1,hk.2,by simpa using h2,by simpa using h3,λe=>?_⟩;rw [gF e] at h4;simp at h4;exact h4.2
theorem Q4R(h:RSt s st)(hf:RF s.A9){pp:List Int}{c:Int}(hc:isC s.A9 c=true)(hk:kx s.A9 c=4∨kx s.A9 c=5)(h1:low c∉allS st)(h2:high c∉allS st)(hl:pp.length≤20)
  (hpp:pp=st.Ai++[c]∨∃n:Nat,n<st.Ai.length∧pp=st.Ai.set n c):RSt s {st with Ai:=pp} where
 Bh:=h.Bh
 sl:=h.sl
 rl:=h.rl
 pl:=hl
 rob:=λi r hi=>let R:=h.rob i r hi;⟨R.cell,R.kind,R.load,R.charge,R.Ba,R.mute,R.own⟩
 shel:=λi x hi hx=>h.shel i x hi hx
 ppl:=λi x hi=>by
  rcases hpp with e | ⟨n,hn,e⟩
  ·have hi':(st.Ai++[c])[i]?=some x:=by rw [<-e];exact hi
   rcases List.mem_append.1 (gM hi') with hm | hm
   ·obtain⟨j,hj⟩:=gO hm;exact h.ppl j x hj
   ·simp at hm;subst hm;exact hk
  ·have hi':(st.Ai.set n c)[i]?=some x:=by rw [<-e];exact hi
   rcases Q1D hi' with ⟨_,_,e2⟩ | ⟨_,e2⟩
   ·subst e2;exact hk
   ·exact h.ppl i x e2
 dead:=h.dead
 deadA:=h.deadA
 stuck:=h.stuck
 stuckA:=h.stuckA
 clash:=by
  have hlh:=Q7Z hf hc;have hne:low c≠high c:=by omega
  have hcl:=h.clash;rcases hpp with e | ⟨n,hn,e⟩
  ·have:allS {st with Ai:=pp}=allS st++slP c:=by
    unfold allS;show _++(List.range pp.length).flatMap (λi=>slP (pp.getD i 0))=_;rw [e,List.length_append,List.length_singleton,Q3G];have e1:(List.range st.Ai.length).flatMap (λi=>slP ((st.Ai++[c]).getD i 0))=(List.range st.Ai.length).flatMap (λi=>slP (st.Ai.getD i 0)):=Q1Q λj hj=>by rw [gD,gD,gL hj]
    rw [e1,Zd (l:=st.Ai++[c]) (x:=c) (by simp)];simp only [List.append_assoc];rfl
   rw [this,List.nodup_append];refine⟨hcl,by unfold slP;simp [hne],λa ha b hb=>?_⟩;unfold slP at hb;simp at hb;rcases hb with e | e
   ·subst e;exact λe=>h1 (e▸ha)
   ·subst e;exact λe=>h2 (e▸ha)
  ·rw [List.nodup_iff_count];intro x;have hle:=Q3e hcl x;have hP:=Q19 (f:=λi=>slP (st.Ai.getD i 0)) (f':=λi=>slP ((st.Ai.set n c).getD i 0)) hn (λj _ hne=>by rw [Q15 hn,gC hne]) x;rw [Q15 hn,gF rfl] at hP;have hle2:(slP c).count x≤1:=List.nodup_iff_count.1 (by unfold slP;simp [hne]) x;have h0:x∈slP c->(allS st).count x=0:=λhx=>by
    unfold slP at hx;simp at hx;rcases hx with e | e
    ·subst e;exact List.count_eq_zero.2 h1
    ·subst e;exact List.count_eq_zero.2 h2
   have hm:(slP c).count x=0∨x∈slP c:=by
    by_cases e:x∈slP c
    ·exact .inr e
    ·exact .inl (List.count_eq_zero.2 e)
   unfold allS at hle h0 ⊢;simp only [List.count_append] at hle h0 ⊢;show ((List.range st.Ak.length).flatMap (λi=>slR (st.Ak.getD i default))).count x+((List.range st.Al.length).flatMap (slS st)).count x+((List.range pp.length).flatMap (λi=>slP (pp.getD i 0))).count x≤1;rw [e,List.length_set];rcases hm with e | e
   ·omega
   ·have:=h0 e;omega
theorem Q5E(hf:RF s.A9)(h:RSt s st)(f:Kk):RSt s (Yu s st f):=by
 cases hb:Gv s st f with
 | false=>rw [Q6Z hb];exact h
 | true=>
  have base:=λ(i:Nat) r (hi:st.Ak[i]?=some r)=>h.rob i r hi
  by_cases h1:f.Ac=1
  ·have hl:=hb;rw [Q7s h1] at hl;obtain⟨n,r,hn,hx,_,hr⟩:=Q25 hl;have hR:=h.rob n r hx;rw [Q90 hb h1,hr];refine Q1T h (st':=setR st f.A {r with A8:=true}) ?_ rfl rfl h.Bh ?_ h.dead h.deadA h.stuck h.stuckA
   ·show (st.Ak.set f.A.toNat _).map CL=_;rw [hn];exact Q4C hx rfl rfl
   ·show ∀(i:Nat) z,(st.Ak.set f.A.toNat _)[i]?=some z->_;rw [hn];exact Q9c h hx ⟨hR.charge,hR.Ba,hR.mute⟩
  by_cases h2:f.Ac=2
  ·have hl:=hb;rw [Q9s h2,gP] at hl;have hA:isC s.A9 f.A=true:=by
    have h3:k0 s.A9 f.A≠0:=by simpa using hl.1
    exact (Qai h3 rfl).1
   have hnm:f.A∉st.A8:=by simpa using hl.2
   rw [Q8I hb h2];have hpw:=Q3A (g:=λx:Int=>x) h.deadA;have hperm:=Q62 (st.A8++[f.A]);have hnd:(srtI (st.A8++[f.A])).Nodup:=hperm.nodup_iff.2 (by
    rw [List.nodup_append];exact⟨hpw.imp (λh=>by omega),by simp,λa ha b hb=>by simp at hb;subst hb;exact λe=>hnm (e▸ha)⟩)
   have hlt:(srtI (st.A8++[f.A])).Pairwise (λx y:Int=>x<y):=by
    have:=List.Pairwise.and (Qbp (st.A8++[f.A])) hnd;exact this.imp (λh=>by obtain⟨a,b⟩:=h;omega)
   refine Q1T h (st':={st with A8:=srtI (st.A8++[f.A])}) rfl rfl rfl h.Bh (λi r hi=>⟨(base i r hi).charge,(base i r hi).Ba,(base i r hi).mute⟩) (λi c hi=>?_) (λi x y hx hy=>Q3B (g:=λx:Int=>x) hlt i x y hx hy) h.stuck h.stuckA;rcases List.mem_append.1 (hperm.mem_iff.1 (gM hi)) with hm | hm
   ·obtain⟨j,hj⟩:=gO hm;exact h.dead j c hj
   ·simp at hm;subst hm;exact hA
  by_cases h3:f.Ac=3
  ·have hl:=hb;rw [Q6M h3,gP] at hl;obtain⟨n,r,hn,hx,_,hr⟩:=Q25 hl.1;have hlg:1≤f.N∧f.N≤20000:=by have:=hl.2;unfold Q5I at this;simpa using this
   have hR:=h.rob n r hx;rw [Q8N hb h3,hr];refine Q1T h (st':=setR st f.A {r with Af:=f.N}) ?_ rfl rfl h.Bh ?_ h.dead h.deadA h.stuck h.stuckA
   ·show (st.Ak.set f.A.toNat _).map CL=_;rw [hn];exact Q4C hx rfl rfl
   ·show ∀(i:Nat) z,(st.Ak.set f.A.toNat _)[i]?=some z->_;rw [hn];exact Q9c h hx ⟨hR.charge,hR.Ba,by show 0≤f.N∧f.N≤20000;omega⟩
  by_cases h4:f.Ac=4
  ·have hl:=hb;rw [Q8U h4,gP] at hl;have hlg:1≤f.N∧f.N≤20000:=by have:=hl.2;unfold Q5I at this;simpa using this
   have hA:=Qai (n:=6) (by decide) (by simpa using hl.1);rw [Q9q hb h4];have hpw:=Q99 (c:=f.A) (n:=f.N) (Q3A (g:=λx:Qd=>x.A4) h.stuckA);refine Q1T h (st':={st with Aq:=Gu f.A f.N st.Aq}) rfl rfl rfl h.Bh (λi r hi=>⟨(base i r hi).charge,(base i r hi).Ba,(base i r hi).mute⟩) h.dead h.deadA (λi x hi=>?_) (λi x y hx hy=>Q3B (g:=λx:Qd=>x.A4) hpw i x y hx hy);have hst:∀y,y∈st.Aq->kx s.A9 y.A4=6∧1≤y.Ad∧y.Ad≤20000:=λy hy=>by obtain⟨j,hj⟩:=gO hy;exact h.stuck j y hj
   rcases Q4W (gM hi) with hm | ⟨hm,hm2⟩
   ·exact hst x hm
   ·refine⟨by rw [hm];exact hA.2,?_⟩;rcases hm2 with e | ⟨y,hy,e⟩
    ·rw [e];exact hlg
    ·have:=(hst y hy).2;rw [e];unfold imax;split <;> omega
  by_cases h5:f.Ac=5
  ·have hl:=hb;rw [Q7e h5] at hl;obtain⟨g1,g2,g3,g4,g5⟩:=QaV hf hl;rw [Q7F hb h5];rcases Q9O hl with hA | ⟨n,hA,hn⟩
   ·have:=g5 hA;rw [gF hA];exact Q4R h hf g1 g2 g3 g4 (by simp;omega) (.inl rfl)
   ·rw [gC (by omega),hA];exact Q4R h hf g1 g2 g3 g4 (by show (st.Ai.set n f.N).length≤20;rw [List.length_set];exact h.pl) (.inr ⟨n,hn,rfl⟩)
  ·by_cases h0:f.Ac=0
   ·rw [Q9e h0];exact h
   ·have:=Q54 (s:=s) (st:=st) h0 h1 h2 h3 h4 h5;rw [this] at hb;cases hb
theorem Q9b(hf:RF s.A9)(hs:RS s)(h:RSt s st)(hz:Sz st):LS s st:=⟨hf,hs,hz,h.cells,λi r hr=>⟨(h.rob i r hr).cell,(h.rob i r hr).load.1,(h.rob i r hr).load.2⟩⟩
theorem QaF{f:Qe}{c:Int}(h:0≤kx f c):isC f c=true:=by
 unfold kx at h;cases e:isC f c with
 | true=>rfl
 | false=>rw [e] at h;simp at h
theorem Qaw(hf:RF s.A9)(h:RSt s st)(hz:Sz st):KK st where
 Ar:=Q0p (by have:=h.Bh;omega)
 Al:=Q6y hz.sh (λc hc=>Q0F hf (h.cells c hc))
 Ak:=Q6y hz.rb (λr hr=>by
  obtain⟨i,hi⟩:=gO hr;have hR:=h.rob i r hi;have h1:=hR.load;have h2:=hR.charge;have h3:=hR.Ba;have h4:=hR.mute;have h5:=hz.sh;exact⟨Q0F hf hR.cell,Q0p (by omega),Q0p (by omega),Q0p (by omega),Q0p (by omega),trivial⟩)
 Ai:=Q6y hz.pp (λc hc=>by obtain⟨i,hi⟩:=gO hc;exact Q0F hf (QaF (by have:=h.ppl i c hi;omega)))
 A8:=Q6y hz.dd (λc hc=>by obtain⟨i,hi⟩:=gO hc;exact Q0F hf (h.dead i c hi))
 Aq:=Q6y hz.sk (λx hx=>by
  obtain⟨i,hi⟩:=gO hx;have:=h.stuck i x hi;exact⟨Q0F hf (QaF (by omega)),Q0p (by omega)⟩)
def doA(s:Q5)(st:Q7)(i:Nat)(a:Int):Q7:=doS s st i (if legS s st i a=0 then a else 0)
theorem legA{i:Nat}(hi:i<st.Ak.length)(a:Int):legS s st i (if legS s st i a=0 then a else 0)=0:=by
 split
 ·assumption
 ·exact Q9p ⟨by omega,by omega⟩
theorem Q8A(hf:RF s.A9)(hs:RS s)(h:RSt s st)(hz:Sz st){i:Nat}(hi:i<st.Ak.length)(a:Int):RSt s (doA s st i a):=by
 have hx:=gE hi;have hl:=legA (s:=s) hi a;have ha:=(Q8L hl).2;unfold doA;generalize (if legS s st i a=0 then a else 0)=b at *;rw [Qav rfl hx];rw [Q8W rfl hx] at hl;exact (QbC h (Q9b hf hs h hz) hx ha hl).1
def runS(s:Q5)(acts:List Int):Nat->Nat->Q7->Q7
 | 0,_,st=>st
 | n+1,i,st=>runS s acts n (i+1) (doA s st i (acts.getD i 0))
end
def mset{α:Type}(g:Nat->α)(xs:List α)(i:Nat):List α:=(List.range i).map g++xs.drop i
theorem Q6E{α:Type}(g:Nat->α)(xs:List α):mset g xs 0=xs:=by unfold mset;simp
theorem Q5u{α:Type}(g:Nat->α){xs:List α}{i:Nat}{x:α}(h:xs[i]?=some x):(mset g xs i)[i]?=some x:=by
 unfold mset;rw [gR (by simp)];simp [h]
theorem Q3c{α:Type}(g:Nat->α){xs:List α}{i:Nat}(h:i<xs.length):(mset g xs i).set i (g i)=mset g xs (i+1):=by
 unfold mset;rw [List.set_append,gC (by simp),List.length_map,List.length_range,Nat.sub_self,List.drop_eq_getElem_cons h,List.set_cons_zero,List.range_succ,List.map_append];simp
theorem Q38{α:Type}(g:Nat->α)(xs:List α):mset g xs xs.length=(List.range xs.length).map g:=by unfold mset;simp
theorem Q41{α β:Type}(f:α->β)(xs:List α)(d:α):(List.range xs.length).map (λi=>f (xs.getD i d))=xs.map f:=by
 apply List.ext_getElem?;intro i;rw [gK,gK];by_cases h:i<xs.length
 ·rw [List.getElem?_range h,gE h,Option.map_some,Option.map_some,gD,gE h];rfl
 ·rw [gN (by simp;omega),gN (by omega)];rfl
def endR(b r:Q2):Q2:={r with Aj:=if r.A4=b.A4 then imax (r.Aj-1) 0 else r.Aj,Af:=imax (r.Af-1) 0}
def decL(x:Qd):Qd:={x with Ad:=x.Ad-1}
def Q6W(b st:Q7):Q7:=
 {st with Ar:=st.Ar+1,Ak:=(List.range st.Ak.length).map (λi=>endR (b.Ak.getD i default) (st.Ak.getD i default)),Aq:=(st.Aq.map decL).filter λx=>!decide (x.Ad≤0)}
section
variable {s:Q5} {st b:Q7}
theorem Q6L(h:RSt s st)(hz:Sz st)(hl:b.Ak.length=st.Ak.length){post:Q7->Prop}(hp:post (Q6W b st)):W8 b st post:=by
 unfold W8;have q2:=hz.rb;have q5:=hz.sk;have htk:=h.Bh;refine Jn.mk (λl=>l=(List.range st.Ak.length).map (λi=>endR (b.Ak.getD i default) (st.Ak.getD i default))) (Q7R st.Ak.length (λt:List Q2×Int=>t.2) (λi t=>t.1=mset (λi=>endR (b.Ak.getD i default) (st.Ak.getD i default)) st.Ak i) (by unfold maxLen;omega) rfl (Q6E _ _).symm (λi t hi ht hI=>?_) (λt h=>by rw [Q38] at h;exact h)) (λl hl2=>?_)
 ·have hx:=gE hi;generalize st.Ak[i]=r at hx;have hy:=gE (show i<b.Ak.length by omega);generalize b.Ak[i]'_=r0 at hy;have hR:=h.rob i r hx;have h1:=hR.Ba;have h2:=hR.mute;have eg:endR (b.Ak.getD i default) (st.Ak.getD i default)=endR r0 r:=by rw [Zh hx,Zh hy]
  have em:w64 (r.Af-1)=r.Af-1:=K9 (by omega) (by omega);have er:w64 (r.Aj-1)=r.Aj-1:=K9 (by omega) (by omega);rw [ht];refine Jn.mk (λl=>l=t.1.set i (endR r0 r)) ⟨r,Qo rfl (by rw [hI];exact Q5u _ hx),r0,Qo rfl hy,Ite.mk (λh3=>?_) (λh3=>?_)⟩ (λl hl2=>⟨rfl,by show l=_;rw [hl2,hI,<-eg];exact Q3c _ hi⟩)
  ·have h3':r.A4≠r0.A4:=by simpa using h3
   show t.1.set i _=_;unfold endR;rw [gC h3',em]
  ·have h3':r.A4=r0.A4:=by simpa using h3
   show (t.1.set i _).set i _=_;rw [List.set_set];unfold endR;rw [gF h3',em,er]
 ·refine Jn.mk (λm=>m=st.Aq.map decL) (Q7R st.Aq.length (λt:List Qd×Int=>t.2) (λi t=>t.1=mset (λi=>decL (st.Aq.getD i default)) st.Aq i) (by unfold maxLen;omega) rfl (Q6E _ _).symm (λi t hi ht hI=>?_) (λt h=>by rw [Q38,Q41] at h;exact h)) (λm hm=>?_)
  ·have hx:=gE hi;generalize st.Aq[i]=x at hx;have hK:=h.stuck i x hx;rw [ht];have eg:decL (st.Aq.getD i default)=decL x:=by rw [gD,hx];rfl
   refine⟨x,Qo rfl (by rw [hI];exact Q5u _ hx),rfl,?_⟩;show t.1.set i _=_;rw [hI,K9 (by omega) (by omega)];have:=Q3c (λi=>decL (st.Aq.getD i default)) hi;rw [<-this,eg];rfl
  ·unfold QH QU;have hml:m.length≤maxLen:=by rw [hm];simp;unfold maxLen;omega
   refine Z5 hml (λx:Qd=>decide (x.Ad≤0)) (T:=λx q=>XT x q) (λx _ q hq=>by unfold XT;exact hq) ?_;refine Q6I hml (⟨0,0⟩:Qd) (λx:Qd=>decide (x.Ad≤0)) (T:=λx q=>XT x q) (λx _ q hq=>by unfold XT;exact hq) (post:=λy=>post ⟨w64 (st.Ar+1),st.Al,l,st.Ai,st.A8,y⟩) ?_;rw [hm,hl2,K9 (by omega) (by omega)];exact hp
theorem Qa8(h:RSt s st)(hl:b.Ak.length=st.Ak.length)(ht:st.Ar<20000):RSt s (Q6W b st):=by
 have hget:∀(i:Nat) r',(Q6W b st).Ak[i]?=some r'->∃r,st.Ak[i]?=some r∧r'=endR (b.Ak.getD i default) r:=λi r' hi=>by
  have hi':((List.range st.Ak.length).map (λi=>endR (b.Ak.getD i default) (st.Ak.getD i default)))[i]?=some r':=hi;rw [gK] at hi';cases e:(List.range st.Ak.length)[i]? with
  | none=>rw [e] at hi';cases hi'
  | some j=>
   rw [e] at hi';obtain⟨h1,h2⟩:=gS.1 e;simp at h1 h2;subst h2;have hx:=gE h1;refine⟨_,hx,?_⟩;exact (Option.some.inj hi').symm.trans (by show endR _ (st.Ak.getD _ default)=_;rw [Zh hx])
 refine Q1T h (st':=Q6W b st) ?_ rfl rfl (by have:=h.Bh;show 0≤st.Ar+1∧st.Ar+1≤20000;omega) (λi r' hi=>?_) h.dead h.deadA (λi x hi=>?_) (λi x y hx hy=>?_)
 ·show ((List.range st.Ak.length).map (λi=>endR (b.Ak.getD i default) (st.Ak.getD i default))).map CL=_;rw [List.map_map];have:(CL ∘ λi=>endR (b.Ak.getD i default) (st.Ak.getD i default))=λi=>CL (st.Ak.getD i default):=rfl
  rw [this];exact Q41 CL st.Ak default
 ·obtain⟨r,hr,e⟩:=hget i r' hi;have hR:=h.rob i r hr;have h1:=hR.Ba;have h2:=hR.mute;subst e;refine⟨hR.charge,?_,?_⟩
  ·unfold endR;simp only;split
   ·unfold imax;split <;> omega
   ·exact h1
  ·unfold endR;simp only;unfold imax;split <;> omega
 ·have hm:=gM hi;have hm':x∈(st.Aq.map decL).filter λx=>!decide (x.Ad≤0):=hm
  obtain⟨h1,h2⟩:=List.mem_filter.1 hm';obtain⟨y,hy,e⟩:=List.mem_map.1 h1;obtain⟨j,hj⟩:=gO hy;have hK:=h.stuck j y hj;subst e;have h2':¬(decL y).Ad≤0:=by simpa using h2
  refine⟨hK.1,?_⟩;have:(decL y).Ad=y.Ad-1:=rfl;omega
 ·have h1:=Q3A (g:=λx:Qd=>x.A4) h.stuckA;have h2:((st.Aq.map decL).filter λx=>!decide (x.Ad≤0)).Pairwise (λx y=>x.A4<y.A4):=List.Pairwise.filter _ (List.pairwise_map.2 (h1.imp (λh=>h)));exact Q3B (g:=λx:Qd=>x.A4) h2 i x y hx hy
structure SzN (n:Nat) (st:Q7):Prop where
 sh:st.Al.length≤20
 rb:st.Ak.length≤20
 pp:st.Ai.length≤20
 dd:st.A8.length≤n
 sk:st.Aq.length≤n
theorem SzN.sz{n:Nat}(h:SzN n st)(hn:n≤1000):Sz st:=⟨by have:=h.sh;omega,by have:=h.rb;omega,by have:=h.pp;omega,by have:=h.dd;omega,by have:=h.sk;omega⟩
theorem SzN.mono{n m:Nat}(h:SzN n st)(hn:n≤m):SzN m st:=⟨h.sh,h.rb,h.pp,by have:=h.dd;omega,by have:=h.sk;omega⟩
theorem Q7T{n:Nat}(hf:RF s.A9)(h:RSt s st)(hz:SzN n st)(f:Kk):SzN (n+1) (Yu s st f):=by
 have hr:=Q5E hf h f;have hpl:=hr.pl;cases hb:Gv s st f with
 | false=>rw [Q6Z hb];exact hz.mono (by omega)
 | true=>
  have q1:=hz.sh;have q2:=hz.rb;have q3:=hz.dd;have q4:=hz.sk;by_cases h1:f.Ac=1
  ·rw [Q90 hb h1] at hpl ⊢;exact⟨q1,by unfold setR;simp only;rw [List.length_set];exact q2,hpl,by show st.A8.length≤_;omega,by show st.Aq.length≤_;omega⟩
  by_cases h2:f.Ac=2
  ·rw [Q8I hb h2] at hpl ⊢;exact⟨q1,q2,hpl,by show (srtI _).length≤_;rw [(Q62 _).length_eq];simp;omega,by show st.Aq.length≤_;omega⟩
  by_cases h3:f.Ac=3
  ·rw [Q8N hb h3] at hpl ⊢;exact⟨q1,by unfold setR;simp only;rw [List.length_set];exact q2,hpl,by show st.A8.length≤_;omega,by show st.Aq.length≤_;omega⟩
  by_cases h4:f.Ac=4
  ·rw [Q9q hb h4] at hpl ⊢;exact⟨q1,q2,hpl,by show st.A8.length≤_;omega,by have:=(Q4U f.A f.N st.Aq).2;show (Gu _ _ _).length≤_;omega⟩
  by_cases h5:f.Ac=5
  ·rw [Q7F hb h5] at hpl ⊢;exact⟨q1,q2,hpl,by show st.A8.length≤_;omega,by show st.Aq.length≤_;omega⟩
  ·by_cases h0:f.Ac=0
   ·rw [Q9e h0];exact hz.mono (by omega)
   ·have:=Q54 (s:=s) (st:=st) h0 h1 h2 h3 h4 h5;rw [this] at hb;cases hb
theorem Q56(i:Nat)(a:Int):(doA s st i a).Ar=st.Ar∧(doA s st i a).Ak.length=st.Ak.length∧(doA s st i a).Al.length=st.Al.length∧(doA s st i a).Ai=st.Ai∧(doA s st i a).A8=st.A8∧(doA s st i a).Aq=st.Aq:=by
 unfold doA;generalize (if legS s st i a=0 then a else 0)=c;unfold doS;split
 ·exact⟨rfl,rfl,rfl,rfl,rfl,rfl⟩
 ·refine⟨?_,Qcl _ _ _,QcG _ _ _,?_,?_,?_⟩ <;> (unfold doR;split <;> rfl)
theorem Q8M{n:Nat}(hz:SzN n st)(i:Nat)(a:Int):SzN n (doA s st i a):=by
 obtain⟨_,h1,h2,h3,h4,h5⟩:=Q56 (s:=s) (st:=st) i a;exact⟨by rw [h2];exact hz.sh,by rw [h1];exact hz.rb,by rw [h3];exact hz.pp,by rw [h4];exact hz.dd,by rw [h5];exact hz.sk⟩
theorem Qa4{n:Nat}(hz:SzN n st):SzN n (Q6W b st):=
 ⟨hz.sh,by show ((List.range st.Ak.length).map _).length≤20;simp;exact hz.rb,hz.pp,hz.dd,by
  show ((st.Aq.map decL).filter _).length≤n;exact Nat.le_trans (List.length_filter_le _ _) (by simp;exact hz.sk)⟩
theorem Q3m{n:Nat}(hn:n≤1000)(hf:RF s.A9)(hs:RS s)(acts:List Int):∀(k i:Nat) (st:Q7),i+k≤st.Ak.length->RSt s st->SzN n st->RSt s (runS s acts k i st)∧SzN n (runS s acts k i st)∧(runS s acts k i st).Ar=st.Ar∧(runS s acts k i st).Ak.length=st.Ak.length
 | 0,i,st,_,h,hz=>⟨h,hz,rfl,rfl⟩
 | k+1,i,st,hi,h,hz=>by
  obtain⟨g1,g2,_⟩:=Q56 (s:=s) (st:=st) i (acts.getD i 0);obtain⟨h1,h2,h3,h4⟩:=Q3m hn hf hs acts k (i+1) (doA s st i (acts.getD i 0)) (by rw [g2];omega) (Q8A hf hs h (hz.sz hn) (by omega) _) (Q8M hz i _);exact⟨h1,h2,h3.trans g1,h4.trans g2⟩
theorem Qdv{n:Nat}(hn:n≤1000)(hf:RF s.A9)(hs:RS s){acts:List Int}(hm:acts.length≤maxLen){now:Q7}(h:RSt s now)(hz:SzN n now)(hl:acts.length=now.Ak.length)
  {L:Q7->Int->Int->(Int->Prop)->Prop} (hL:∀st,KK st->LS s st->∀i a {q:Int->Prop},q (legS s st i a)->L st i a q)
  {D:Q7->Int->Int->(Q7->Prop)->Prop} (hD:∀st,KK st->LS s st->∀i a {q:Q7->Prop},0≤a->a<10->q (doS s st i a)->D st i a q)
  {K:Int×List Int×List Q2×List Int×List Int×List Qd->Prop} (hp:∀t:Int×List Int×List Q2×List Int×List Int×List Qd,(⟨t.1,t.2.1,t.2.2.1,t.2.2.2.1,t.2.2.2.2.1,t.2.2.2.2.2⟩:Q7)=runS s acts acts.length 0 now->K t):
  Jn (λ(J:(Int×List Int×List Q2×List Int×List Int×List Qd)->Prop)=>Loop (λ(t:Int×List Int×List Q2×List Int×List Int×List Qd×Int) Y=>Ite (decide (t.2.2.2.2.2.2<(acts.length:Int)))
   (∃x,idx acts t.2.2.2.2.2.2=some x∧L (stOf t) t.2.2.2.2.2.2 x (λy=>Jn (λ(J2:Int->Prop)=>Ite (y != 0) (J2 0) (J2 x)) (λ(a:Int)=>D (stOf t) t.2.2.2.2.2.2 a (λz=>Y (z.Ar,z.Al,z.Ak,z.Ai,z.A8,z.Aq,w64 (t.2.2.2.2.2.2+1))))))
   (J (t.1,t.2.1,t.2.2.1,t.2.2.2.1,t.2.2.2.2.1,t.2.2.2.2.2.1))) (now.Ar,now.Al,now.Ak,now.Ai,now.A8,now.Aq,0)) K:=by
 refine Jn.mk (λt=>(⟨t.1,t.2.1,t.2.2.1,t.2.2.2.1,t.2.2.2.2.1,t.2.2.2.2.2⟩:Q7)=runS s acts acts.length 0 now) (Loop.inv acts.length (λi t=>t.2.2.2.2.2.2=(i:Int)∧RSt s (stOf t)∧SzN n (stOf t)∧(stOf t).Ak.length=acts.length∧runS s acts acts.length 0 now=runS s acts (acts.length-i) i (stOf t)) ⟨rfl,h,hz,hl.symm,rfl⟩ (λi t hi hI=>?_) (λt hI=>?_)) hp
 ·obtain⟨ht,hr,hsz,hlen,hI⟩:=hI;have hx:=gE hi;generalize acts[i]=a at hx;have hn':acts.length-i=(acts.length-(i+1))+1:=by omega
  rw [hn',runS,Zd hx] at hI;have hls:=Q9b hf hs hr (hsz.sz hn);have hok:=Qaw hf hr (hsz.sz hn);rw [ht];refine Ite.lt (by omega) ⟨a,Qo rfl hx,hL _ hok hls i a ?_⟩;refine Jn.mk (λc=>c=if legS s (stOf t) i a=0 then a else 0) (Ite.mk (λh6=>by rw [gC (by simpa using h6)]) (λh6=>by rw [gF (by simpa using h6)])) (λc hc=>?_);have hleg:=legA (s:=s) (st:=stOf t) (i:=i) (by omega) a;rw [<-hc] at hleg;have hb:=Q9N hleg;have e:doS s (stOf t) i c=doA s (stOf t) i a:=by unfold doA;rw [<-hc]
  refine hD _ hok hls i c hb.1 hb.2 ?_;rw [e];refine⟨Yy hi hm,Q8A hf hs hr (hsz.sz hn) (by omega) a,Q8M hsz i a,?_,hI⟩;show (doA s (stOf t) i a).Ak.length=_;rw [(Q56 (s:=s) (st:=stOf t) i a).2.1];exact hlen
 ·obtain⟨ht,hr,hsz,hlen,hI⟩:=hI;rw [Nat.sub_self,runS] at hI;exact Ite.nlt (by omega) hI.symm
def Qao:Q7:=⟨0,[],[],[],[],[]⟩
def tickS(s:Q5)(st:Q7)(acts:List Int)(f:Kk):Q7:=Q6W st (runS s acts acts.length 0 (Yu s st f))
noncomputable def Qad(s:Q5)(st:Q7)(acts:List Int)(f:Kk):Q7×Int:=
 if chkS s st acts≠0 then (Qao,chkS s st acts) else if Gv s st f=false then (Qao,26) else (tickS s st acts f,0)
theorem Q7D{acts:List Int}(h:chkS s st acts=0):st.Ar<20000∧acts.length=st.Ak.length:=by
 unfold chkS at h;by_cases h1:st.Ar≥20000
 ·rw [gF h1] at h;simp at h
 ·rw [gC h1] at h;by_cases h2:(acts.length:Int)≠st.Ak.length
  ·rw [gF h2] at h;simp at h
  ·exact⟨by omega,by omega⟩
theorem Q9B(f:Kk):(Yu s st f).Ak.length=st.Ak.length∧(Yu s st f).Ar=st.Ar:=by
 unfold Yu setR;split
 ·exact⟨rfl,rfl⟩
 ·(repeat' split) <;> first | exact⟨rfl,rfl⟩ | exact⟨by simp,rfl⟩
theorem Q8q{n:Nat}(hn:n<1000)(hf:RF s.A9)(hs:RS s)(h:RSt s st)(hz:SzN n st){acts:List Int}(hc:chkS s st acts=0)(f:Kk):RSt s (tickS s st acts f)∧SzN (n+1) (tickS s st acts f)∧(tickS s st acts f).Ar=st.Ar+1∧(tickS s st acts f).Ak.length=st.Ak.length:=by
 obtain⟨ht,hl⟩:=Q7D hc;obtain⟨e1,e2⟩:=Q9B (s:=s) (st:=st) f;have hr:=Q5E hf h f;have hsz:=Q7T hf h hz f;obtain⟨g1,g2,g3,g4⟩:=Q3m (n:=n+1) (by omega) hf hs acts acts.length 0 (Yu s st f) (by rw [e1];omega) hr hsz;refine⟨Qa8 g1 (by rw [g4,e1]) (by rw [g3,e2];exact ht),Qa4 g2,?_,?_⟩
 ·show (runS s acts acts.length 0 (Yu s st f)).Ar+1=_;rw [g3,e2]
 ·show ((List.range _).map _).length=_;simp;rw [g4,e1]
theorem Q6x{n:Nat}(hn:n<1000)(ks:QF s)(hf:RF s.A9)(hs:RS s)(h:RSt s st)(hz:SzN n st){acts:List Int}(ka:OkL I64 acts){f:Kk}{post:Q7×Int->Prop}(hp:post (Qad s st acts f)):YD s st acts f post:=by
 unfold YD;have hsz:=hz.sz (by omega);have hok:=Qaw hf h hsz;unfold Qad at hp;refine Q53 ks hok (Q9b hf hs h hsz) ka (Ite.mk (λh1=>?_) (λh1=>?_))
 ·rw [gF (by simpa using h1)] at hp;exact hp
 have hc:chkS s st acts=0:=by simpa using h1
 rw [gC (by simpa using h1)] at hp;refine Q0o hf hsz (Ite.mk (λh2=>?_) (λh2=>?_))
 ·have h2':Q6u s st f≠0:=by simpa using h2
  have hb:Gv s st f=false:=by
   cases e:Gv s st f with
   | false=>rfl
   | true=>exact absurd (Q21.2 e) h2'
  have:Q6u s st f=26:=by unfold Q6u;rw [hb];rfl
  rw [gF hb] at hp;rw [this];exact hp
 have hb:Gv s st f=true:=Q21.1 (by simpa using h2);rw [gC (by rw [hb];simp)] at hp;obtain⟨ht,hl⟩:=Q7D hc;obtain⟨e1,e2⟩:=Q9B (s:=s) (st:=st) f;have hr:=Q5E hf h f;have hsz1:=Q7T hf h hz f;obtain⟨g1,g2,g3,g4⟩:=Q3m (n:=n+1) (by omega) hf hs acts acts.length 0 (Yu s st f) (by rw [e1];omega) hr hsz1;refine Q4v hf hsz (Qdv (n:=n+1) (by omega) hf hs ka.1 hr hsz1 (by rw [e1];exact hl) (L:=λst i a q=>GW s st i a q) (λst k h i a q hq=>Q3z ks k h hq) (D:=λst i a q=>Zx s st i a q) (λst k h i a q h0 h9 hq=>Q7V ks k h h0 h9 hq) (λt ht=>?_));rw [ht];exact Q0P (g2.sz (by omega)) (Q6L g1 (g2.sz (by omega)) (by rw [g4,e1]) hp)
end
section
variable {s:Q5}
theorem Q4c{f:Qe}(h:RF f){post:Bool->Prop}(hp:post true):GX f post:=by
 have w1:=h.W1;have w2:=h.H1;have w3:=h.D1;have w4:=h.D4;have w5:=h.W4;have w6:=h.H4;have w7:=h.n4;have w8:=h.kl;have w9:=h.ol;have e:=Q5A (f:=f) (by omega) (by omega) (by omega) (by omega) (by omega) (by omega);unfold GX GS;rw [e.1];refine Jor3 (Ite.f ?_ (Jor3 (Ite.f ?_ ?_)))
 ·simp only [Bool.or_eq_false_iff,decide_eq_false_iff_not,Q59,Q9x];omega
 ·simp only [Bool.or_eq_false_iff,decide_eq_false_iff_not,bne_eq_false_iff_eq];omega
 have hl:f.Ac.length≤maxLen:=by unfold maxLen;omega
 refine Jn.mk (λ_=>True) (XE hl (λs=>s) (λ_ _=>True) rfl trivial (λn x t hx ht _=>?_) (λ_ _=>trivial)) (λ_ _=>hp);have hn:=(gS.1 hx).1;have ho:f.Ah[n]?=some (f.Ah[n]'(by omega)):=gE _;have hb:=h.ko n x _ hx ho;refine Jn.mk (λb=>b=false) (Ite.f (by simp;omega) (Ite.f (by simp;omega) ⟨_,by rw [ht];exact Qo rfl ho,Ite.f (by simp;omega) (by simp;omega)⟩)) (λb hb=>Ite.f hb ⟨by rw [ht],trivial⟩)
theorem Q28(k:QF s)(hs:s.Ak.length≤1000000){nz na ns n:Nat}{m:Qc}(hI:MInv s nz na ns n m){x:QV}(hx:s.Ak[n]?=some x){post:Int×Qc->Prop}(h200:n<200)
  (h:isC s.A9 x.A4=true∧0≤x.A6∧x.A6≤1000000∧kd s.A9 x.A4≠0∧rbAt (s.Ak.take n) x.A4=false) (hT:∀m',MInv s nz na ns (n+1) m'->post (0,m')):Kh x m post:=by
 have hn:=(gS.1 hx).1;have hlen:m.Bf.Ak.length=n:=by rw [hI.rs];simp;omega
 unfold Kh;refine Xo ?_;rw [hI.fl,gF h.1];refine Jn.mk (λb=>b=false) (Ite.t rfl ?_) (λb hb=>Ite.f hb (Ite.f (by simpa using h.2.2.2.1) (Ite.f (by rw [hI.Bb];exact h.2.2.2.2) (Ite.f (by rw [hlen];simp;omega) ⟨by rw [hlen];simp;omega,hT _ ⟨rfl,hI.zs,hI.aps,hI.sh,?_,hI.B7,hI.Bk,hI.Bc,λc=>?_⟩⟩))))
 ·unfold G6;refine Q0K ?_;rw [decide_eq_true (show x.A6≥0 from h.2.1),decide_eq_true h.2.2.1];rfl
 ·show m.Bf.Ak++[x]=_;rw [hI.rs,Kt hx]
 ·show (lk (upd m.Bb x.A4 true) c).getD false=_;rw [GR,Kt hx,Q7H];by_cases e:x.A4=c
  ·rw [gF e];simp [e]
  ·rw [gC e,hI.Bb];simp [e]
end
theorem wu64{x:Int}(h0:0≤x)(h1:x<18446744073709551616):IntKind.wrap .u64 x=x:=by
 show x % 18446744073709551616=x;omega
theorem QcU{x:Int}(h1:-1000000≤x)(h2:x≤1000000000):w64 x=x:=K9 (by omega) (by omega)
theorem Qbn{n:Nat}(h:n≤1000000000):w64 ((n:Int)+1)=((n+1:Nat):Int):=by rw [K9 (by omega) (by omega)];simp
def cmI{α:Type}[DecidableEq α](xs:List α):Nat->List α
 | 0=>[]
 | i+1=>cmI xs i++(if i=0∨xs[i]?≠xs[i-1]? then xs[i]?.toList else [])
section
variable {α:Type} [DecidableEq α] {xs:List α}
theorem Q7N{i:Nat}(h:1≤i)(e:xs[i]?=xs[i-1]?):cmI xs (i+1)=cmI xs i:=by
 rw [cmI,gC (by intro h;rcases h with h | h;omega;exact h e)];simp
theorem Q71{i:Nat}{x:α}(h:xs[i]?=some x)(e:i=0∨xs[i]?≠xs[i-1]?):cmI xs (i+1)=cmI xs i++[x]:=by
 rw [cmI,gF e,h];rfl
end
theorem Q8d{xs:List Int}(hl:xs.length≤1000000){post:List Int->Prop}(hp:post (cmI xs xs.length)):KJ xs post:=by
 unfold KJ;refine Ite.mk (λh=>?_) (λh=>?_)
 ·have h':(xs.length:Int)<2:=of_decide_eq_true h;have:cmI xs xs.length=xs:=by
   match xs,h' with
   | [],_=>rfl
   | [x],_=>rfl
   | _ :: _ :: _,h'=>simp at h';omega
  rw [this] at hp;exact hp
 have h':¬(xs.length:Int)<2:=of_decide_eq_false h;have all:cmI xs xs.length=xs->post xs:=λe=>by rw [e] at hp;exact hp
 refine Jn.mk (λ_=>post xs) (Loop.inv (xs.length-1) (λi (s:Int)=>s=((i+1:Nat):Int)∧cmI xs (i+1)=xs.take (i+1)) ⟨rfl,?_⟩ (λi s hi hI=>?_) (λs hI=>?_)) (λ_ h=>h)
 ·have hx:xs[0]?=some (xs[0]'(by omega)):=gE (by omega);rw [Q71 hx (.inl rfl),List.take_add_one,hx];rfl
 ·obtain⟨rfl,hI⟩:=hI;have hx:xs[i+1]?=some (xs[i+1]'(by omega)):=gE (by omega);have hx0:xs[i]?=some (xs[i]'(by omega)):=gE (by omega);generalize hxv:xs[i+1]'(by omega)=x at hx;generalize hyv:xs[i]'(by omega)=y at hx0;have w1:w64 (((i+1:Nat):Int)-1)=(i:Int):=by rw [QcU (by omega) (by omega)];simp
  refine Ite.lt (by omega) (Jn.mk (λ_=>cmI xs (i+2)=xs.take (i+2)) ⟨x,Qo rfl hx,y,Qo w1 hx0,Ite.mk (λe=>?_) (λe=>?_)⟩ (λ_ e=>⟨Qbn (by omega),e⟩))
  ·have e':x=y:=by simpa using e
   have hsame:cmI xs (i+1+1)=cmI xs (i+1):=Q7N (by omega) (by simp only [Nat.add_sub_cancel];rw [hx,hx0,e']);have hn2:Int.toNat ((xs.length:Int)-((i+1:Nat):Int))=xs.length-(i+1):=by omega
   simp only [hn2,Int.toNat_natCast];refine⟨⟨by omega,by omega,by omega⟩,Jn.mk (λ(t:List Int×Int)=>∃kk:Nat,t.2=(kk:Int)∧t.1.length=xs.length∧kk≤xs.length∧t.1.take kk=cmI xs xs.length)
    (Loop.inv (xs.length-(i+1)-1) (λj (t:List Int×Int×Int)=>t.2.2=((j+1:Nat):Int)∧∃kk:Nat,t.2.1=(kk:Int)∧t.1.length=xs.length∧kk≤i+1+j∧t.1.take kk=cmI xs (i+1+j+1)∧∀q,i+1+j≤q->t.1[q]?=xs[q]?)
     ⟨rfl,i+1,rfl,rfl,by omega,by rw [Nat.add_zero,hsame,hI],λq _=>rfl⟩ (λj t hj hJ=>?_) (λt hJ=>?_)) (λt hJ=>?_)⟩
   ·obtain⟨ys,kk',q⟩:=t;obtain⟨rfl,kk,rfl,hyl,hkk,htk,hsm⟩:=hJ;replace hyl:ys.length=xs.length:=hyl;replace htk:ys.take kk=cmI xs (i+1+j+1):=htk;replace hsm:∀q,i+1+j≤q->ys[q]?=xs[q]?:=hsm;have wj:w64 (((j+1:Nat):Int)-1)=(j:Int):=by rw [QcU (by omega) (by omega)];simp
    have wj1:w64 (((j+1:Nat):Int)+1)=((j+1+1:Nat):Int):=Qbn (by omega);have wk1:w64 ((kk:Int)+1)=((kk+1:Nat):Int):=Qbn (by omega);have ha:xs[i+1+j+1]?=some (xs[i+1+j+1]'(by omega)):=gE (by omega);have hb:xs[i+1+j]?=some (xs[i+1+j]'(by omega)):=gE (by omega);generalize xs[i+1+j+1]'(by omega)=a at ha;generalize xs[i+1+j]'(by omega)=b at hb;refine Ite.lt (by show ((j+1:Nat):Int)<_;omega) ?_;simp only [wj,wj1,wk1,Int.toNat_natCast];refine⟨⟨by omega,by omega⟩,a,by rw [show i+1+(j+1)=i+1+j+1 by omega,hsm _ (by omega)];exact ha,⟨by omega,by omega⟩,b,by rw [hsm _ (by omega)];exact hb,?_⟩;refine Jn.mk (λ(t:List Int×Int)=>∃kk:Nat,t.2=(kk:Int)∧t.1.length=xs.length∧kk≤i+1+(j+1)∧t.1.take kk=cmI xs (i+1+(j+1)+1)∧∀q,i+1+(j+1)≤q->t.1[q]?=xs[q]?) (Ite.mk (λe=>?_) (λe=>?_)) (λt h=>⟨by trivial,h⟩)
    ·have hab:¬a=b:=by simpa using e
     have hkl:kk<ys.length:=by omega
     refine⟨⟨by omega,by omega⟩,_,Qo rfl (gE hkl),kk+1,rfl,by simpa using hyl,by omega,?_,λq hq=>?_⟩
     ·show (ys.set kk a).take (kk+1)=_;rw [List.take_add_one,List.take_set_of_le (Nat.le_refl _),htk,List.getElem?_set,gF rfl,gF hkl];have:=Q71 ha (.inr (by simp only [Nat.add_sub_cancel];rw [ha,hb];simpa using hab));rw [show i+1+(j+1)+1=i+1+j+1+1 by omega,this];rfl
     ·show (ys.set kk a)[q]?=_;rw [List.getElem?_set_ne (by omega)];exact hsm q (by omega)
    ·have hab:a=b:=by simpa using e
     have:=Q7N (xs:=xs) (i:=i+1+j+1) (by omega) (by simp only [Nat.add_sub_cancel];rw [ha,hb,hab]);exact⟨kk,rfl,hyl,by omega,by rw [show i+1+(j+1)+1=i+1+j+1+1 by omega,this];exact htk,λq hq=>hsm q (by omega)⟩
   ·obtain⟨ys,kk',q⟩:=t;obtain⟨rfl,kk,rfl,hyl,hkk,htk,hsm⟩:=hJ;refine Ite.nlt (by show ¬((xs.length-(i+1)-1+1:Nat):Int)<_;omega) ⟨kk,rfl,hyl,by omega,?_⟩;rw [show i+1+(xs.length-(i+1)-1)+1=xs.length by omega] at htk;exact htk
   ·obtain⟨ys,kk'⟩:=t;obtain⟨kk,rfl,hyl,hkk,htk⟩:=hJ;replace hyl:ys.length=xs.length:=hyl;replace htk:ys.take kk=cmI xs xs.length:=htk;have hn3:Int.toNat ((ys.length:Int)-(kk:Int))=ys.length-kk:=by omega
    simp only [hn3,Int.toNat_natCast];refine⟨⟨by omega,by omega,by omega⟩,by omega,⟨by omega,by omega,?_⟩,?_⟩
    ·simp only [List.length_append,List.length_take,List.length_replicate,List.length_drop];omega
    ·have:sub (ys.take kk++(List.replicate (ys.length-kk) 0++ys.drop (kk+(ys.length-kk)))) 0 (kk:Int)=ys.take kk:=by
      simp only [sub,Int.toNat_natCast,Int.toNat_zero,List.drop_zero,Nat.sub_zero];rw [List.take_append_of_le_length (by simp;omega)];rw [List.take_of_length_le (by simp;omega)]
     rw [this,htk];exact hp
  ·have e':¬x=y:=by simpa using e
   show cmI xs (i+1+1)=xs.take (i+1+1);rw [Q71 hx (.inr (by simp only [Nat.add_sub_cancel];rw [hx,hx0];simpa using e')),List.take_add_one,hx,hI];rfl
 ·obtain⟨rfl,hI⟩:=hI;refine Ite.nlt (by omega) ?_;rw [show xs.length-1+1=xs.length by omega,List.take_length] at hI;exact all hI
def mvK(f:Qe)(c a:Int):Int:=if 1≤a∧a<7∧(nx f c (a-1)).2=true then (nx f c (a-1)).1 else c
def clK(f:Qe):Int->List Int->List Int
 | c,[]=>[c]
 | c,a :: r=>c :: clK f (mvK f c a) r
theorem Q3g(f:Qe)(c:Int)(l:List Int):clK f c l=c :: (clK f c l).tail:=by cases l <;> rfl
theorem Q9n(f:Qe):∀(l:List Int) (c:Int),(clK f c l).length=l.length+1
 | [],c=>rfl
 | a :: l,c=>by simp [clK,Q9n f l]
theorem Qdn{f:Qe}(h:RF f){c a:Int}(ka:I64 a):(if (nx f c (w64 (a-1))).2=true then (nx f c (w64 (a-1))).1 else c)=mvK f c a:=by
 unfold mvK;by_cases h1:1≤a∧a<7
 ·rw [K9 (by omega) (by omega)];simp [h1]
 ·have h2:(nx f c (w64 (a-1))).2=false:=by
   cases hh:(nx f c (w64 (a-1))).2
   ·rfl
   ·have:=Q4d h hh;exfalso;unfold I64 at ka;by_cases h3:a=-9223372036854775808
    ·subst h3;have e:w64 (-9223372036854775808-1)=9223372036854775807:=by decide
     rw [e] at this;omega
    ·rw [K9 (by omega) (by omega)] at this;omega
  rw [gC (by simp [h2]),gC (λe=>h1 ⟨e.1,e.2.1⟩)]
theorem Qap{f:Qe}(h:RF f){c a:Int}(hc:isC f c=true):isC f (mvK f c a)=true:=by
 unfold mvK;split
 ·rename_i e;exact (Q4d h e.2.2).2.1
 ·exact hc
theorem QaB{f:Qe}(h:RF f):∀(l:List Int) {c:Int},isC f c=true->∀x,x∈clK f c l->isC f x=true
 | [],c,hc,x,hx=>by simp [clK] at hx;subst hx;exact hc
 | a :: l,c,hc,x,hx=>by
  rcases List.mem_cons.1 hx with rfl | hx
  ·exact hc
  ·exact QaB h l (Qap h hc) x hx
theorem Q4o{s:Q5}{c:Int}{acts:List Int}(h:RF s.A9)(ha:acts.length≤1000000)(ka:∀x,x∈acts->I64 x){post:List Int->Prop}(hp:post (if isC s.A9 c=true then clK s.A9 c acts else [])):Yj s c acts post:=by
 unfold Yj;have hm:acts.length≤maxLen:=by simp [maxLen];omega
 refine Jor2 (Ite.mk (λh1=>?_) (λh1=>?_))
 ·have:isC s.A9 c=false:=by simp at h1;simp [isC];omega
  simp only [this] at hp;exact hp
 ·have hc:isC s.A9 c=true:=by simp at h1;simp [isC];omega
  simp only [hc,if_true] at hp;refine Jn.mk (λout=>out=clK s.A9 c acts) (Loop.inv acts.length (λi (t:Int×List Int×Int)=>t.2.2=(i:Int)∧t.2.1.length=i+1∧t.2.1++(clK s.A9 t.1 (acts.drop i)).tail=clK s.A9 c acts) ⟨rfl,rfl,(Q3g _ _ _).symm⟩ (λi t hi hI=>?_) (λt hI=>?_)) (λ_ e=>by subst e;exact hp)
  ·obtain⟨cur,out,j⟩:=t;obtain⟨e,hl,hI⟩:=hI;simp only at e hl hI;subst e;have hx:acts[i]?=some (acts[i]'hi):=gE hi;generalize hxe:acts[i]'hi=x at hx;have hd:acts.drop i=x :: acts.drop (i+1):=by rw [List.drop_eq_getElem_cons hi,hxe]
   refine Ite.lt (by simp only [];omega) ⟨x,Qo rfl hx,Ww h ?_⟩;have hw:=Qdn h (c:=cur) (ka x (gM hx));refine Jn.eq (mvK s.A9 cur x) (Ite.mk (λg=>?_) (λg=>?_)) ⟨by simp only [List.length_cons,List.length_nil];omega,Yy hi hm,by simp [hl],?_⟩
   ·rw [<-hw,gF g]
   ·rw [<-hw,gC (by simp [g])]
   ·rw [hd,clK] at hI;simp only [List.append_assoc,List.singleton_append];rw [<-Q3g];exact hI
  ·obtain⟨cur,out,j⟩:=t;obtain⟨e,hl,hI⟩:=hI;simp only at e hl hI;subst e;refine Ite.nlt (by simp) ?_;rw [List.drop_length] at hI;simpa [clK] using hI
def of2(a b:Int):List Int:=if a<b then [a,b] else if b<a then [b,a] else [a]
theorem Qdk(a b:Int):([a,b]:List Int).mergeSort (λx y=>decide (x≤y))=if a≤b then [a,b] else [b,a]:=by
 have h1:=List.pairwise_mergeSort (le:=λ(x y:Int)=>decide (x≤y)) (λx y z h1 h2=>by simp at h1 h2 ⊢;omega) (λx y=>by simp;omega) [a,b];have h2:=List.mergeSort_perm [a,b] (λ(x y:Int)=>decide (x≤y));generalize ([a,b]:List Int).mergeSort (λx y=>decide (x≤y))=l at h1 h2
 match l,h2.length_eq with
 | [u,v],_=>
  have hu:u=a∨u=b:=by simpa using h2.mem_iff.1 (show u∈[u,v] by simp)
  have h1':u≤v:=by simpa using h1
  rcases hu with rfl | rfl
  ·have hv:v=b:=by simpa using (List.Perm.cons_inv h2)
   subst hv;rw [gF h1']
  ·have hv:v=a:=by simpa using (List.Perm.cons_inv (h2.trans (List.Perm.swap _ _ _)))
   subst hv;split
   ·have:u=v:=by omega
    subst this;rfl
   ·rfl
theorem Q6D{a b:Int}(ha:0≤a∧a<4096)(hb:0≤b∧b<4096){post:List Int->Prop}(hp:post (of2 a b)):Z3 [a,b] post:=by
 unfold Z3;refine ZO (by simp) ?_;unfold Ke Kr;have hT:∀c,∀{q:Bool->Prop},q (!(decide (c≥0)&&decide (c<4096)))->Gm c q:=λc {q} hq=>by
  unfold Gm Yi;exact Q0K hq
 refine Z5 (by simp [maxLen]) (λc=>!(decide (c≥0)&&decide (c<4096))) (T:=λc q=>Gm c q) (λc _ q hq=>hT c hq) ?_;refine Q6I (by simp [maxLen]) 0 (λc=>!(decide (c≥0)&&decide (c<4096))) (T:=λc q=>Gm c q) (λc _ q hq=>hT c hq) (post:=λy=>Qz y _) ?_;unfold Qz;have hf:([a,b]:List Int).filter (λx=>!(!(decide (x≥0)&&decide (x<4096))))=[a,b]:=by
  simp [ha.1,ha.2,hb.1,hb.2]
 rw [hf,Qdk];refine⟨by simp,Q8d (by split <;> simp) ?_⟩;unfold of2 at hp;split
 ·rename_i h1;by_cases h2:a<b
  ·rw [gF h2] at hp;have:cmI [a,b] [a,b].length=[a,b]:=by simp [cmI,show b≠a by omega]
   rw [this];exact hp
  ·have h3:a=b:=by omega
   subst h3;rw [gC h2,gC h2] at hp;have:cmI [a,a] [a,a].length=[a]:=by simp [cmI]
   rw [this];exact hp
 ·rename_i h1;rw [gC (by omega),gF (by omega)] at hp;have:cmI [b,a] [b,a].length=[b,a]:=by simp [cmI,show a≠b by omega]
  rw [this];exact hp
theorem Q72{a b x:Int}:x∈of2 a b↔x=a∨x=b:=by
 unfold of2;split
 ·simp
 ·split
  ·simp [or_comm]
  ·have:a=b:=by omega
   subst this;simp
theorem QaO(a b:Int):(of2 a b).Pairwise (· < ·)∧(of2 a b).length≤2:=by
 unfold of2;split
 ·simp;omega
 ·split
  ·simp;omega
  ·simp
def Zm(s:Q5)(c:Int)(acts:List Int)(k:Nat):List Int:=
 if isC s.A9 c=true then
  match acts[k]? with
  | some a=>if 1≤a∧a<7∧(nx s.A9 ((clK s.A9 c acts).getD k 0) (a-1)).2=true then of2 ((clK s.A9 c acts).getD k 0) (nx s.A9 ((clK s.A9 c acts).getD k 0) (a-1)).1 else [(clK s.A9 c acts).getD k 0]
  | none=>[(clK s.A9 c acts).getD acts.length 0]
 else []
theorem Q6H(s:Q5)(c:Int)(acts:List Int)(k:Nat):(Zm s c acts k).Pairwise (· < ·)∧(Zm s c acts k).length≤2:=by
 unfold Zm;split
 ·split
  ·split
   ·exact QaO _ _
   ·simp
  ·simp
 ·simp
theorem Q2F{s:Q5}{c:Int}{acts:List Int}{k:Nat}(h:RF s.A9)(h60:s.A9.Ac.length≤100)(ha:acts.length≤1000)(ka:∀x,x∈acts->I64 x)(hk:k≤1000){post:List Int->Prop}(hp:post (Zm s c acts k)):WF s c acts (k:Int) post:=by
 unfold WF;refine Q4o h (by omega) ka ?_;unfold Zm at hp;by_cases hc:isC s.A9 c=true
 ·rw [gF hc] at hp ⊢;have hlen:=Q9n s.A9 acts c;refine Jn.mk (λb=>b=false) (Ite.f (by rw [hlen];simp;omega) (decide_eq_false (by omega))) (λb e=>Ite.f e ?_);have hw:w64 (((clK s.A9 c acts).length:Int)-1)=(acts.length:Int):=by rw [hlen,kw (by omega) (by omega)];omega
  have hmin:imin (k:Int) (w64 (((clK s.A9 c acts).length:Int)-1))=((min k acts.length:Nat):Int):=by
   rw [hw];simp only [imin];split <;> omega
  have hx:(clK s.A9 c acts)[min k acts.length]?=some ((clK s.A9 c acts).getD (min k acts.length) 0):=by
   rw [gD,gE (by omega)];rfl
  have hxc:=QaB h acts hc _ (gM hx);refine⟨_,Qo hmin hx,?_⟩;cases hak:acts[k]? with
  | none=>
   have hkl:acts.length≤k:=by simpa using hak
   rw [hak] at hp;simp only at hp;rw [show min k acts.length=acts.length by omega] at hx ⊢;refine Jn.mk (λb=>b=false) (Ite.f (decide_eq_false (by omega)) rfl) (λb e=>Jn.mk (λ_=>True) (Ite.f e trivial) (λ_ _=>hp))
  | some a=>
   have hkl:k<acts.length:=(gS.1 hak).1;rw [hak] at hp;simp only at hp;rw [show min k acts.length=k by omega] at hx hxc ⊢;generalize (clK s.A9 c acts).getD k 0=q at *;refine Jn.eq (decide (a≥1)&&decide (a<7)) (Ite.t (decide_eq_true (by omega)) ⟨a,Qo rfl hak,Ite.mk (λe=>by rw [e];rfl) (λe=>by rw [e];rfl)⟩) (Jn.mk (λ_=>¬(1≤a∧a<7∧(nx s.A9 q (a-1)).2=true)) (Ite.mk (λe=>⟨a,Qo rfl hak,?_⟩) (λe=>?_)) (λ_ hn=>?_))
   ·simp only [gP,decide_eq_true_eq] at e;rw [kw (by omega) (by omega)];refine Ww h (Ite.mk (λe2=>?_) (λe2=>?_))
    ·have hnx:=Q4d h e2;rw [gF ⟨e.1,e.2,e2⟩] at hp;have g1:=XO.1 hxc;have g2:=XO.1 hnx.2.1;exact Q6D ⟨g1.1,by omega⟩ ⟨g2.1,by omega⟩ hp
    ·rw [e2];simp
   ·rintro⟨h1,h2,h3⟩;simp at e;have:=e h1;omega
   ·rw [gC hn] at hp;exact hp
 ·rw [gC hc] at hp ⊢;exact Jn.mk (λb=>b=true) (Ite.t rfl rfl) (λb e=>Ite.t e hp)
theorem Qbc{f:Qe}(hf:RF f){c d:Int}(hc:isC f c=true):nbr f c d≠c:=by
 intro h;have hb:=p_bd hf hc;have hk:=XO.1 hc;have key:∀{x y z:Int},(x≠pX f c∨y≠pY f c∨z≠pZ f c)->Wi f x y z=c->False:=by
  intro x y z hne e;unfold Wi at e;by_cases hin:0≤x∧x<f.W∧0≤y∧y<f.H∧0≤z∧z<f.D
  ·have:=Q9L hf hin;unfold Wi at this;rw [e] at this;obtain⟨h1,h2,h3⟩:=this;rcases hne with g | g | g
   ·exact g h1.symm
   ·exact g h2.symm
   ·exact g h3.symm
  ·rw [gC hin] at e;omega
 unfold nbr at h;rw [gC (by rw [hc];simp)] at h;split at h
 ·exact key (.inl (by omega)) h
 split at h
 ·exact key (.inr (.inl (by omega))) h
 split at h
 ·exact key (.inl (by omega)) h
 split at h
 ·exact key (.inr (.inl (by omega))) h
 split at h
 ·exact key (.inr (.inr (by omega))) h
 split at h
 ·exact key (.inr (.inr (by omega))) h
 ·omega
theorem QcF{f:Qe}(hf:RF f){c d:Int}(h:(nx f c d).2=true):(nx f c d).1≠c:=by
 have hc:=(Q4d hf h).1;have:=Qbc hf hc (d:=d);unfold nx at h ⊢;split
 ·rename_i h1;rw [gF h1] at h;cases h
 ·rename_i h1;rw [gC h1] at h;split
  ·rename_i h2;rw [gF h2] at h;cases h
  ·exact this
theorem lowK{f:Qe}(hf:RF f){c:Int}(h:isC f c=true):low c=2*c:=by
 have h1:=XO.1 h;have h2:=hf.len.1;unfold low;exact K9 (by omega) (by omega)
def f0K:Kk:=⟨0,0,0⟩
def mkR(q:Int×Int×Int):Q2:=⟨q.1,-1,q.2.2,q.2.1,0,false⟩
def flS(t:Int)(qs:List (Int×Int×Int)):Q7:=⟨t,[],qs.map mkR,[],[],[]⟩
def doQ(s:Q5)(t:Int)(q:Int×Int×Int)(a:Int):Int×Int×Int:=(mvK s.A9 q.1 a,if a=0 then q.2.1 else spd s (mvK s.A9 q.1 a)-1,q.2.2-cst t a false)
section
variable {s:Q5} {avoid:List Int} {t:Int}
theorem Q7b{qs:List (Int×Int×Int)}{i:Nat}{q:Int×Int×Int}(h:qs[i]?=some q):(flS t qs).Ak[i]?=some (mkR q):=by
 show (qs.map mkR)[i]?=_;rw [gK,h];rfl
theorem Q73(qs:List (Int×Int×Int)):allS (flS t qs)=qs.map (λq=>low q.1):=by
 unfold allS;have e:(List.range (flS t qs).Ak.length).flatMap (λi=>slR ((flS t qs).Ak.getD i default))=qs.map (λq=>low q.1):=by
  rw [List.flatMap_def,Q41 (λr=>slR r)];show ((qs.map mkR).map slR).flatten=_;rw [List.map_map];have:(slR ∘ mkR)=λq=>[low q.1]:=by funext q;simp [slR,mkR]
  rw [this];induction qs with
  | nil=>rfl
  | cons q r ih=>simp [ih]
 rw [e];show _++(List.range 0).flatMap _++(List.range 0).flatMap _=_;simp
theorem Q2E{q:Int×Int}{a:Int}(h0:a≠0)(ha:0≤a∧a<7)(he:(Ya s [] avoid t q a).2=0):q.2≤0∧(nx s.A9 q.1 (a-1)).2=true∧opn s (nx s.A9 q.1 (a-1)).1 t=true∧mvK s.A9 q.1 a=(nx s.A9 q.1 (a-1)).1∧(Ya s [] avoid t q a).1=(mvK s.A9 q.1 a,spd s (mvK s.A9 q.1 a)-1):=by
 unfold Ya at he ⊢;rw [gC h0] at he ⊢;split at he
 ·cases he
 rename_i hre;split at he
 ·cases he
 rename_i h1;split at he
 ·cases he
 rename_i h2;split at he
 ·cases he
 rename_i h3;simp only [not_or,Bool.not_eq_false,Bool.not_eq_true] at h1;have hm:mvK s.A9 q.1 a=(nx s.A9 q.1 (a-1)).1:=by unfold mvK;rw [gF ⟨by omega,ha.2,h1.1⟩]
 rw [gC hre,gC (by simp only [not_or,Bool.not_eq_false,Bool.not_eq_true];exact h1),gC h2,gC h3];exact⟨by omega,h1.1,by simpa using h2,hm,by rw [hm]⟩
theorem QaI{q:Int×Int}(he:(Ya s [] avoid t q 0).2=0):(Ya s [] avoid t q 0).1=(q.1,imax (q.2-1) 0):=by
 unfold Ya at he ⊢;rw [gF rfl] at he ⊢;split at he
 ·cases he
 ·rename_i h;rw [gC h]
theorem Q9R(f:Qe)(c:Int):mvK f c 0=c:=by unfold mvK;rw [gC (by omega)]
theorem aftK{ch a:Int}{l:Bool}(hc:21≤ch∧ch≤1000000)(ha:0≤a∧a<7):aft t ch a l=(ch-cst t a l,0):=by
 have:=Q4S t a l;unfold aft;rw [gC (by omega),gC (by omega),gC (by omega)]
theorem Qd9(hf:RF s.A9){ps:List (Int×Int×Int)}(hp:∀p,p∈ps->isC s.A9 p.1=true){q:Int×Int×Int}{a:Int}(hc:21≤q.2.2∧q.2.2≤1000000)(ha:0≤a∧a<7)(he:(Ya s [] avoid t (q.1,q.2.1) a).2=0)(hn:a≠0->∀p,p∈ps->p.1≠mvK s.A9 q.1 a):legR s (flS t ps) (mkR q) a=0:=by
 unfold legR;rw [gC (by omega)];by_cases h0:a=0
 ·rw [gF h0]
 obtain⟨e1,e2,e3,e4,_⟩:=Q2E h0 ha he;simp only at e1 e2 e3 e4;have hm:mvB a=true:=Yo.2 (by omega);have hdec:decide ((-1:Int)≥0)=false:=by decide
 rw [gC h0,gC (by simp [mkR]),gC (by simp [mkR];omega)];rw [gC (by show ¬(aft t q.2.2 a _).2=16;rw [aftK hc ha];simp),gF hm];unfold movS;show (if (!(nx s.A9 q.1 (a-1)).2||([]:List Int).contains (nx s.A9 q.1 (a-1)).1)=true then (14:Int) else _)=0;rw [gC (by rw [e2];simp)];rw [gC (by show ¬((a-1 == 4||a-1 == 5)&&false)=true;simp)];rw [gC (by show ¬opn s (nx s.A9 q.1 (a-1)).1 t=false;rw [e3];simp)];rw [gC];show ¬((allS (flS t ps)).contains (low (nx s.A9 q.1 (a-1)).1)||(decide ((-1:Int)≥0)&&_))=true;rw [hdec,Q73];simp only [Bool.false_and,Bool.or_false,List.contains_iff_mem,List.mem_map];rintro⟨p,hpm,hpe⟩;have hx:=Q4d hf e2;rw [lowK hf hx.2.1,lowK hf (hp p hpm)] at hpe;exact hn h0 p hpm (by rw [e4];omega)
theorem do_q{ps:List (Int×Int×Int)}{i:Nat}{q:Int×Int×Int}{a:Int}(hc:21≤q.2.2∧q.2.2≤1000000)(ha:0≤a∧a<7)(he:(Ya s [] avoid t (q.1,q.2.1) a).2=0):doR s (flS t ps) i (mkR q) a=flS t (ps.set i (doQ s t q a)):=by
 have hdec:decide ((-1:Int)≥0)=false:=by decide
 have hchg:chg (flS t ps) (mkR q) a=q.2.2-cst t a false:=by
  unfold chg;show (if (aft t q.2.2 a (decide ((-1:Int)≥0))).2=0 then (aft t q.2.2 a (decide ((-1:Int)≥0))).1 else 0)=_;rw [hdec,aftK hc ha];rfl
 have hlod:lod (flS t ps) (mkR q) a=-1:=by unfold lod;rw [gC (by omega),gC (by omega)];rfl
 unfold doR;rw [gC (by simp [mkR])];unfold nwR nwS;rw [hchg,hlod];by_cases h0:a=0
 ·subst h0;have hb:mvB 0=false:=rfl;simp only [hb,Bool.false_and];unfold flS;rw [List.map_set];simp only [Bool.false_eq_true,if_false,false_and];unfold doQ mkR;rw [Q9R];rfl
 ·obtain⟨e1,e2,e3,e4,_⟩:=Q2E h0 ha he;simp only at e1 e2 e3 e4;have hm:mvB a=true:=Yo.2 (by omega);have e5:(nx s.A9 (mkR q).A4 (a-1)).2=true:=e2;have k1:¬((mvB a&&(nx s.A9 (mkR q).A4 (a-1)).2)=true∧(0:Int)≤-1):=λh=>by have:=h.2;omega
  rw [gC k1,gF (by rw [hm,e5];rfl)];unfold flS;rw [List.map_set];unfold doQ mkR;rw [gC h0,e4]
structure FlT (s:Q5) (avoid:List Int) (t:Int) (qs:List (Int×Int×Int)) (acts:List Int):Prop where
 len:acts.length=qs.length
 q:∀(i:Nat) q,qs[i]?=some q->isC s.A9 q.1=true∧21≤q.2.2∧q.2.2≤1000000
 a:∀(i:Nat) q,qs[i]?=some q->(0≤acts.getD i 0∧acts.getD i 0<7)∧(Ya s [] avoid t (q.1,q.2.1) (acts.getD i 0)).2=0
 d:∀(i j:Nat) q p,i≠j->qs[i]?=some q->qs[j]?=some p->q.1≠mvK s.A9 p.1 (acts.getD j 0)∧mvK s.A9 q.1 (acts.getD i 0)≠mvK s.A9 p.1 (acts.getD j 0)
variable {qs:List (Int×Int×Int)} {acts:List Int}
theorem FlT.cell(hf:RF s.A9)(h:FlT s avoid t qs acts){i:Nat}{q:Int×Int×Int}(hq:qs[i]?=some q):isC s.A9 (mvK s.A9 q.1 (acts.getD i 0))=true:=by
 unfold mvK;split
 ·rename_i hc;exact (Q4d hf hc.2.2).2.1
 ·exact (h.q i q hq).1
theorem FlT.ne(hf:RF s.A9)(h:FlT s avoid t qs acts){i:Nat}{q:Int×Int×Int}(hq:qs[i]?=some q)(h0:acts.getD i 0≠0):q.1≠mvK s.A9 q.1 (acts.getD i 0):=by
 obtain⟨g1,g2⟩:=h.a i q hq;obtain⟨e1,e2,e3,e4,_⟩:=Q2E h0 g1 g2;simp only at e1 e2 e3 e4;rw [e4];exact (QcF hf e2).symm
def gQ(s:Q5)(t:Int)(qs:List (Int×Int×Int))(acts:List Int)(j:Nat):Int×Int×Int:=doQ s t (qs.getD j default) (acts.getD j 0)
theorem Qaj{j:Nat}{q:Int×Int×Int}(h:qs[j]?=some q):gQ s t qs acts j=doQ s t q (acts.getD j 0):=by unfold gQ;rw [gD,h];rfl
theorem Q8u{i:Nat}{p:Int×Int×Int}(hp:p∈mset (gQ s t qs acts) qs i)(hi:i≤qs.length):∃j q,qs[j]?=some q∧((j<i∧p=doQ s t q (acts.getD j 0))∨(i≤j∧p=q)):=by
 unfold mset at hp;rcases List.mem_append.1 hp with hp | hp
 ·obtain⟨j,hj,rfl⟩:=List.mem_map.1 hp;have hj:=List.mem_range.1 hj;have hq:=gE (show j<qs.length by omega);exact⟨j,_,hq,.inl ⟨hj,Qaj hq⟩⟩
 ·obtain⟨k,hk⟩:=gO hp;rw [List.getElem?_drop] at hk;exact⟨i+k,p,hk,.inr ⟨by omega,rfl⟩⟩
theorem FlT.leg(hf:RF s.A9)(h:FlT s avoid t qs acts){i k:Nat}(hi:i≤k){q:Int×Int×Int}(hq:qs[k]?=some q):legS s (flS t (mset (gQ s t qs acts) qs i)) (k:Nat) (acts.getD k 0)=0:=by
 have hlt:=(gS.1 hq).1;have hg:(mset (gQ s t qs acts) qs i)[k]?=some q:=by
  unfold mset;rw [gR (by simp;omega),List.getElem?_drop];simp;rw [show i+(k-i)=k by omega];exact hq
 rw [Q8W rfl (Q7b hg)];obtain⟨g1,g2⟩:=h.a k q hq;refine Qd9 hf (λp hp=>?_) (h.q k q hq).2 g1 g2 (λh0 p hp=>?_)
 ·obtain⟨j,q',hj,⟨_,rfl⟩ | ⟨_,rfl⟩⟩:=Q8u hp (by omega)
  ·exact h.cell hf hj
  ·exact (h.q j _ hj).1
 ·obtain⟨j,q',hj,⟨hji,rfl⟩ | ⟨hji,rfl⟩⟩:=Q8u hp (by omega)
  ·exact (h.d j k q' q (by omega) hj hq).2
  ·by_cases e:j=k
   ·subst e;rw [hq] at hj;cases hj;exact h.ne hf hq h0
   ·exact (h.d j k _ q e hj hq).1
theorem FlT.dod(h:FlT s avoid t qs acts){i:Nat}(hi:i<qs.length):doS s (flS t (mset (gQ s t qs acts) qs i)) (i:Nat) (acts.getD i 0)=flS t (mset (gQ s t qs acts) qs (i+1)):=by
 have hq:=gE hi;generalize qs[i]=q at hq;have hg:(mset (gQ s t qs acts) qs i)[i]?=some q:=by
  unfold mset;rw [gR (by simp),List.getElem?_drop];simp;exact hq
 rw [Qav rfl (Q7b hg)];obtain⟨g1,g2⟩:=h.a i q hq;rw [do_q (h.q i q hq).2 g1 g2,<-Q3c (gQ s t qs acts) hi,Qaj hq]
theorem FlT.seq(hf:RF s.A9)(h:FlT s avoid t qs acts):∀(k i:Nat),i+k=qs.length->seqB s acts k i (flS t (mset (gQ s t qs acts) qs i))=0
 | 0,i,_=>rfl
 | k+1,i,hi=>by
  have hlt:i<qs.length:=by omega
  unfold seqB;rw [gF (h.leg hf (Nat.le_refl i) (gE hlt)),h.dod hlt];exact h.seq hf k (i+1) (by omega)
theorem FlT.run(hf:RF s.A9)(h:FlT s avoid t qs acts):∀(k i:Nat),i+k=qs.length->runS s acts k i (flS t (mset (gQ s t qs acts) qs i))=flS t (mset (gQ s t qs acts) qs qs.length)
 | 0,i,hi=>by rw [show i=qs.length by omega];rfl
 | k+1,i,hi=>by
  have hlt:i<qs.length:=by omega
  unfold runS doA;rw [gF (h.leg hf (Nat.le_refl i) (gE hlt)),h.dod hlt];exact h.run hf k (i+1) (by omega)
theorem fstK{u:Q7}{acts:List Int}:∀(k i:Nat),(∀j,i≤j->j<i+k->legS s u (j:Nat) (acts.getD j 0)=0)->fstB s u acts k i=0
 | 0,_,_=>rfl
 | k+1,i,h=>by
  unfold fstB;rw [gF (h i (by omega) (by omega))];exact fstK k (i+1) (λj h1 h2=>h j (by omega) (by omega))
theorem FlT.mvs(hf:RF s.A9)(h:FlT s avoid t qs acts){i:Nat}{q:Int×Int×Int}(hq:qs[i]?=some q):mvS s.A9 (flS t qs) acts i=if acts.getD i 0=0 then [] else [2*mvK s.A9 q.1 (acts.getD i 0)]:=by
 have hr:(flS t qs).Ak.getD i default=mkR q:=Zh (Q7b hq);obtain⟨g1,g2⟩:=h.a i q hq;unfold mvS;rw [hr];by_cases h0:acts.getD i 0=0
 ·rw [gF h0,h0,gF (by rfl)]
 ·obtain⟨e1,e2,e3,e4,_⟩:=Q2E h0 g1 g2;simp only at e1 e2 e3 e4;have hm:mvB (acts.getD i 0)=true:=Yo.2 (by omega);rw [gC h0,gC (by rw [hm];simp [mkR])];rw [gF (show (nx s.A9 (mkR q).A4 (acts.getD i 0-1)).2=true from e2)];show slAt (mkR q) (nx s.A9 q.1 (acts.getD i 0-1)).1=_;unfold slAt;rw [gC (by simp [mkR]),<-e4,lowK hf (h.cell hf hq)]
theorem FlT.mem(hf:RF s.A9)(h:FlT s avoid t qs acts){m:Nat}(hm:m≤qs.length){x:Int}(hx:x∈(List.range m).flatMap (mvS s.A9 (flS t qs) acts)):∃j q,j<m∧qs[j]?=some q∧acts.getD j 0≠0∧x=2*mvK s.A9 q.1 (acts.getD j 0):=by
 obtain⟨j,hj,hx⟩:=List.mem_flatMap.1 hx;have hj:=List.mem_range.1 hj;have hq:=gE (show j<qs.length by omega);rw [h.mvs hf hq] at hx;by_cases h0:acts.getD j 0=0
 ·rw [gF h0] at hx;cases hx
 ·rw [gC h0] at hx;exact⟨j,_,hj,hq,h0,by simpa using hx⟩
theorem FlT.nod(hf:RF s.A9)(h:FlT s avoid t qs acts)(hn:(allS (flS t qs)).Nodup):(movL s.A9 (flS t qs) acts).Nodup:=by
 have hfl:∀m,m≤qs.length->((List.range m).flatMap (mvS s.A9 (flS t qs) acts)).Nodup:=by
  intro m;induction m with
  | zero=>intro _;simp
  | succ m ih=>
   intro hm;have hq:=gE (show m<qs.length by omega);rw [Q3G,List.nodup_append];refine⟨ih (by omega),?_,λa ha b hb=>?_⟩
   ·rw [h.mvs hf hq];split <;> simp
   ·obtain⟨j,q,hj,hqj,h0,rfl⟩:=h.mem hf (by omega) ha;rw [h.mvs hf hq] at hb;by_cases h1:acts.getD m 0=0
    ·rw [gF h1] at hb;cases hb
    ·rw [gC h1] at hb;simp only [List.mem_singleton] at hb;have:=(h.d j m q _ (by omega) hqj hq).2;rw [hb];omega
 have hl:(flS t qs).Ak.length=qs.length:=by show (qs.map mkR).length=_;simp
 unfold movL;rw [hl,List.nodup_append];refine⟨hn,hfl _ (Nat.le_refl _),λa ha b hb=>?_⟩;obtain⟨j,q,hj,hqj,h0,rfl⟩:=h.mem hf (Nat.le_refl _) hb;rw [Q73] at ha;obtain⟨p,hp,rfl⟩:=List.mem_map.1 ha;obtain⟨i,hi⟩:=gO hp;rw [lowK hf (h.q i p hi).1];by_cases e:i=j
 ·subst e;rw [hqj] at hi;cases hi;have:=h.ne hf hqj h0;omega
 ·have:=(h.d i j p q e hi hqj).1;omega
theorem FlT.chk(hf:RF s.A9)(h:FlT s avoid t qs acts)(hn:(allS (flS t qs)).Nodup)(ht:t<20000):chkS s (flS t qs) acts=0:=by
 have hl:(flS t qs).Ak.length=qs.length:=by show (qs.map mkR).length=_;simp
 have e0:mset (gQ s t qs acts) qs 0=qs:=Q6E _ _;have hfst:fstB s (flS t qs) acts acts.length 0=0:=fstK _ _ (λj _ hj=>by
  have:=h.len;have:=h.leg hf (i:=0) (Nat.zero_le j) (gE (show j<qs.length by omega));rw [e0] at this;exact this)
 have hseq:=h.seq hf qs.length 0 (by omega);rw [e0] at hseq;unfold chkS;rw [gC (by show ¬t≥20000;omega),gC (by rw [hl,h.len];simp),gC (by rw [hfst];simp),gC (by simpa using h.nod hf hn),h.len];exact hseq
theorem Qdl{u:Q7}:Yu s u f0K=u:=by
 unfold Yu;split
 ·rfl
 ·simp [f0K]
theorem Qdo{u:Q7}:Gv s u f0K=true:=by unfold Gv;rfl
theorem FlT.Bh(hf:RF s.A9)(h:FlT s avoid t qs acts)(hn:(allS (flS t qs)).Nodup)(ht:t<20000):
  ∃qs',tickS s (flS t qs) acts f0K=flS (t+1) qs'∧Qad s (flS t qs) acts f0K=(flS (t+1) qs',0)∧qs'.length=qs.length ∧
   ∀(i:Nat) q,qs[i]?=some q->∃q',qs'[i]?=some q'∧(q'.1,q'.2.1)=(Ya s [] avoid t (q.1,q.2.1) (acts.getD i 0)).1∧q.2.2-21≤q'.2.2∧q'.2.2≤q.2.2:=by
 have e0:mset (gQ s t qs acts) qs 0=qs:=Q6E _ _;have hrun:=h.run hf qs.length 0 (by omega);rw [e0,Q38] at hrun
 let fin:=λ(i:Nat)=>let q:=qs.getD i default;let p:=gQ s t qs acts i;((p.1,(if p.1=q.1 then imax (p.2.1-1) 0 else p.2.1),p.2.2):Int×Int×Int)
 have htk:tickS s (flS t qs) acts f0K=flS (t+1) ((List.range qs.length).map fin):=by
  unfold tickS;rw [Qdl,h.len,hrun];unfold Q6W;show ({Ar:=t+1,Al:=[],Ak:=(List.range (((List.range qs.length).map (gQ s t qs acts)).map mkR).length).map (λi=>endR ((qs.map mkR).getD i default) ((((List.range qs.length).map (gQ s t qs acts)).map mkR).getD i default)),Ai:=[],A8:=[],Aq:=[]}:Q7)=_;unfold flS;congr 1;simp only [List.map_map,List.length_map,List.length_range];apply List.map_congr_left;intro i hi;have hi:=List.mem_range.1 hi;have hq:=gE hi;generalize qs[i]=q at hq;have g1:(qs.map mkR).getD i default=mkR q:=by rw [gD,gK,hq];rfl
  have g2:((List.range qs.length).map (mkR ∘ gQ s t qs acts)).getD i default=mkR (gQ s t qs acts i):=by
   rw [gD,gK,List.getElem?_range hi];rfl
  have g3:qs.getD i default=q:=by rw [gD,hq];rfl
  rw [g1,g2];show _=mkR (fin i);simp only [fin,g3];rfl
 refine⟨_,htk,?_,by simp,λi q hq=>?_⟩
 ·unfold Qad;rw [gC (by simpa using h.chk hf hn ht),gC (by rw [Qdo];simp),htk]
 ·have hi:=(gS.1 hq).1;have g3:qs.getD i default=q:=by rw [gD,hq];rfl
  refine⟨fin i,by rw [gK,List.getElem?_range hi];rfl,?_,?_⟩
  ·obtain⟨g1,g2⟩:=h.a i q hq;simp only [fin,g3,Qaj hq,doQ];by_cases h0:acts.getD i 0=0
   ·rw [h0] at g2 ⊢;rw [QaI g2,Q9R,gF rfl,gF rfl]
   ·have hne:=h.ne hf hq h0;rw [gC (λe=>hne e.symm),gC h0];exact (Q2E h0 g1 g2).2.2.2.2.symm
  ·have:=Q4S t (acts.getD i 0) false;simp only [fin,g3,Qaj hq,doQ];omega
end
def mg:List Int->List Int->List (Int×KI)
 | [],[]=>[]
 | x :: a,[]=>(x,⟨true,false⟩) :: mg a []
 | [],y :: b=>(y,⟨false,true⟩) :: mg [] b
 | x :: a,y :: b=>if x<y then (x,⟨true,false⟩) :: mg a (y :: b) else if y<x then (y,⟨false,true⟩) :: mg (x :: a) b else (y,⟨true,true⟩) :: mg a b
termination_by a b=>a.length+b.length
theorem Q4G{x:Int}{a:List Int}:sub (x :: a) 1 (((x :: a).length:Nat):Int)=a:=by
 unfold sub;have:(((x :: a).length:Nat):Int).toNat-(1:Int).toNat=a.length:=by simp
 rw [show (1:Int).toNat=1 from rfl] at this ⊢;simp
theorem Qal{a0 b0:List Int}(ha:a0.length≤1000)(hb:b0.length≤1000){post:Option (List (Int×KI))->Prop}(h0:post none)(h1:post (some [])):KY a0 b0 (some (mg a0 b0)) post:=by
 unfold KY;refine Jn.mk (λ(r:List Int×List Int×Option (List (Int×KI)))=>r.2.2=some []) (Loop.mk (λ(t:List Int×List Int×Option (List (Int×KI)))=>t.1.length≤1000∧t.2.1.length≤1000∧t.2.2=some (mg t.1 t.2.1)) (λt=>t.1.length+t.2.1.length) ⟨ha,hb,rfl⟩ (λt hI=>?_)) (λr e=>?_)
 ·obtain⟨a,b,oy⟩:=t;obtain⟨g1,g2,g3⟩:=hI;simp only at g1 g2 g3;subst g3;dsimp only;have hw:w64 ((a.length:Int)+(b.length:Int))=(a.length:Int)+b.length:=kw (by omega) (by omega);rw [hw]
  match a,b with
  | [],[]=>
   refine Ite.f (by decide) ?_;show some (mg [] [])=some [];rw [mg]
  | x :: a,[]=>
   refine Ite.t (decide_eq_true (by simp <;> omega)) ?_;refine Jn.mk (λq=>q=true) (Ite.t (by simp) rfl) (λq e=>?_);subst e;refine Jn.mk (λq=>q=false) (Ite.f (by simp <;> omega) (Ite.f (by simp) rfl)) (λq e=>?_);subst e;refine Jn.mk (λq=>q=(a,x)) (Ite.t rfl ⟨x,rfl,⟨by omega,by simp <;> omega,by omega⟩,by rw [Q4G]⟩) (λq e=>?_);subst e;refine Jn.mk (λq=>q=([],x)) (Ite.f rfl rfl) (λq e=>?_);subst e;rw [mg];exact⟨_,rfl,Ite.f rfl ⟨⟨by simp at g1;show a.length≤1000;omega,by simp,rfl⟩,by simp⟩,Ite.t rfl h0⟩
  | [],y :: b=>
   refine Ite.t (decide_eq_true (by simp <;> omega)) ?_;refine Jn.mk (λq=>q=false) (Ite.f (by simp <;> omega) (Ite.f (by simp) rfl)) (λq e=>?_);subst e;refine Jn.mk (λq=>q=true) (Ite.t (by simp) rfl) (λq e=>?_);subst e;refine Jn.mk (λq=>q=([],0)) (Ite.f rfl rfl) (λq e=>?_);subst e;refine Jn.mk (λq=>q=(b,y)) (Ite.t rfl ⟨y,rfl,⟨by omega,by simp <;> omega,by omega⟩,by rw [Q4G]⟩) (λq e=>?_);subst e;rw [mg];exact⟨_,rfl,Ite.f rfl ⟨⟨by simp,by simp at g2;show b.length≤1000;omega,rfl⟩,by simp⟩,Ite.t rfl h0⟩
  | x :: a,y :: b=>
   refine Ite.t (decide_eq_true (by simp <;> omega)) ?_;refine Jn.mk (λq=>q=decide (x≤y)) (Ite.f (by simp <;> omega) (Ite.t (by simp <;> omega) ⟨x,rfl,y,rfl,rfl⟩)) (λq e=>?_);subst e;refine Jn.mk (λq=>q=decide (y≤x)) (Ite.f (by simp <;> omega) (Ite.t (by simp <;> omega) ⟨y,rfl,x,rfl,rfl⟩)) (λq e=>?_);subst e;simp only [List.length_cons] at g1 g2;rcases Int.lt_trichotomy x y with h | h | h
   ·have e1:decide (x≤y)=true:=decide_eq_true (by omega);have e2:decide (y≤x)=false:=decide_eq_false (by omega);rw [e1,e2];refine Jn.mk (λq=>q=(a,x)) (Ite.t rfl ⟨x,rfl,⟨by omega,by simp <;> omega,by omega⟩,by rw [Q4G]⟩) (λq e=>?_);subst e;refine Jn.mk (λq=>q=(y :: b,x)) (Ite.f rfl rfl) (λq e=>?_);subst e;rw [mg,gF h];exact⟨_,rfl,Ite.f rfl ⟨⟨by show a.length≤1000;omega,by simp <;> omega,rfl⟩,by simp <;> omega⟩,Ite.t rfl h0⟩
   ·have e1:decide (x≤y)=true:=decide_eq_true (by omega);have e2:decide (y≤x)=true:=decide_eq_true (by omega);rw [e1,e2];refine Jn.mk (λq=>q=(a,x)) (Ite.t rfl ⟨x,rfl,⟨by omega,by simp <;> omega,by omega⟩,by rw [Q4G]⟩) (λq e=>?_);subst e;refine Jn.mk (λq=>q=(b,y)) (Ite.t rfl ⟨y,rfl,⟨by omega,by simp <;> omega,by omega⟩,by rw [Q4G]⟩) (λq e=>?_);subst e;rw [mg,gC (by omega),gC (by omega)];exact⟨_,rfl,Ite.f rfl ⟨⟨by show a.length≤1000;omega,by show b.length≤1000;omega,rfl⟩,by simp <;> omega⟩,Ite.t rfl h0⟩
   ·have e1:decide (x≤y)=false:=decide_eq_false (by omega);have e2:decide (y≤x)=true:=decide_eq_true (by omega);rw [e1,e2];refine Jn.mk (λq=>q=(x :: a,0)) (Ite.f rfl rfl) (λq e=>?_);subst e;refine Jn.mk (λq=>q=(b,y)) (Ite.t rfl ⟨y,rfl,⟨by omega,by simp <;> omega,by omega⟩,by rw [Q4G]⟩) (λq e=>?_);subst e;rw [mg,gC (by omega),gF h];exact⟨_,rfl,Ite.f rfl ⟨⟨by simp <;> omega,by show b.length≤1000;omega,rfl⟩,by simp <;> omega⟩,Ite.t rfl h0⟩
 ·rw [e];exact h1
theorem Qc4(a b:List Int):(mg a b).length≤a.length+b.length:=by
 induction a,b using mg.induct <;> rw [mg] <;> (try simp only [*,if_true,if_false]) <;> simp_all <;> omega
theorem Qbv(a b:List Int):a.Pairwise (· < ·)->b.Pairwise (· < ·)->((∃p,p∈mg a b∧(p.2.e0&&p.2.e1)=true)↔∃x,x∈a∧x∈b):=by
 induction a,b using mg.induct with
 | case1=>intro _ _;rw [mg];simp
 | case2 x a ih=>
  intro h1 h2;rw [mg];have:=ih (List.pairwise_cons.1 h1).2 h2;simpa using this
 | case3 y b ih=>
  intro h1 h2;rw [mg];have:=ih h1 (List.pairwise_cons.1 h2).2;simpa using this
 | case4 x a y b h ih=>
  intro h1 h2;rw [mg,gF h];obtain⟨g1,g2⟩:=List.pairwise_cons.1 h1;have:=ih g2 h2;have hb:∀z,z∈y :: b->x<z:=λz hz=>by
   rcases List.mem_cons.1 hz with rfl | hz
   ·exact h
   ·have:=(List.pairwise_cons.1 h2).1 z hz;omega
  constructor
  ·rintro⟨p,hp,he⟩;rcases List.mem_cons.1 hp with rfl | hp
   ·simp at he
   ·obtain⟨z,hz1,hz2⟩:=this.1 ⟨p,hp,he⟩;exact⟨z,List.mem_cons_of_mem _ hz1,hz2⟩
  ·rintro⟨z,hz1,hz2⟩;rcases List.mem_cons.1 hz1 with rfl | hz1
   ·have:=hb z hz2;omega
   ·obtain⟨p,hp,he⟩:=this.2 ⟨z,hz1,hz2⟩;exact⟨p,List.mem_cons_of_mem _ hp,he⟩
 | case5 x a y b h h' ih=>
  intro h1 h2;rw [mg,gC h,gF h'];obtain⟨g1,g2⟩:=List.pairwise_cons.1 h2;have:=ih h1 g2;have ha:∀z,z∈x :: a->y<z:=λz hz=>by
   rcases List.mem_cons.1 hz with rfl | hz
   ·exact h'
   ·have:=(List.pairwise_cons.1 h1).1 z hz;omega
  constructor
  ·rintro⟨p,hp,he⟩;rcases List.mem_cons.1 hp with rfl | hp
   ·simp at he
   ·obtain⟨z,hz1,hz2⟩:=this.1 ⟨p,hp,he⟩;exact⟨z,hz1,List.mem_cons_of_mem _ hz2⟩
  ·rintro⟨z,hz1,hz2⟩;rcases List.mem_cons.1 hz2 with rfl | hz2
   ·have:=ha z hz1;omega
   ·obtain⟨p,hp,he⟩:=this.2 ⟨z,hz1,hz2⟩;exact⟨p,List.mem_cons_of_mem _ hp,he⟩
 | case6 x a y b h h' ih=>
  intro h1 h2;rw [mg,gC h,gC h'];have:x=y:=by omega
  subst this;exact⟨λ_=>⟨x,by simp,by simp⟩,λ_=>⟨(x,⟨true,true⟩),by simp,rfl⟩⟩
theorem Q4k{a b:List Int}(ha:a.length≤2)(hb:b.length≤2)(h1:a.Pairwise (· < ·))(h2:b.Pairwise (· < ·)){post:List Int->Prop}(hp:∀l:List Int,(0<l.length↔∃x,x∈a∧x∈b)->post l):WR a b post:=by
 unfold WR Yg;refine⟨mg a b,Qal (a0:=a) (b0:=b) (by omega) (by omega) (.inl rfl) (.inr rfl),?_⟩;have key:∀(ys:List (Int×KI)) (s:List Int) {k:List Int->Prop},s.length+ys.length≤1000->k (s++(ys.filter (λp=>p.2.e0&&p.2.e1)).map (·.1)) ->
   Each (λ(x9:Int×KI) (s10:List Int) Y11=>Jn (λ(J18:Bool->Prop)=>Ite x9.2.e0 (J18 x9.2.e1) (J18 false)) (λ(x17:Bool)=>Jn (λ(J23:(List Int)->Prop)=>Ite x17 ((s10.length+([x9.1]:List Int).length≤1099511627776)∧J23 (s10++([x9.1]:List Int))) (J23 s10)) (λ(x22:List Int)=>Y11 x22))) (λ(s28:List Int)=>k s28) ys s:=by
  intro ys;induction ys with
  | nil=>intro s k _ hk;simpa [Each] using hk
  | cons p ys ih=>
   intro s k hl hk;simp only [List.length_cons] at hl;refine Jn.mk (λq=>q=(p.2.e0&&p.2.e1)) (Ite.mk (λe=>by rw [e];rfl) (λe=>by rw [e];rfl)) (λq e=>?_);refine Jn.mk (λs'=>s'.length+ys.length≤1000∧k (s'++(ys.filter (λp=>p.2.e0&&p.2.e1)).map (·.1))) (Ite.mk (λe2=>⟨by simp <;> omega,by simp <;> omega,?_⟩) (λe2=>⟨by omega,?_⟩)) (λs' h=>ih s' h.1 h.2)
   ·rw [e] at e2;rw [List.filter_cons_of_pos (by exact e2),List.map_cons] at hk;rw [List.append_assoc];exact hk
   ·rw [e] at e2;rw [List.filter_cons_of_neg (by rw [e2];decide)] at hk;exact hk
 have hl:=Qc4 a b;refine key (mg a b) [] (by simp <;> omega) (hp _ ?_);rw [<-Qbv a b h1 h2];simp only [List.nil_append,List.length_map];constructor
 ·intro h;obtain⟨p,hp'⟩:=List.exists_mem_of_length_pos h;have:=List.mem_filter.1 hp';exact⟨p,this.1,this.2⟩
 ·rintro⟨p,hp1,hp2⟩;exact List.length_pos_of_mem (List.mem_filter.2 ⟨hp1,hp2⟩)
def ml(plan:List (List Int)):Nat:=plan.foldl (λm w=>max m w.length) 0
theorem QaN{n:Nat}:∀(plan:List (List Int)) (m:Nat),m≤n->(∀w,w∈plan->w.length≤n)->plan.foldl (λm w=>max m w.length) m≤n
 | [],m,hm,_=>hm
 | w :: r,m,hm,h=>QaN r _ (by have:=h w (by simp);show max m w.length≤n;omega) (λv hv=>h v (by simp [hv]))
theorem Qc6:∀(plan:List (List Int)) (m:Nat),m≤plan.foldl (λm w=>max m w.length) m∧∀w,w∈plan->w.length≤plan.foldl (λm w=>max m w.length) m
 | [],m=>⟨Nat.le_refl _,λw h=>by simp at h⟩
 | v :: r,m=>by
  obtain⟨h1,h2⟩:=Qc6 r (max m v.length);refine⟨by simp only [List.foldl_cons];omega,λw hw=>?_⟩;rcases List.mem_cons.1 hw with rfl | hw
  ·simp only [List.foldl_cons];omega
  ·exact h2 w hw
def Q0I(s:Q5)(trips:List Qu)(plan:List (List Int))(k a b:Nat):Prop:=
 ∃x y u v c,trips[a]?=some x∧trips[b]?=some y∧plan[a]?=some u∧plan[b]?=some v∧c∈Zm s x.Aa u k∧c∈Zm s y.Aa v k
def Q0d(s:Q5)(trips:List Qu)(plan:List (List Int)):Prop:=∀k a b:Nat,k≤ml plan->a<b->b<plan.length->¬Q0I s trips plan k a b
theorem Q44{s:Q5}{trips:List Qu}{plan:List (List Int)}(h:RF s.A9)(h60:s.A9.Ac.length≤100)(hl:plan.length≤trips.length)(hl2:plan.length≤100)(hr:∀w,w∈plan->w.length≤1000∧∀a,a∈w->I64 a)
  {post:Zt×Bool->Prop} (hp1:∀(a b k:Nat) c,a<b->b<plan.length->¬Q0d s trips plan->post (⟨(a:Int),(b:Int),(k:Int),c⟩,true)) (hp0:Q0d s trips plan->post (⟨0,0,0,0⟩,false)):Yz s trips plan post:=by
 unfold Yz;have hml:ml plan≤1000:=QaN plan 0 (by omega) (λw hw=>(hr w hw).1);refine Jn.mk (λx=>x=((ml plan:Nat):Int)) (Loop.inv plan.length (λi (t:Int×Int)=>t.2=(i:Int)∧t.1=(((plan.take i).foldl (λm w=>max m w.length) 0:Nat):Int)) ⟨rfl,rfl⟩ (λi t hi hI=>?_) (λt hI=>?_)) (λx e=>?_)
 ·obtain⟨m,c⟩:=t;obtain⟨e1,e2⟩:=hI;simp only at e1 e2;subst e1;subst e2;have hx:plan[i]?=some (plan[i]'hi):=gE hi;generalize plan[i]'hi=w at hx;refine Ite.lt (by show (i:Int)<_;omega) ⟨w,Qo rfl hx,?_,?_⟩
  ·show w64 ((i:Int)+1)=_;rw [kw1 (by omega)]
  ·show imax (((plan.take i).foldl (λm w=>max m w.length) 0:Nat):Int) (w.length:Int)=_;rw [List.take_add_one,hx,List.foldl_append];simp only [Option.toList_some,List.foldl_cons,List.foldl_nil,imax];split <;> omega
 ·obtain⟨m,c⟩:=t;obtain⟨e1,e2⟩:=hI;simp only at e1 e2;subst e1;subst e2;rw [List.take_length];exact Ite.nlt (by show ¬(plan.length:Int)<_;omega) rfl
 subst e;have hw:w64 (((ml plan:Nat):Int)+1)=((ml plan+1:Nat):Int):=kw1 (by omega);rw [hw];have used:∀{i k:Nat} {x:Qu} {u:List Int},plan[i]?=some u->k≤1000->∀{q:List Int->Prop},q (Zm s x.Aa u k)->WF s x.Aa u (k:Int) q:=λhu hk q hq=>by
  have hm:=hr _ (gM hu);exact Q2F h h60 hm.1 hm.2 hk hq
 refine Jn.mk (λ_=>Q0d s trips plan) (Loop.inv (ml plan+1) (λk (t:Int)=>t=(k:Int)∧∀k' a b:Nat,k'<k->a<b->b<plan.length->¬Q0I s trips plan k' a b) ⟨rfl,λk' a b hk=>by omega⟩ (λk t hk hI=>?_) (λt hI=>?_)) (λ_ h=>hp0 h)
 ·obtain⟨rfl,hI⟩:=hI;refine Ite.lt (by show (k:Int)<_;omega) (Jn.mk (λ_=>∀a b:Nat,a<b->b<plan.length->¬Q0I s trips plan k a b) ?_ (λ_ hK=>⟨by rw [kw1 (by omega)],λk' a b hk'=>?_⟩))
  ·refine Jn.mk (λ_=>∀a b:Nat,a<b->b<plan.length->¬Q0I s trips plan k a b) (Loop.inv plan.length (λi (t:Int)=>t=(i:Int)∧∀a b:Nat,a<i->a<b->b<plan.length->¬Q0I s trips plan k a b) ⟨rfl,λa b ha=>by omega⟩ (λi t hi hI2=>?_) (λt hI2=>?_)) (λ_ h=>h)
   ·obtain⟨rfl,hI2⟩:=hI2;refine Ite.lt (by show (i:Int)<_;omega) (Jn.mk (λ_=>∀b:Nat,i<b->b<plan.length->¬Q0I s trips plan k i b) ?_ (λ_ hA=>⟨by rw [kw1 (by omega)],λa b ha hab hb=>?_⟩))
    ·have hx:trips[i]?=some (trips[i]'(by omega)):=gE _;have hu:plan[i]?=some (plan[i]'hi):=gE hi;generalize trips[i]'(by omega)=x at hx;generalize plan[i]'hi=u at hu;refine⟨x,Qo rfl hx,u,Qo rfl hu,used hu (by omega) ?_⟩;have hw2:w64 ((i:Int)+1)=((i+1:Nat):Int):=kw1 (by omega);rw [hw2];refine Jn.mk (λ_=>∀b:Nat,i<b->b<plan.length->¬Q0I s trips plan k i b) (Loop.inv (plan.length-(i+1)) (λj (t:Int)=>t=((i+1+j:Nat):Int)∧∀b:Nat,i<b->b<i+1+j->¬Q0I s trips plan k i b) ⟨rfl,λb h1 h2=>by omega⟩ (λj t hj hI3=>?_) (λt hI3=>?_)) (λ_ h=>h)
     ·obtain⟨rfl,hI3⟩:=hI3;have hjl:i+1+j<plan.length:=by omega
      have hy:trips[i+1+j]?=some (trips[i+1+j]'(by omega)):=gE _;have hv:plan[i+1+j]?=some (plan[i+1+j]'hjl):=gE hjl;generalize trips[i+1+j]'(by omega)=y at hy;generalize plan[i+1+j]'hjl=v at hv;refine Ite.lt (by omega) ⟨y,Qo rfl hy,v,Qo rfl hv,used hv (by omega) ?_⟩;have a1:=Q6H s x.Aa u k;have a2:=Q6H s y.Aa v k;refine Q4k a1.2 a2.2 a1.1 a2.1 (λl hl=>Ite.mk (λe=>?_) (λe=>?_))
      ·have hpos:0<l.length:=by have:=of_decide_eq_true e;omega
       have hl0:l[0]?=some (l[0]'hpos):=gE hpos;obtain⟨c,c1,c2⟩:=hl.1 hpos;exact⟨_,Qo rfl hl0,hp1 i (i+1+j) k _ (by omega) hjl (λhN=>hN k i (i+1+j) (by omega) (by omega) hjl ⟨x,y,u,v,c,hx,hy,hu,hv,c1,c2⟩)⟩
      ·have hpos:¬0<l.length:=by have:=of_decide_eq_false e;omega
       refine⟨by rw [kw1 (by omega)];rfl,λb h1 h2=>?_⟩;by_cases c:b=i+1+j
       ·subst c;rintro⟨x',y',u',v',c,g1,g2,g3,g4,g5,g6⟩;rw [hx] at g1;cases g1;rw [hy] at g2;cases g2;rw [hu] at g3;cases g3;rw [hv] at g4;cases g4;exact hpos (hl.2 ⟨c,g5,g6⟩)
       ·exact hI3 b h1 (by omega)
     ·obtain⟨rfl,hI3⟩:=hI3;exact Ite.nlt (by omega) (λb h1 h2=>hI3 b h1 (by omega))
    ·by_cases c:a=i
     ·subst c;exact hA b hab hb
     ·exact hI2 a b (by omega) hab hb
   ·obtain⟨rfl,hI2⟩:=hI2;exact Ite.nlt (by omega) (λa b hab hb=>hI2 a b (by omega) hab hb)
  ·intro hab hb;by_cases c:k'=k
   ·subst c;exact hK a b hab hb
   ·exact hI k' a b (by omega) hab hb
 ·obtain⟨rfl,hI⟩:=hI;exact Ite.nlt (by omega) (λk a b hk hab hb=>hI k a b (by omega) hab hb)
theorem Q3y{plan:List (List Int)}(hl:plan.length≤100)(hr:∀w,w∈plan->w.length≤1000){post:Int->Prop}(hp:∀n:Int,0≤n->n≤100000->post n):G8 plan post:=by
 unfold G8;refine Jn.mk (λn=>0≤n∧n≤100000) (Loop.inv plan.length (λi (t:Int×Int)=>t.2=(i:Int)∧0≤t.1∧t.1≤i*1000) ⟨rfl,by simp,by simp⟩ (λi t hi hI=>?_) (λt hI=>?_)) (λn h=>hp n h.1 h.2)
 ·obtain⟨m,c⟩:=t;obtain⟨e1,e2,e3⟩:=hI;simp only at e1 e2 e3;subst e1;have hx:plan[i]?=some (plan[i]'hi):=gE hi;generalize plan[i]'hi=w at hx;have:=hr w (gM hx);refine Ite.lt (by show (i:Int)<_;omega) ⟨w,Qo rfl hx,?_,?_,?_⟩
  ·show w64 ((i:Int)+1)=_;rw [kw1 (by omega)]
  ·show 0≤w64 (m+(w.length:Int));rw [kw (by omega) (by omega)];omega
  ·show w64 (m+(w.length:Int))≤_;rw [kw (by omega) (by omega)];omega
 ·obtain⟨m,c⟩:=t;obtain⟨e1,e2,e3⟩:=hI;simp only at e1 e2 e3;subst e1;exact Ite.nlt (by show ¬(plan.length:Int)<_;omega) ⟨e2,by show m≤100000;omega⟩
theorem Qd7{i j:Nat}(h:i+j≤1000000):IntKind.wrap .i64 (shrI .u64 (IntKind.wrap .u64 (w64 ((i:Int)+(j:Int)))) 1)=(((i+j) / 2:Nat):Int):=by
 have e1:IntKind.wrap .u64 (w64 ((i:Int)+(j:Int)))=(((i+j:Nat)):Int):=by
  rw [K9 (by omega) (by omega),wu64 (by omega) (by omega)];omega
 rw [e1,shrI];have e2:(2:Int) ^ (min (1:Int).toNat IntKind.u64.bits)=2:=by decide
 rw [e2,Int.fdiv_eq_ediv_of_nonneg _ (by decide)];exact (K9 (by omega) (by omega)).trans (by omega)
theorem Qa6{l:List (List Int)}(hne:l≠[])(hl:l.length≤1000){post:List (List Int)->Prop}(hp:post l):KT l post:=by
 unfold KT;intro b hb;exact Ite.mk (λe=>absurd (hb (by simpa using e)) hne) (λ_=>⟨by simp;omega,by simpa using hp⟩)
def Yq(p:Qq)(n:K6):Prop:=n.B9.length=p.Bj.length∧∀(i:Nat) x w,p.Bj[i]?=some x->n.B9[i]?=some w->Q60 p.s p.Ax p.Bh p.B6 x w
section
variable {p:Qq} (hm:0≤p.B6∧p.B6≤1000) (h4:p.Bj.length≤4)
include hm h4
theorem Yq.rows{n:K6}(h:Yq p n):n.B9.length≤100∧∀w,w∈n.B9->w.length≤1000∧∀a,a∈w->I64 a:=by
 refine⟨by have:=h.1;omega,λw hw=>?_⟩;obtain⟨i,hi,rfl⟩:=List.getElem_of_mem hw;have hx:p.Bj[i]?=some (p.Bj[i]'(by have:=h.1;omega)):=gE _;have hg:=h.2 i _ _ hx (gE hi);obtain⟨r,hr,ha⟩:=hg.run;refine⟨by have:=hg.len;omega,λa hm'=>?_⟩;have:=ha a hm';unfold I64;omega
theorem Qde{xs:List K6}(hx:∀n,n∈xs->Yq p n)(hl:xs.length≤10000){t:Int}(ht:0≤t∧t≤1000000){post:Int×Bool->Prop}(hp:∀(i:Nat) b,i≤xs.length->post ((i:Int),b)):Qh xs t post:=by
 unfold Qh;have cmp:∀n,n∈xs->∀{q:Int->Prop},(∀z,q z)->KP n t q:=λn hn q hq=>by
  unfold KP;have:=Yq.rows hm h4 (hx n hn);exact Q3y this.1 (λw hw=>(this.2 w hw).1) (λ_ _ _=>hq _)
 refine Jn.mk (λx=>∃i:Nat,x=(i:Int)∧i≤xs.length) (Loop.mk (λ(s:Int×Int)=>∃i j:Nat,s.1=(i:Int)∧s.2=(j:Int)∧i≤j∧j≤xs.length) (λs=>(s.2-s.1).toNat) ⟨0,xs.length,rfl,rfl,by omega,by omega⟩ (λs hI=>?_)) (λx ⟨i,e,hi⟩=>?_)
 ·obtain⟨a,b⟩:=s;obtain⟨i,j,e1,e2,hij,hj⟩:=hI;simp only at e1 e2;subst e1;subst e2;dsimp only;rw [Qd7 (by omega)];refine Ite.mk (λe=>?_) (λe=>⟨i,rfl,by omega⟩);have hlt:(i:Int)<(j:Int):=of_decide_eq_true e;have hmid:(i+j) / 2<xs.length:=by omega
  have hg:xs[(i+j) / 2]?=some (xs[(i+j) / 2]'hmid):=gE hmid;refine⟨_,Qo rfl hg,cmp _ (List.getElem_mem _) (λz=>?_)⟩;refine Jn.mk (λ(r:Int×Int)=>∃i' j':Nat,r.1=(i':Int)∧r.2=(j':Int)∧i'≤j'∧j'≤xs.length∧j'-i'<j-i) (Ite.mk (λ_=>⟨(i+j) / 2+1,j,?_,rfl,by omega,hj,by omega⟩) (λ_=>⟨i,(i+j) / 2,rfl,rfl,by omega,by omega,by omega⟩)) (λr ⟨i',j',e1,e2,g1,g2,g3⟩=>?_)
  ·show w64 (((((i+j) / 2:Nat)):Int)+1)=_;rw [kw1 (by omega)]
  ·refine⟨⟨i',j',e1,e2,g1,g2⟩,?_⟩;show (r.2-r.1).toNat<((j:Int)-(i:Int)).toNat;rw [e1,e2];omega
 ·subst e;refine Jn.mk (λ_=>True) (Ite.mk (λe=>?_) (λ_=>trivial)) (λb _=>hp i b hi);have hlt:(i:Int)<(xs.length:Int):=of_decide_eq_true e;have hg:xs[i]?=some (xs[i]'(by omega)):=gE (by omega);exact⟨_,Qo rfl hg,cmp _ (List.getElem_mem _) (λ_=>trivial)⟩
omit hm h4 in
theorem Qc3{xs:List K6}{i:Nat}(hi:i≤xs.length)(hl:xs.length≤10000){n:K6}{post:List K6->Prop}(hp:post (xs.take i++([n]++xs.drop i))):QM (i:Int) xs [n] post:=by
 unfold QM;by_cases c:i<xs.length
 ·exact .inr ⟨⟨by omega,by omega⟩,by simp,by simp;omega,by rw [Int.toNat_natCast];exact hp⟩
 ·have e:i=xs.length:=by omega
  subst e;refine .inl ?_;unfold Kd;refine⟨⟨by omega,by omega,by omega⟩,Ite.f (by simp) (Ite.t (by simp) ⟨by simp;omega,?_⟩)⟩;simpa using hp
theorem Q8a(k:QF p.s)(h:RS p.s)(h60:p.s.A9.Ac.length≤100)(hav:p.Ax.length≤maxLen)(ht:0≤p.Bh∧p.Bh≤20000)(hf:∀x,x∈p.Bj->isC p.s.A9 x.Aa=true){n:K6}(hn:Yq p n){i:Nat}(hi:i<p.Bj.length){c t:Int}
  {post:K6×Bool->Prop} (hp:∀m b,(b=true->Yq p m)->post (m,b)):Xz p n ⟨(i:Int),c,t⟩ post:=by
 unfold Xz;have hx:p.Bj[i]?=some (p.Bj[i]'hi):=gE hi;generalize hxe:p.Bj[i]'hi=x at hx;have hlen:n.B9.length=p.Bj.length:=hn.1;have hw:n.B9[i]?=some (n.B9[i]'(by omega)):=gE _;refine Qa6 (by rintro e;rw [e] at hlen;simp at hlen;omega) (by omega) ?_;refine Jn.mk (λ_=>True) (Loop.mk (λ_=>True) (λs=>left n.Ay s.2) trivial (λst _=>⟨λb v hb=>⟨trivial,Q5X n.Ay hb.1 hb.2⟩,λ_=>trivial⟩)) (λbans _=>?_);refine Q4A k h h60 hav ht hm hx (hf x (gM hx)) (λw hg=>⟨_,Qo rfl hw,hp _ _ (λ_=>⟨by simp [hlen],λj y v hy hv=>?_⟩)⟩) ⟨_,Qo rfl hw,hp _ _ (λe=>by cases e)⟩;simp only [Int.toNat_natCast] at hv;by_cases e:i=j
 ·subst e;rw [List.getElem?_set_self (by omega)] at hv;cases hv;rw [hx] at hy;cases hy;exact hg
 ·rw [List.getElem?_set_ne e] at hv;exact hn.2 j y v hy hv
theorem Q6l(k:QF p.s)(h:RS p.s)(h60:p.s.A9.Ac.length≤100)(hav:p.Ax.length≤maxLen)(ht:0≤p.Bh∧p.Bh≤20000)(hf:∀x,x∈p.Bj->isC p.s.A9 x.Aa=true)
  {post:List (List Int)×Int->Prop} (hp:∀n,Yq p n->Q0d p.s p.Bj n.B9->post (n.B9,0)) (hw:post ([],14)) (hl:post ([],27)):XI p post:=by
 unfold XI;refine⟨⟨by omega,by omega⟩,?_⟩;refine Jn.mk (λplan=>Yq p ⟨[],plan⟩) (Loop.inv p.Bj.length (λi (t:List (List Int)×Int)=>t.2=(i:Int)∧t.1.length=p.Bj.length∧∀(j:Nat) x w,j<i->p.Bj[j]?=some x->t.1[j]?=some w->Q60 p.s p.Ax p.Bh p.B6 x w) ⟨rfl,by simp,λj x w hj=>by omega⟩ (λi t hi hI=>?_) (λt hI=>?_)) (λplan hroot=>?_)
 ·obtain⟨plan,c⟩:=t;obtain⟨e1,e2,e3⟩:=hI;simp only at e1 e2 e3;subst e1;have hx:p.Bj[i]?=some (p.Bj[i]'hi):=gE hi;generalize p.Bj[i]'hi=x at hx;have hpw:plan[i]?=some (plan[i]'(by omega)):=gE _;refine Ite.lt (by show (i:Int)<_;omega) (Q4A k h h60 hav ht hm hx (hf x (gM hx)) (λw hg=>Ite.f rfl ⟨_,Qo rfl hpw,?_,?_,λj y v hj hy hv=>?_⟩) (Ite.t rfl hw))
  ·show w64 ((i:Int)+1)=_;rw [kw1 (by omega)]
  ·simp [e2]
  ·simp only [Int.toNat_natCast] at hv;by_cases e:i=j
   ·subst e;rw [List.getElem?_set_self (by omega)] at hv;cases hv;rw [hx] at hy;cases hy;exact hg
   ·rw [List.getElem?_set_ne e] at hv;exact e3 j y v (by omega) hy hv
 ·obtain⟨plan,c⟩:=t;obtain⟨e1,e2,e3⟩:=hI;simp only at e1 e2 e3;subst e1;refine Ite.nlt (by show ¬(p.Bj.length:Int)<_;omega) ⟨e2,λj x w hx hw'=>e3 j x w (gS.1 hx).1 hx hw'⟩
 ·refine Jn.mk (λ_=>True) (Loop.inv 500 (λi (t:List K6×Int)=>t.2=(i:Int)∧t.1.length≤1+2*i∧∀n,n∈t.1->Yq p n) ⟨rfl,by simp,λn hn=>by simp at hn;subst hn;exact hroot⟩ (λi t hi hI=>?_) (λt hI=>?_)) (λ_ _=>hl)
  ·obtain⟨opn,c⟩:=t;obtain⟨e1,e2,e3⟩:=hI;simp only at e1 e2 e3;subst e1;refine Ite.t (decide_eq_true (by show (i:Int)<500;omega)) (Jn.mk (λo=>o.length≤1+2*(i+1)∧∀n,n∈o->Yq p n) (Ite.mk (λ_=>hw) (λe=>?_)) (λo ho=>⟨by show w64 ((i:Int)+1)=_;rw [kw1 (by omega)],ho⟩))
   match opn,e2,e3,e with
   | [],_,_,e=>exact absurd e (by simp)
   | n :: rest,e2,e3,e=>
    simp only [List.length_cons] at e2;have hn:=e3 n (by simp);have hrows:=Yq.rows hm h4 hn;refine⟨n,rfl,⟨by omega,by simp;omega,by omega⟩,Q44 h.fl h60 (by rw [hn.1];exact Nat.le_refl _) hrows.1 hrows.2 (λa b kk cc hab hb _=>Ite.f rfl ?_) (λhN=>Ite.t rfl (hp n hn hN))⟩;have hsub:sub (n :: rest) 1 (((n :: rest).length:Nat):Int)=rest:=by
     unfold sub;rw [show (1:Int).toNat=1 from rfl];simp
    rw [hsub];have hbt:b<p.Bj.length:=by rw [<-hn.1];exact hb
    refine Jn.mk (λo=>o.length≤1+2*(i+1)∧∀n,n∈o->Yq p n) (Loop.inv 2 (λj (t:List K6×Int)=>t.2=(j:Int)∧t.1.length≤rest.length+j∧∀n,n∈t.1->Yq p n) ⟨rfl,by simp,λm hm'=>e3 m (by simp [hm'])⟩ (λj t hj hI=>?_) (λt hI=>?_)) (λo ho=>ho)
    ·obtain⟨o,c⟩:=t;obtain⟨q1,q2,q3⟩:=hI;simp only at q1 q2 q3;subst q1;have go:∀r:Nat,r<p.Bj.length->idx ([(a:Int),(b:Int)]:List Int) (j:Int)=some (r:Int)->∃x73,idx ([(a:Int),(b:Int)]:List Int) (j:Int)=some x73∧Xz p n (⟨x73,cc,(kk:Int)⟩:X5) (λx76=>Jn (λ(J80:(List K6)->Prop)=>Ite x76.2 (G8 x76.1.B9 (λx84=>Qh o (w64 (x84+1)) (λx85=>QM x85.1 o ([x76.1]:List K6) (λx88=>J80 x88)))) (J80 o)) (λ(x79:List K6)=>(x79,w64 ((j:Int)+1)).2=((j+1:Nat):Int)∧(x79,w64 ((j:Int)+1)).1.length≤rest.length+(j+1)∧∀n,n∈(x79,w64 ((j:Int)+1)).1->Yq p n)):=λr hr hidx=>by
      refine⟨_,hidx,Q8a hm h4 k h h60 hav ht hf hn hr (λm bb hmok=>?_)⟩;refine Jn.mk (λo'=>o'.length≤o.length+1∧∀n,n∈o'->Yq p n) (Ite.mk (λe=>?_) (λ_=>⟨by omega,q3⟩)) (λo' ho=>⟨by rw [kw1 (by omega)],by show o'.length≤_;have:=ho.1;omega,ho.2⟩);have hmr:=Yq.rows hm h4 (hmok e);refine Q3y hmr.1 (λw hw'=>(hmr.2 w hw').1) (λz hz0 hz1=>?_);rw [kw (by omega) (by omega)];refine Qde hm h4 q3 (by omega) ⟨by omega,by omega⟩ (λii _ hii=>Qc3 hii (by omega) ⟨?_,λn' hn'=>?_⟩)
      ·simp;omega
      ·rcases List.mem_append.1 hn' with h1 | h1
       ·exact q3 n' (List.mem_of_mem_take h1)
       ·rcases List.mem_append.1 h1 with h2 | h2
        ·simp at h2;subst h2;exact hmok e
        ·exact q3 n' (List.mem_of_mem_drop h2)
     have hj2:j=0∨j=1:=by omega
     refine Ite.lt (by show (j:Int)<_;simp;omega) ?_;rcases hj2 with rfl | rfl
     ·exact go a (by omega) rfl
     ·exact go b hbt rfl
    ·obtain⟨o,c⟩:=t;obtain⟨q1,q2,q3⟩:=hI;simp only at q1 q2 q3;subst q1;exact Ite.nlt (by simp) ⟨by show o.length≤_;omega,q3⟩
  ·obtain⟨o,c⟩:=t;obtain⟨e1,e2,e3⟩:=hI;simp only at e1;subst e1;exact Ite.f (decide_eq_false (by show ¬((500:Nat):Int)<500;omega)) trivial
end
theorem Q7B(f:Qe):∀(l:List Int) (c:Int) (k:Nat),k<l.length->(clK f c l).getD (k+1) 0=mvK f ((clK f c l).getD k 0) (l.getD k 0)
 | [],c,k,h=>by simp at h
 | a :: l,c,0,h=>by
  show (clK f (mvK f c a) l).getD 0 0=mvK f c a;rw [Q3g];rfl
 | a :: l,c,k+1,h=>by
  show (clK f (mvK f c a) l).getD (k+1) 0=mvK f ((clK f (mvK f c a) l).getD k 0) (l.getD k 0);exact Q7B f l _ k (by simp at h;omega)
theorem Q7G{s:Q5}{c:Int}{w:List Int}{k:Nat}(hc:isC s.A9 c=true):(clK s.A9 c w).getD (min k w.length) 0∈Zm s c w k∧mvK s.A9 ((clK s.A9 c w).getD (min k w.length) 0) (w.getD k 0)∈Zm s c w k:=by
 unfold Zm;rw [gF hc];cases hk:w[k]? with
 | none=>
  have:w.length≤k:=by simpa using hk
  have e:w.getD k 0=0:=by rw [gD,hk];rfl
  rw [e,Q9R,show min k w.length=w.length by omega];simp
 | some a=>
  have:k<w.length:=(gS.1 hk).1;have e:w.getD k 0=a:=by rw [gD,hk];rfl
  rw [e,show min k w.length=k by omega];generalize (clK s.A9 c w).getD k 0=q;simp only;by_cases h:1≤a∧a<7∧(nx s.A9 q (a-1)).2=true
  ·rw [gF h];unfold mvK;rw [gF h];exact⟨Q72.2 (.inl rfl),Q72.2 (.inr rfl)⟩
  ·rw [gC h];unfold mvK;rw [gC h];simp
section
variable {s:Q5} {avoid:List Int} {tick:Int} {trips:List Qu} {plan:List (List Int)}
structure FolI (s:Q5) (avoid:List Int) (tick:Int) (trips:List Qu) (plan:List (List Int)) (k:Nat) (qs:List (Int×Int×Int)):Prop where
 len:qs.length=trips.length
 w:∀(i:Nat) q x w,qs[i]?=some q->trips[i]?=some x->plan[i]?=some w->isQ s (q.1,q.2.1)∧(∃r,Gw s avoid (tick+k) (q.1,q.2.1) (x.To,r) (w.drop k))∧q.1=(clK s.A9 x.Aa w).getD (min k w.length) 0∧1000000-21*(k:Int)≤q.2.2∧q.2.2≤1000000
def acK(plan:List (List Int))(k i:Nat):Int:=(plan.getD i []).getD k 0
def acL(plan:List (List Int))(k:Nat):List Int:=(List.range plan.length).map (acK plan k)
theorem Q5f{k i:Nat}{w:List Int}(h:plan[i]?=some w):(acL plan k).getD i 0=w.getD k 0:=by
 have hi:=(gS.1 h).1;unfold acL;rw [gD,gK,List.getElem?_range hi];show acK plan k i=_;unfold acK;rw [gD (l:=plan),h];rfl
theorem Gw.next{t:Int}{q q':Int×Int}{w:List Int}{k:Nat}(h:Gw s avoid t q q' (w.drop k)):
  (0≤w.getD k 0∧w.getD k 0<7)∧(Ya s [] avoid t q (w.getD k 0)).2=0∧∃r,Gw s avoid (t+1) (Ya s [] avoid t q (w.getD k 0)).1 (q'.1,r) (w.drop (k+1)):=by
 by_cases hk:k<w.length
 ·have hd:w.drop k=w[k] :: w.drop (k+1):=List.drop_eq_getElem_cons hk;have e:w.getD k 0=w[k]:=by rw [gD,gE hk];rfl
  rw [e];obtain⟨h1,h2⟩:=h;rw [hd] at h1 h2;rw [runF] at h1;by_cases c:(Ya s [] avoid t q w[k]).2=0
  ·rw [gF c] at h1;exact⟨h2 _ List.mem_cons_self,c,q'.2,by rw [h1],λa ha=>h2 a (List.mem_cons_of_mem _ ha)⟩
  ·rw [gC c] at h1;exact absurd (congrArg Prod.snd h1) c
 ·have hd:w.drop k=[]:=List.drop_eq_nil_of_le (by omega);have hd2:w.drop (k+1)=[]:=List.drop_eq_nil_of_le (by omega);have e:w.getD k 0=0:=by rw [gD,gN (by omega)];rfl
  rw [e,hd2];rw [hd] at h;have hq:q=q':=congrArg Prod.fst h.1;subst hq;have hs:Ya s [] avoid t q 0=((q.1,imax (q.2-1) 0),0):=by
   unfold Ya;rw [gF rfl,gC (by rw [Q3W];simp)]
  rw [hs];exact⟨by omega,rfl,imax (q.2-1) 0,Gw.nil⟩
theorem FolI.flT(hop:∀x,x∈trips->isC s.A9 x.Aa=true)(hpl:plan.length=trips.length){k:Nat}{qs:List (Int×Int×Int)}(h:FolI s avoid tick trips plan k qs)(hk:k<ml plan)(hm:ml plan≤1000)(hC:Q0d s trips plan):FlT s avoid (tick+k) qs (acL plan k):=by
 have get:∀{i:Nat} {q:Int×Int×Int},qs[i]?=some q->∃x w,trips[i]?=some x∧plan[i]?=some w:=λ{i q} hq=>by
  have hi:=(gS.1 hq).1;have:=h.len;exact⟨_,_,gE (show i<trips.length by omega),gE (show i<plan.length by omega)⟩
 refine⟨by rw [h.len,<-hpl];simp [acL],λi q hq=>?_,λi q hq=>?_,λi j q p hij hq hp=>?_⟩
 ·obtain⟨x,w,hx,hw⟩:=get hq;obtain⟨g1,g2,g3,g4,g5⟩:=h.w i q x w hq hx hw;exact⟨g1.1,by omega,g5⟩
 ·obtain⟨x,w,hx,hw⟩:=get hq;obtain⟨g1,⟨r,g2⟩,g3,g4,g5⟩:=h.w i q x w hq hx hw;rw [Q5f hw];exact⟨g2.next.1,g2.next.2.1⟩
 ·obtain⟨x,w,hx,hw⟩:=get hq;obtain⟨y,v,hy,hv⟩:=get hp;obtain⟨_,_,g3,_⟩:=h.w i q x w hq hx hw;obtain⟨_,_,f3,_⟩:=h.w j p y v hp hy hv;have u1:=Q7G (w:=w) (k:=k) (hop x (gM hx));have u2:=Q7G (w:=v) (k:=k) (hop y (gM hy));rw [Q5f hw,Q5f hv];rw [<-g3] at u1;rw [<-f3] at u2;have hil:=(gS.1 hw).1;have hjl:=(gS.1 hv).1;have no:∀c,c∈Zm s x.Aa w k->c∈Zm s y.Aa v k->False:=λc c1 c2=>by
   rcases Nat.lt_or_gt_of_ne hij with l | l
   ·exact hC k i j (by omega) l hjl ⟨x,y,w,v,c,hx,hy,hw,hv,c1,c2⟩
   ·exact hC k j i (by omega) l hil ⟨y,x,v,w,c,hy,hx,hv,hw,c2,c1⟩
  exact⟨λe=>no _ u1.1 (by rw [e];exact u2.2),λe=>no _ u1.2 (by rw [e];exact u2.2)⟩
theorem FolI.step(hrs:RS s)(hpl:plan.length=trips.length){k:Nat}{qs qs':List (Int×Int×Int)}(h:FolI s avoid tick trips plan k qs)(hl:qs'.length=qs.length)
  (hq':∀(i:Nat) q,qs[i]?=some q->∃q',qs'[i]?=some q'∧(q'.1,q'.2.1)=(Ya s [] avoid (tick+k) (q.1,q.2.1) ((acL plan k).getD i 0)).1∧q.2.2-21≤q'.2.2∧q'.2.2≤q.2.2):FolI s avoid tick trips plan (k+1) qs':=by
 refine⟨by rw [hl,h.len],λi q' x w hqi hx hw=>?_⟩;have hi:=(gS.1 hqi).1;have hq:=gE (show i<qs.length by omega);generalize qs[i]'_=q at hq;obtain⟨q2,e1,e2,e3,e4⟩:=hq' i q hq;rw [hqi] at e1;cases e1;obtain⟨g1,⟨r,g2⟩,g3,g4,g5⟩:=h.w i q x w hq hx hw;rw [Q5f hw] at e2;obtain⟨n1,n2,r',n3⟩:=g2.next;have hc:q'.1=mvK s.A9 q.1 (w.getD k 0):=by
  have e2':=congrArg Prod.fst e2;simp only at e2';rw [e2'];by_cases h0:w.getD k 0=0
  ·rw [h0] at n2 ⊢;rw [QaI n2,Q9R]
  ·rw [(Q2E h0 n1 n2).2.2.2.2]
 have hG:Gw s avoid (tick+((k+1:Nat):Int)) (q'.1,q'.2.1) (x.To,r') (w.drop (k+1)):=by
  rw [e2,show tick+((k+1:Nat):Int)=tick+(k:Int)+1 by omega];exact n3
 refine⟨by rw [e2];exact Q3d hrs g1 n2,⟨r',hG⟩,?_,by omega,by omega⟩;rw [hc,g3];by_cases hk:k<w.length
 ·rw [show min k w.length=k by omega,show min (k+1) w.length=k+1 by omega,Q7B _ _ _ _ hk]
 ·have e:w.getD k 0=0:=by rw [gD,gN (by omega)];rfl
  rw [e,Q9R,show min k w.length=min (k+1) w.length by omega]
end
abbrev p0K:Q1:=⟨0,0,false⟩
abbrev z4K:Q0:=⟨p0K,p0K,p0K,p0K⟩
abbrev i4K:Qm:=⟨0,0,0,0⟩
abbrev st0K:Qb:=⟨0,z4K,i4K⟩
def g4(a:Q0):Nat->Q1
 | 0=>a.e0
 | 1=>a.e1
 | 2=>a.e2
 | _=>a.e3
def s4(a:Q0)(i:Nat)(x:Q1):Q0:=
 match i with
 | 0=>{a with e0:=x}
 | 1=>{a with e1:=x}
 | 2=>{a with e2:=x}
 | _=>{a with e3:=x}
def gi(a:Qm):Nat->Int
 | 0=>a.e0
 | 1=>a.e1
 | 2=>a.e2
 | _=>a.e3
def si(a:Qm)(i:Nat)(x:Int):Qm:=
 match i with
 | 0=>{a with e0:=x}
 | 1=>{a with e1:=x}
 | 2=>{a with e2:=x}
 | _=>{a with e3:=x}
theorem four{i:Nat}(h:i<4):i=0∨i=1∨i=2∨i=3:=by omega
theorem Q42{a:Q0}{i:Nat}(h:i<4):([a.e0,a.e1,a.e2,a.e3]:List Q1)[i]?=some (g4 a i):=by
 rcases four h with rfl | rfl | rfl | rfl <;> rfl
theorem Q9F{a:Q0}{i:Nat}{x:Q1}(h:i<4):([a.e0,a.e1,a.e2,a.e3]:List Q1).set (Int.toNat (i:Int)) x=[(s4 a i x).e0,(s4 a i x).e1,(s4 a i x).e2,(s4 a i x).e3]:=by
 rw [Int.toNat_natCast];rcases four h with rfl | rfl | rfl | rfl <;> rfl
theorem Q78{a:Q0}{i j:Nat}{x:Q1}(h:i<4)(hj:j<4):g4 (s4 a i x) j=if i=j then x else g4 a j:=by
 rcases four h with rfl | rfl | rfl | rfl <;> rcases four hj with rfl | rfl | rfl | rfl <;> rfl
theorem Q9A{a:Qm}{i:Nat}(h:i<4):([a.e0,a.e1,a.e2,a.e3]:List Int)[i]?=some (gi a i):=by
 rcases four h with rfl | rfl | rfl | rfl <;> rfl
theorem QaA{a:Qm}{i:Nat}{x:Int}(h:i<4):([a.e0,a.e1,a.e2,a.e3]:List Int).set (Int.toNat (i:Int)) x=[(si a i x).e0,(si a i x).e1,(si a i x).e2,(si a i x).e3]:=by
 rw [Int.toNat_natCast];rcases four h with rfl | rfl | rfl | rfl <;> rfl
theorem Q6K{a:Qm}{i j:Nat}{x:Int}(h:i<4)(hj:j<4):gi (si a i x) j=if i=j then x else gi a j:=by
 rcases four h with rfl | rfl | rfl | rfl <;> rcases four hj with rfl | rfl | rfl | rfl <;> rfl
theorem Q7A{a b:Q0}(h:∀i,i<4->g4 a i=g4 b i):a=b:=by
 cases a;cases b;have h0:=h 0 (by decide);have h1:=h 1 (by decide);have h2:=h 2 (by decide);have h3:=h 3 (by decide);simp only [g4] at h0 h1 h2 h3;subst h0;subst h1;subst h2;subst h3;rfl
def Q1V(s:Q5)(avoid:List Int)(t:Int)(x:Qu)(q q':Q1)(act:Int):Prop:=
 (act=-1∧q'=⟨q.cell,0,true⟩∧(q.B4=true∨q.cell=x.To))∨(q.B4=false∧(⟨act,q'⟩:KV)∈mvs s avoid t q)
def Q8z(J J':Q0)(a b:Nat):Prop:=∀c,(c=(g4 J a).cell∨c=(g4 J' a).cell)->(c=(g4 J b).cell∨c=(g4 J' b).cell)->False
structure YA (p:Qq) (t:Int) (J J':Q0) (acts:Qm):Prop where
 st:∀(i:Nat) x,p.Bj[i]?=some x->Q1V p.s p.Ax t x (g4 J i) (g4 J' i) (gi acts i)
 ap:∀a b:Nat,a<b->b<p.Bj.length->Q8z J J' a b
 un:∀i:Nat,p.Bj.length≤i->i<4->g4 J' i=p0K
structure Q88 (p:Qq) (t:Int) (J:Q0) (i:Nat) (to:Q0) (acts:Qm) (used:List Int):Prop where
 st:∀(j:Nat) y,j<i->p.Bj[j]?=some y->Q1V p.s p.Ax t y (g4 J j) (g4 to j) (gi acts j)
 ap:∀a b:Nat,a<b->b<i->Q8z J to a b
 un:∀j:Nat,i≤j->j<4->g4 to j=p0K
 us:∀c,c∈used↔∃j:Nat,j<i∧(c=(g4 J j).cell∨c=(g4 to j).cell)
 ul:used.length≤2*i
def Xt(acts:Qm):Nat->Int
 | 0=>0
 | n+1=>Xt acts n+(if gi acts n=-1 then 0 else 1)
theorem Q3f(acts:Qm):∀n,0≤Xt acts n∧Xt acts n≤n
 | 0=>⟨Int.le_refl _,Int.le_refl _⟩
 | n+1=>by
  have:=Q3f acts n;rw [Xt];split <;> omega
theorem Q39{a b:Qm}:∀n,(∀j,j<n->gi a j=gi b j)->Xt a n=Xt b n
 | 0,_=>rfl
 | n+1,h=>by rw [Xt,Xt,Q39 n (λj hj=>h j (by omega)),h n (by omega)]
theorem Q88.full{p:Qq}{t:Int}{J to:Q0}{acts:Qm}{used:List Int}(h:Q88 p t J p.Bj.length to acts used):YA p t J to acts:=
 ⟨λi x hx=>h.st i x (gS.1 hx).1 hx,h.ap,h.un⟩
theorem Q88.more{p:Qq}{t:Int}{J to:Q0}{acts:Qm}{used:List Int}{i:Nat}(hi:i<4)(h:Q88 p t J i to acts used){x:Qu}(hx:p.Bj[i]?=some x){q':Q1}{act:Int}(hs:Q1V p.s p.Ax t x (g4 J i) q' act)
  {more:List Int} (hm:∀c,c∈more↔c=(g4 J i).cell∨c=q'.cell) (hl:more.length≤2) (hf:∀c,c∈more->c∉used):Q88 p t J (i+1) (s4 to i q') (si acts i act) (used++more):=by
 have gt:∀j,j<i->g4 (s4 to i q') j=g4 to j:=λj hj=>by rw [Q78 hi (by omega),gC (by omega)]
 have ga:∀j,j<i->gi (si acts i act) j=gi acts j:=λj hj=>by rw [Q6K hi (by omega),gC (by omega)]
 have gI:g4 (s4 to i q') i=q':=by rw [Q78 hi hi,gF rfl]
 refine⟨λj y hj hy=>?_,λa b hab hb=>?_,λj hj h4=>?_,λc=>?_,by simp;have:=h.ul;omega⟩
 ·by_cases c:j<i
  ·rw [gt j c,ga j c];exact h.st j y c hy
  ·have:j=i:=by omega
   subst this;rw [hx] at hy;cases hy;rw [gI,Q6K hi hi,gF rfl];exact hs
 ·by_cases c:b<i
  ·intro x h1 h2;rw [gt a (by omega)] at h1;rw [gt b c] at h2;exact h.ap a b hab c x h1 h2
  ·have:b=i:=by omega
   subst this;intro x h1 h2;rw [gt a hab] at h1;rw [gI] at h2;exact hf x ((hm x).2 h2) ((h.us x).2 ⟨a,hab,h1⟩)
 ·rw [Q78 hi h4,gC (by omega)];exact h.un j (by omega) h4
 ·rw [List.mem_append,h.us c,hm c];constructor
  ·rintro (⟨j,hj,hc⟩ | hc)
   ·exact⟨j,by omega,by rw [gt j hj];exact hc⟩
   ·exact⟨i,by omega,by rw [gI];exact hc⟩
  ·rintro⟨j,hj,hc⟩;by_cases c':j<i
   ·exact .inl ⟨j,c',by rw [gt j c'] at hc;exact hc⟩
   ·have:j=i:=by omega
    subst this;rw [gI] at hc;exact .inr hc
theorem Q9I{cells used:List Int}(hl:cells.length≤100)(hu:used.length≤100){post:Bool->Prop}(hp:∀b,(b=true↔∀c,c∈cells->c∉used)->post b):KH cells used post:=by
 unfold KH QQ QZ;have step:∀(x:Int) {q:Bool->Prop},q (used.contains x)->KL x used q:=λx q hq=>by
  unfold KL;exact KE (by simp [maxLen];omega) hq
 refine Z5 (by simp [maxLen];omega) (λc=>used.contains c) (T:=λc q=>KL c used q) (λx _ q hq=>step x hq) ?_;rw [Zs];refine hp _ ?_;rw [Bool.not_eq_true',List.any_eq_false];simp
def Has(layer:List (Q0×Qb))(T:Q0)(c:Int):Prop:=∃st,lk layer T=some st∧st.Az≤c
def LOk(P:Q0->Qb->Prop)(layer:List (Q0×Qb)):Prop:=∀T st,lk layer T=some st->P T st
theorem Qba{s:Q5}{avoid:List Int}{t:Int}{q:Q1}:(mvs s avoid t q).length≤7:=by
 unfold mvs;have:(((List.range 6).map (mv1 s avoid t q)).flatten).length≤6*1:=by
  rw [List.length_flatten];simp only [List.map_map];have key:∀l:List Nat,(l.map (List.length ∘ mv1 s avoid t q)).sum≤l.length*1:=λl=>by
   induction l with
   | nil=>simp
   | cons d l ih=>
    have:=Q7g (s:=s) (avoid:=avoid) (t:=t) (q:=q) (d:=d);simp only [List.map_cons,List.sum_cons,Function.comp,List.length_cons] at ih ⊢;omega
  have:=key (List.range 6);simpa using this
 simp only [List.length_cons];omega
theorem Has.upd{layer:List (Q0×Qb)}{to T:Q0}{st:Qb}{c:Int}(hlt:∀o,lk layer to=some o->st.Az≤o.Az)(h:Has layer T c):Has (upd layer to st) T c:=by
 obtain⟨o,ho,hc⟩:=h;unfold Has;rw [GR];split
 ·rename_i e;subst e;exact⟨st,rfl,by have:=hlt o ho;omega⟩
 ·exact⟨o,ho,hc⟩
section
variable {p:Qq} {J:Q0} {kk:Nat} {P:Q0->Qb->Prop} {c0:Int}
theorem Q8B(k:QF p.s)(h:RS p.s)(hav:p.Ax.length≤maxLen)(ht:0≤p.Bh∧p.Bh≤20000)(h4:p.Bj.length≤4)(hJ:∀i,i<4->0≤(g4 J i).Ba∧(g4 J i).Ba≤1000)(hk:kk≤1000)(hc0:0≤c0∧c0≤100000)
  (hP:∀to acts,YA p (p.Bh+kk) J to acts->P to ⟨c0+Xt acts p.Bj.length,J,acts⟩)
  {X:(Qq×Int×Int×Q0×List Int×Qb×List (Q0×Qb))->(List (Q0×Qb)->Prop)->Prop}
  (hX:∀a post,Km X a.1 a.2.1 a.2.2.1 a.2.2.2.1 a.2.2.2.2.1 a.2.2.2.2.2.1 a.2.2.2.2.2.2 post->X a post):
  ∀(m i:Nat) (to:Q0) (used:List Int) (acts:Qm) (layer:List (Q0×Qb)) (post:List (Q0×Qb)->Prop),i+m=p.Bj.length->Q88 p (p.Bh+kk) J i to acts used->LOk P layer ->
   (∀layer',LOk P layer'->(∀T c,Has layer T c->Has layer' T c)->(∀T A,YA p (p.Bh+kk) J T A->(∀j,j<i->g4 T j=g4 to j∧gi A j=gi acts j)->Has layer' T (c0+Xt A p.Bj.length))->post layer') ->
   X (p,(i:Int),(kk:Int),to,used,⟨c0+Xt acts i,J,acts⟩,layer) post:=by
 intro m;induction m with
 | zero=>
  intro i to used acts layer post him hp hL hpost;have hi:i=p.Bj.length:=by omega
  subst hi;refine hX _ _ ?_;show Km X p ((p.Bj.length:Nat):Int) (kk:Int) to used _ layer post;unfold Km;refine Ite.t (by simp) ?_;refine Jn.mk (λb=>(b=true∧∀o,lk layer to=some o->c0+Xt acts p.Bj.length≤o.Az)∨(b=false∧∃o,lk layer to=some o∧o.Az≤c0+Xt acts p.Bj.length)) (Ite.mk (λe=>?_) (λe=>?_)) (λb hb=>?_)
  ·cases ho:lk layer to with
   | none=>rw [ho] at e;cases e
   | some o=>
    simp only [Option.getD_some];by_cases c:c0+Xt acts p.Bj.length<o.Az
    ·exact .inl ⟨decide_eq_true c,λo' h'=>by cases h';omega⟩
    ·exact .inr ⟨decide_eq_false c,o,rfl,by omega⟩
  ·refine .inl ⟨rfl,λo ho=>?_⟩;rw [ho] at e;cases e
  ·have hfull:=hp.full;have hTo:∀T A,YA p (p.Bh+kk) J T A->(∀j,j<p.Bj.length->g4 T j=g4 to j∧gi A j=gi acts j)->T=to∧Xt A p.Bj.length=Xt acts p.Bj.length:=λT A hT hag=>
    ⟨Q7A (λj hj=>by
     by_cases c:j<p.Bj.length
     ·exact (hag j c).1
     ·rw [hT.un j (by omega) hj,hp.un j (by omega) hj]),Q39 _ (λj hj=>(hag j hj).2)⟩
   refine Jn.mk (λl=>LOk P l∧(∀T c,Has layer T c->Has l T c)∧Has l to (c0+Xt acts p.Bj.length)) (Ite.mk (λe=>?_) (λe=>?_)) (λl hl=>hpost l hl.1 hl.2.1 (λT A hT hag=>by
    obtain⟨e1,e2⟩:=hTo T A hT hag;rw [e1,e2];exact hl.2.2))
   ·rcases hb with ⟨_,hb⟩ | ⟨hb,_⟩
    ·refine⟨λT st hst=>?_,λT c hc=>hc.upd hb,⟨c0+Xt acts p.Bj.length,J,acts⟩,by rw [GR,gF rfl],Int.le_refl _⟩;rw [GR] at hst;split at hst
     ·rename_i e2;subst e2;cases hst;exact hP _ _ hfull
     ·exact hL T st hst
    ·rw [hb] at e;cases e
   ·rcases hb with ⟨hb,_⟩ | ⟨_,o,ho,hc⟩
    ·rw [hb] at e;cases e
    ·exact⟨hL,λT c hc=>hc,o,ho,hc⟩
 | succ m ih=>
  intro i to used acts layer post him hp hL hpost;have hi:i<p.Bj.length:=by omega
  have hi4:i<4:=by omega
  have hx:p.Bj[i]?=some (p.Bj[i]'hi):=gE hi;generalize p.Bj[i]'hi=x at hx;have hul:used.length≤8:=by have:=hp.ul;omega
  have hcb:=Q3f acts i;have hq:=hJ i hi4;refine hX _ _ ?_;show Km X p (i:Int) (kk:Int) to used _ layer post;unfold Km;have w1:w64 ((i:Int)+1)=((i+1:Nat):Int):=kw1 (by omega);have w2:w64 (c0+Xt acts i+1)=c0+Xt acts i+1:=kw (by omega) (by omega);simp only [w1,w2];refine Ite.f (by simp;omega) ⟨g4 J i,Qo rfl (Q42 hi4),?_⟩
  -- which robots a target's prefix leaves room for
  have room:∀T A,YA p (p.Bh+kk) J T A->(∀j,j<i->g4 T j=g4 to j∧gi A j=gi acts j)->∀c,(c=(g4 J i).cell∨c=(g4 T i).cell)->c∉used:=λT A hT hag c hc hu=>by
   obtain⟨j,hj,hcj⟩:=(hp.us c).1 hu;exact hT.ap j i hj hi c (by rw [(hag j hj).1];exact hcj) hc
  refine Jn.mk (λb=>b=true↔((g4 J i).B4=true∨(g4 J i).cell=x.To)∧(g4 J i).cell∉used) (Ite.mk (λe=>Q9I (by simp) (by omega) (λb hb=>?_)) (λe=>⟨x,Qo rfl hx,Ite.mk (λe2=>Q9I (by simp) (by omega) (λb hb=>?_)) (λe2=>?_)⟩)) (λb hb=>?_)
  ·show b=true↔_;rw [hb];simp [e]
  ·have e2':(g4 J i).cell=x.To:=by simpa using e2
   show b=true↔_;rw [hb];simp [e2']
  ·have e2':(g4 J i).cell≠x.To:=by simpa using e2
   simp [e,e2']
  refine Jn.mk (λl1=>LOk P l1∧(∀T c,Has layer T c->Has l1 T c)∧∀T A,YA p (p.Bh+kk) J T A->(∀j,j<i->g4 T j=g4 to j∧gi A j=gi acts j)->gi A i=-1->Has l1 T (c0+Xt A p.Bj.length)) (Ite.mk (λe=>?_) (λe=>?_)) (λl1 hl1=>?_)
  ·obtain⟨h1,h2⟩:=hb.1 e;refine⟨_,Qo rfl (Q42 hi4),_,Q9F hi4,_,Qo rfl (Q9A hi4),_,QaA hi4,ZO (by omega) ⟨by simp;omega,?_⟩⟩;have hmore:=hp.more hi4 hx (q':=⟨(g4 J i).cell,0,true⟩) (act:=-1) (.inl ⟨rfl,rfl,h1⟩) (more:=[(g4 J i).cell]) (λc=>by simp) (by simp) (λc hc=>by simp at hc;subst hc;exact h2);have hcost:c0+Xt (si acts i (-1)) (i+1)=c0+Xt acts i:=by
    rw [Xt,Q6K hi4 hi4,gF rfl,gF rfl,Q39 (b:=acts) i (λj hj=>by rw [Q6K hi4 (by omega),gC (by omega)])];omega
   have:=ih (i+1) _ _ _ layer (λl1=>LOk P l1∧(∀T c,Has layer T c->Has l1 T c)∧∀T A,YA p (p.Bh+kk) J T A->(∀j,j<i->g4 T j=g4 to j∧gi A j=gi acts j)->gi A i=-1->Has l1 T (c0+Xt A p.Bj.length)) (by omega) hmore hL (λl1 g1 g2 g3=>⟨g1,g2,λT A hT hag hA=>g3 T A hT (λj hj=>?_)⟩)
   ·rw [hcost] at this;exact this
   ·rw [Q78 hi4 (by omega),Q6K hi4 (by omega)];by_cases c:i=j
    ·subst c;rw [gF rfl,gF rfl];refine⟨?_,hA⟩;rcases hT.st i x hx with ⟨_,h',_⟩ | ⟨_,h'⟩
     ·exact h'
     ·have:=(Q26 h hq.1 h').2.1;simp only at this;omega
    ·rw [gC c,gC c];exact hag j (by omega)
  ·refine⟨hL,λT c hc=>hc,λT A hT hag hA=>?_⟩;exfalso;have hr:=room T A hT hag (g4 J i).cell (.inl rfl);rcases hT.st i x hx with ⟨_,_,h'⟩ | ⟨_,h'⟩
   ·have:=hb.2 ⟨h',hr⟩;rw [this] at e;cases e
   ·have:=(Q26 h hq.1 h').2.1;simp only at this;omega
  refine Ite.mk (λe=>hpost l1 hl1.1 hl1.2.1 (λT A hT hag=>hl1.2.2 T A hT hag ?_)) (λe=>Q3K k h hav ht hq hk ?_)
  ·rcases hT.st i x hx with ⟨h',_⟩ | ⟨h',_⟩
   ·exact h'
   ·rw [h'] at e;cases e
  have hml:=Qba (s:=p.s) (avoid:=p.Ax) (t:=p.Bh+kk) (q:=g4 J i);generalize hMV:mvs p.s p.Ax (p.Bh+kk) (g4 J i)=MV at hml ⊢;refine Jn.mk (λl2=>LOk P l2∧(∀T c,Has layer T c->Has l2 T c)∧∀T A,YA p (p.Bh+kk) J T A->(∀j,j<i->g4 T j=g4 to j∧gi A j=gi acts j)->Has l2 T (c0+Xt A p.Bj.length))
   (Loop.inv MV.length (λn (t:List (Q0×Qb)×Int)=>t.2=(n:Int)∧LOk P t.1∧(∀T c,Has layer T c->Has t.1 T c)∧∀T A,YA p (p.Bh+kk) J T A->(∀j,j<i->g4 T j=g4 to j∧gi A j=gi acts j)->(gi A i=-1∨∃n',n'<n∧MV[n']?=some ⟨gi A i,g4 T i⟩)->Has t.1 T (c0+Xt A p.Bj.length))
    ⟨rfl,hl1.1,hl1.2.1,λT A hT hag hc=>by rcases hc with hc | ⟨n',hn',_⟩;exact hl1.2.2 T A hT hag hc;omega⟩ (λn t hn hI=>?_) (λt hI=>?_)) (λl2 hl2=>hpost l2 hl2.1 hl2.2.1 hl2.2.2)
  ·obtain⟨l,c⟩:=t;obtain⟨e1,g1,g2,g3⟩:=hI;simp only at e1 g1 g2 g3;subst e1;have hmv:MV[n]?=some (MV[n]'hn):=gE hn;generalize MV[n]'hn=mv at hmv;have hmem:mv∈mvs p.s p.Ax (p.Bh+kk) (g4 J i):=by rw [hMV];exact gM hmv
   have hok:=Q26 h hq.1 hmem;have hw:w64 ((n:Int)+1)=((n+1:Nat):Int):=kw1 (by omega);refine Ite.lt (by show (n:Int)<_;omega) ⟨mv,Qo rfl hmv,Q9I (by simp) (by omega) (λb hb2=>?_)⟩;refine Jn.mk (λl'=>LOk P l'∧(∀T c,Has l T c->Has l' T c)∧∀T A,YA p (p.Bh+kk) J T A->(∀j,j<i->g4 T j=g4 to j∧gi A j=gi acts j)->(⟨gi A i,g4 T i⟩:KV)=mv->Has l' T (c0+Xt A p.Bj.length)) (Ite.mk (λe2=>?_) (λe2=>?_)) (λl' hl'=>⟨hw,hl'.1,λT c hc=>hl'.2.1 T c (g2 T c hc),λT A hT hag hc=>?_⟩)
   ·have hfr:=hb2.1 e2;refine⟨_,Qo rfl (Q42 hi4),_,Q9F hi4,_,Qo rfl (Q9A hi4),_,QaA hi4,ZO (by omega) ⟨by simp;omega,?_⟩⟩;have hmore:=hp.more hi4 hx (q':=mv.Bi) (act:=mv.Av) (.inr ⟨e,hmem⟩) (more:=[(g4 J i).cell,mv.Bi.cell]) (λc=>by simp) (by simp) hfr;have hcost:c0+Xt (si acts i mv.Av) (i+1)=c0+Xt acts i+1:=by
     rw [Xt,Q6K hi4 hi4,gF rfl,gC (by have:=hok.2.1;omega),Q39 (b:=acts) i (λj hj=>by rw [Q6K hi4 (by omega),gC (by omega)])];omega
    have:=ih (i+1) _ _ _ l (λl'=>LOk P l'∧(∀T c,Has l T c->Has l' T c)∧∀T A,YA p (p.Bh+kk) J T A->(∀j,j<i->g4 T j=g4 to j∧gi A j=gi acts j)->(⟨gi A i,g4 T i⟩:KV)=mv->Has l' T (c0+Xt A p.Bj.length)) (by omega) hmore g1 (λl' q1 q2 q3=>⟨q1,q2,λT A hT hag hA=>q3 T A hT (λj hj=>?_)⟩)
    ·rw [hcost] at this;exact this
    ·rw [Q78 hi4 (by omega),Q6K hi4 (by omega)];by_cases c:i=j
     ·subst c;rw [gF rfl,gF rfl,<-hA];exact⟨rfl,rfl⟩
     ·rw [gC c,gC c];exact hag j (by omega)
   ·refine⟨g1,λT c hc=>hc,λT A hT hag hA=>?_⟩;exfalso;have hr:=room T A hT hag;have:b=true:=hb2.2 (λc hc=>by
     simp only [List.mem_cons,List.not_mem_nil,or_false] at hc;refine hr c ?_;rcases hc with hc | hc
     ·exact .inl hc
     ·right;rw [hc,<-hA])
    rw [this] at e2;cases e2
   ·rcases hc with hc | ⟨n',hn',hmv'⟩
    ·exact hl'.2.1 T _ (g3 T A hT hag (.inl hc))
    ·by_cases c:n'=n
     ·subst c;rw [hmv] at hmv';exact hl'.2.2 T A hT hag (Option.some.inj hmv').symm
     ·exact hl'.2.1 T _ (g3 T A hT hag (.inr ⟨n',by omega,hmv'⟩))
  ·obtain⟨l,c⟩:=t;obtain⟨e1,g1,g2,g3⟩:=hI;simp only at e1 g1 g2 g3;subst e1;refine Ite.nlt (by show ¬(MV.length:Int)<_;omega) ⟨g1,g2,λT A hT hag=>g3 T A hT hag ?_⟩;rcases hT.st i x hx with ⟨h',_⟩ | ⟨_,h'⟩
   ·exact .inl h'
   ·rw [hMV] at h';obtain⟨n',hn',he⟩:=List.getElem_of_mem h';exact .inr ⟨n',hn',by rw [gE hn',he]⟩
theorem Q9k(k:QF p.s)(h:RS p.s)(hav:p.Ax.length≤maxLen)(ht:0≤p.Bh∧p.Bh≤20000)(h4:p.Bj.length≤4)(hJ:∀i,i<4->0≤(g4 J i).Ba∧(g4 J i).Ba≤1000)(hk:kk≤1000)(hc0:0≤c0∧c0≤100000)
  (hP:∀to acts,YA p (p.Bh+kk) J to acts->P to ⟨c0+Xt acts p.Bj.length,J,acts⟩) {layer:List (Q0×Qb)} (hL:LOk P layer) {post:List (Q0×Qb)->Prop}
  (hpost:∀layer',LOk P layer'->(∀T c,Has layer T c->Has layer' T c)->(∀T A,YA p (p.Bh+kk) J T A->Has layer' T (c0+Xt A p.Bj.length))->post layer'):
  Xx p 0 (kk:Int) z4K [] ⟨c0,J,i4K⟩ layer post:=by
 unfold Xx;intro X hX;have:=Q8B k h hav ht h4 hJ hk hc0 hP (X:=X) (λa post hb=>hX a post hb) p.Bj.length 0 z4K [] i4K layer post (by omega) ⟨λj y hj=>by omega,λa b _ hb=>by omega,λj _ hj=>by rcases four hj with rfl | rfl | rfl | rfl <;> rfl,λc=>by simp,by simp⟩ hL (λl g1 g2 g3=>hpost l g1 g2 (λT A hT=>g3 T A hT (λj hj=>by omega)));simpa [Xt] using this
end
def cfP(a b:Q1):Int:=
 if cfO a b=0∧a.B4≠b.B4 then (if a.B4=true then 1 else -1) else cfO a b
theorem Q3a{a b:Q1}(ha:pO a)(hb:pO b):(cfP a b<0↔WW a<WW b)∧(cfP a b=0↔WW a=WW b):=by
 obtain⟨c,r,d⟩:=a;obtain⟨c',r',d'⟩:=b;obtain⟨h1,h2,h3,h4⟩:=ha;obtain⟨g1,g2,g3,g4⟩:=hb;simp only at h1 h2 h3 h4 g1 g2 g3 g4;unfold cfP WW cfO;cases d <;> cases d' <;> simp only [ne_eq,reduceCtorEq,not_false_eq_true,not_true_eq_false,and_true,and_false,if_true,if_false,Bool.false_eq_true] <;> (repeat' split) <;> omega
theorem Q74{a b:Q1}(ha:pO a)(hb:pO b){post:Int->Prop}(hp:post (cfP a b)):Wq a b post:=by
 unfold Wq;obtain⟨h1,h2,h3,h4⟩:=ha;obtain⟨g1,g2,g3,g4⟩:=hb;rw [kw (by omega) (by omega),kw (by omega) (by omega)];refine Qaz ?_;show Jn _ _;have e0:(if a.cell-b.cell≠0 then a.cell-b.cell else a.Ba-b.Ba)=cfO a b:=rfl;rw [e0];refine Jn.mk (λq=>q=decide (cfO a b=0∧a.B4≠b.B4)) (Ite.mk (λe=>?_) (λe=>?_)) (λq e=>?_)
 ·have:cfO a b=0:=by simpa using e
  simp only [this,true_and];cases a.B4 <;> cases b.B4 <;> rfl
 ·have:cfO a b≠0:=by simpa using e
  simp [this]
 ·subst e;refine Jn.mk (λr=>r=cfP a b) (Ite.mk (λe=>?_) (λe=>?_)) (λr e=>by subst e;exact hp)
  ·have e':=of_decide_eq_true e;refine Jn.mk (λr=>r=cfP a b) (Ite.mk (λe2=>?_) (λe2=>?_)) (λr e=>e)
   ·unfold cfP;rw [gF e',gF e2]
   ·unfold cfP;rw [gF e',gC (by rw [e2];decide)]
  ·have e':=of_decide_eq_false e;unfold cfP;rw [gC e']
def cf4(a b:Q0):Int:=
 if cfP a.e0 b.e0≠0 then cfP a.e0 b.e0 else if cfP a.e1 b.e1≠0 then cfP a.e1 b.e1 else if cfP a.e2 b.e2≠0 then cfP a.e2 b.e2 else if cfP a.e3 b.e3≠0 then cfP a.e3 b.e3 else 0
def pJ(a:Q0):Prop:=(pO a.e0∧pO a.e1∧pO a.e2∧pO a.e3)∧a.e0.cell≤15∧a.e1.cell≤15∧a.e2.cell≤15∧a.e3=p0K
def key4(a:Q0):Int:=((WW a.e0*3232+WW a.e1)*3232+WW a.e2)*3232+WW a.e3
theorem GU{q:Q1}(h:pO q)(hc:q.cell≤15):0≤WW q∧WW q<3232:=by
 obtain⟨h1,h2,h3,h4⟩:=h;unfold WW;split <;> omega
theorem Q3Y:WW p0K=0:=by decide
theorem Q0c{a b:Q0}(ha:pJ a)(hb:pJ b):cf4 a b<0↔key4 a<key4 b:=by
 obtain⟨⟨a0,a1,a2,a3⟩,x0,x1,x2,x3⟩:=ha;obtain⟨⟨b0,b1,b2,b3⟩,y0,y1,y2,y3⟩:=hb;have s0:=Q3a a0 b0;have s1:=Q3a a1 b1;have s2:=Q3a a2 b2;have s3:=Q3a a3 b3;have u0:=GU a0 x0;have u1:=GU a1 x1;have u2:=GU a2 x2;have v0:=GU b0 y0;have v1:=GU b1 y1;have v2:=GU b2 y2;have u3:WW a.e3=0:=by rw [x3];exact Q3Y
 have v3:WW b.e3=0:=by rw [y3];exact Q3Y
 have z3:cfP a.e3 b.e3=0:=s3.2.2 (by rw [u3,v3]);unfold cf4 key4;rw [u3,v3];generalize WW a.e0=A0 at *;generalize WW a.e1=A1 at *;generalize WW a.e2=A2 at *;generalize WW b.e0=B0 at *;generalize WW b.e1=B1 at *;generalize WW b.e2=B2 at *;generalize cfP a.e0 b.e0=c0 at *;generalize cfP a.e1 b.e1=c1 at *;generalize cfP a.e2 b.e2=c2 at *;generalize cfP a.e3 b.e3=c3 at *;clear a0 a1 a2 a3 b0 b1 b2 b3 x0 x1 x2 x3 y0 y1 y2 y3 u3 v3 s3;split
 ·rename_i h;have:A0≠B0:=λe=>h (s0.2.2 e)
  constructor
  ·intro h';have:=s0.1.1 h';omega
  ·intro h';exact s0.1.2 (by omega)
 ·rename_i h;have e0:A0=B0:=s0.2.1 (by omega);split
  ·rename_i h;have:A1≠B1:=λe=>h (s1.2.2 e)
   constructor
   ·intro h';have:=s1.1.1 h';omega
   ·intro h';exact s1.1.2 (by omega)
  ·rename_i h;have e1:A1=B1:=s1.2.1 (by omega);split
   ·rename_i h;have:A2≠B2:=λe=>h (s2.2.2 e)
    constructor
    ·intro h';have:=s2.1.1 h';omega
    ·intro h';exact s2.1.2 (by omega)
   ·rename_i h;have e2:A2=B2:=s2.2.1 (by omega);rw [gC (by omega)];omega
theorem Qa9{a b:Q0}(ha:pJ a)(hb:pJ b)(h:key4 a=key4 b):a=b:=by
 obtain⟨⟨a0,a1,a2,a3⟩,x0,x1,x2,x3⟩:=ha;obtain⟨⟨b0,b1,b2,b3⟩,y0,y1,y2,y3⟩:=hb;have u0:=GU a0 x0;have u1:=GU a1 x1;have u2:=GU a2 x2;have v0:=GU b0 y0;have v1:=GU b1 y1;have v2:=GU b2 y2;have u3:WW a.e3=0:=by rw [x3];exact Q3Y
 have v3:WW b.e3=0:=by rw [y3];exact Q3Y
 unfold key4 at h;rw [u3,v3] at h;have e0:a.e0=b.e0:=Q1P a0 b0 (by omega);have e1:a.e1=b.e1:=Q1P a1 b1 (by omega);have e2:a.e2=b.e2:=Q1P a2 b2 (by omega);cases a;cases b;simp only at e0 e1 e2 x3 y3;subst e0;subst e1;subst e2;subst x3;subst y3;rfl
theorem Q6V{a:Q0}(ha:pJ a):0≤key4 a / 3232∧key4 a / 3232<33761000000∧key4 a=key4 a / 3232*3232:=by
 obtain⟨⟨a0,a1,a2,a3⟩,x0,x1,x2,x3⟩:=ha;have u0:=GU a0 x0;have u1:=GU a1 x1;have u2:=GU a2 x2;have u3:WW a.e3=0:=by rw [x3];exact Q3Y
 unfold key4;rw [u3];omega
theorem swo4:SWOc λx y:Subtype pJ=>cf4 x.1 y.1:=by
 refine⟨λx=>?_,λx y z h1 h2=>?_,λx y z h1 h2=>?_⟩
 ·rw [Q0c x.2 x.2];omega
 ·rw [Q0c x.2 y.2] at h1;rw [Q0c y.2 z.2] at h2;rw [Q0c x.2 z.2];omega
 ·rw [Q0c x.2 y.2] at h1;rw [Q0c y.2 z.2] at h2;rw [Q0c x.2 z.2];omega
theorem Q7n{a b:Q0}(ha:pJ a)(hb:pJ b){post:Int->Prop}(hp:post (cf4 a b)):Wv a b post:=by
 unfold Wv Qs;obtain⟨⟨a0,a1,a2,a3⟩,_⟩:=ha;obtain⟨⟨b0,b1,b2,b3⟩,_⟩:=hb;have pa:∀i,i<4->pO (g4 a i):=λi hi=>by rcases four hi with rfl | rfl | rfl | rfl <;> assumption
 have pb:∀i,i<4->pO (g4 b i):=λi hi=>by rcases four hi with rfl | rfl | rfl | rfl <;> assumption
 have val:∀i,i<4->(∀j,j<i->cfP (g4 a j) (g4 b j)=0)->cfP (g4 a i) (g4 b i)≠0->cf4 a b=cfP (g4 a i) (g4 b i):=λi hi h0 h1=>by
  unfold cf4;rcases four hi with rfl | rfl | rfl | rfl
  ·simp only [g4] at h1 ⊢;rw [gF h1]
  ·have q0:=h0 0 (by decide);simp only [g4] at q0 h1 ⊢;rw [gC (by omega),gF h1]
  ·have q0:=h0 0 (by decide);have q1:=h0 1 (by decide);simp only [g4] at q0 q1 h1 ⊢;rw [gC (by omega),gC (by omega),gF h1]
  ·have q0:=h0 0 (by decide);have q1:=h0 1 (by decide);have q2:=h0 2 (by decide);simp only [g4] at q0 q1 q2 h1 ⊢;rw [gC (by omega),gC (by omega),gC (by omega),gF h1]
 refine Jn.mk (λ_=>cf4 a b=0) (Loop.inv 4 (λi (t:Int)=>t=(i:Int)∧∀j,j<i->cfP (g4 a j) (g4 b j)=0) ⟨rfl,λj hj=>by omega⟩ (λi t hi hI=>?_) (λt hI=>?_)) (λ_ e=>?_)
 ·obtain⟨rfl,hI⟩:=hI;refine Ite.lt (by simp;omega) ⟨_,Qo rfl (Q42 hi),Ite.f (decide_eq_false (by simp;omega)) ⟨_,Qo rfl (Q42 hi),Q74 (pa i hi) (pb i hi) (Ite.mk (λe=>?_) (λe=>?_))⟩⟩
  ·have e':cfP (g4 a i) (g4 b i)≠0:=by simpa using e
   rw [val i hi hI e'] at hp;exact hp
  ·have e':cfP (g4 a i) (g4 b i)=0:=by simpa using e
   refine⟨by rw [kw1 (by omega)],λj hj=>?_⟩;by_cases c:j=i
   ·subst c;exact e'
   ·exact hI j (by omega)
 ·obtain⟨rfl,hI⟩:=hI;refine Ite.nlt (by simp) ?_;have q0:=hI 0 (by decide);have q1:=hI 1 (by decide);have q2:=hI 2 (by decide);have q3:=hI 3 (by decide);simp only [g4] at q0 q1 q2 q3;unfold cf4;rw [gC (by omega),gC (by omega),gC (by omega),gC (by omega)]
 ·rw [e] at hp;exact Ite.f (by simp) hp
theorem Q9v{layer:List (Q0×Qb)}(h:∀x,lk layer x≠none->pJ x){post:List Q0->Prop}(hp:∀ys:List Q0,ys.length≤33761000000->(∀x,x∈ys↔lk layer x≠none)->post ys):Yl layer post:=by
 unfold Yl;have hB:∀ks:List Q0,ks.Nodup->(∀x,x∈ks->lk layer x≠none)->ks.length≤33761000000:=λks h1 h2=>
  QaC (λa=>key4 a / 3232) h1 (λx hx=>by have:=Q6V (h x (h2 x hx));omega) (λx hx y hy e=>Qa9 (h x (h2 x hx)) (h y (h2 y hy)) (by have:=Q6V (h x (h2 x hx));have:=Q6V (h y (h2 y hy));omega))
 refine Jn.mk (λks=>ks.Nodup∧∀x,x∈ks↔lk layer x≠none) (Q7x (J:=λks:List Q0=>ks.Nodup∧∀x,x∈ks↔lk layer x≠none) (λks h1 h2=>by have:=hB ks h1 h2;omega) (λks h1 h2=>⟨h1,h2⟩)) (λks ⟨h1,h2⟩=>?_);have hlen:=hB ks h1 (λx hx=>(h2 x).1 hx);unfold QL;refine⟨pJ,cf4,?_,swo4,λx hx=>h x ((h2 x).1 hx),λx y hx hy=>Q7n hx hy rfl,by omega,λys hperm _=>hp ys (by rw [hperm.length_eq];exact hlen) (λx=>by rw [hperm.mem_iff];exact h2 x)⟩;have hd:pO p0K:=⟨by decide,by decide,by decide,by decide⟩;exact⟨⟨hd,hd,hd,hd⟩,by decide,by decide,by decide,rfl⟩
def arrJ(p:Qq)(J:Q0):Prop:=∀(i:Nat) x,p.Bj[i]?=some x->(g4 J i).cell=x.To
theorem Q9t{p:Qq}(h4:p.Bj.length≤4){J:Q0}{post:Bool->Prop}(hp:∀b,(b=true↔arrJ p J)->post b):Xq p J post:=by
 unfold Xq;refine Jn.mk (λ_=>arrJ p J) (Loop.inv p.Bj.length (λi (t:Int)=>t=(i:Int)∧∀(j:Nat) x,j<i->p.Bj[j]?=some x->(g4 J j).cell=x.To) ⟨rfl,λj x hj=>by omega⟩ (λi t hi hI=>?_) (λt hI=>?_)) (λ_ h=>hp true (by simp [h]))
 ·obtain⟨rfl,hI⟩:=hI;have hx:p.Bj[i]?=some (p.Bj[i]'hi):=gE hi;generalize p.Bj[i]'hi=x at hx;refine Ite.lt (by omega) ⟨x,Qo rfl hx,_,Qo rfl (Q42 (by omega)),Ite.mk (λe=>?_) (λe=>?_)⟩
  ·have e':(g4 J i).cell≠x.To:=by simpa using e
   exact hp false ⟨λh=>(by cases h),λh=>absurd (h i x hx) e'⟩
  ·have e':(g4 J i).cell=x.To:=by simpa using e
   refine⟨by rw [kw1 (by omega)],λj y hj hy=>?_⟩;by_cases c:j=i
   ·subst c;rw [hx] at hy;cases hy;exact e'
   ·exact hI j y (by omega) hy
 ·obtain⟨rfl,hI⟩:=hI;exact Ite.nlt (by omega) (λi x hx=>hI i x (gS.1 hx).1 hx)
structure StJ (p:Qq) (S:Q0):Prop where
 b:∀(i:Nat) x,p.Bj[i]?=some x->g4 S i=⟨x.Aa,0,false⟩
 u:∀i:Nat,p.Bj.length≤i->i<4->g4 S i=p0K
inductive XR (p:Qq):Int->Q0->List (Q0×Qm)->Prop
 | nil (t:Int) (J:Q0):XR p t J []
 | cons {t:Int} {J J':Q0} {A:Qm} {r:List (Q0×Qm)} (h:YA p t J J' A) (hr:XR p (t+1) J' r):XR p t J ((J',A) :: r)
def Q04:Q0->List (Q0×Qm)->Q0
 | J,[]=>J
 | _,e :: r=>Q04 e.1 r
def Y9(n:Nat):List (Q0×Qm)->Int
 | []=>0
 | e :: r=>Xt e.2 n+Y9 n r
structure XL (p:Qq) (S:Q0) (ls:List (List (Q0×Qb))):Prop where
 z:∀l,ls[0]?=some l->(∀J o,lk l J=some o->J=S∧o.Az=0)∧lk l S≠none
 s:∀(j:Nat) l l',ls[j]?=some l->ls[j+1]?=some l'->∀T st,lk l' T=some st->∃o,lk l st.B5=some o∧YA p (p.Bh+j) st.B5 T st.Aw∧st.Az=o.Az+Xt st.Aw p.Bj.length
 c:∀(j:Nat) l l',ls[j]?=some l->ls[j+1]?=some l'->(j:Int)<p.B6->∀J o,lk l J=some o->∀T A,YA p (p.Bh+j) J T A->Has l' T (o.Az+Xt A p.Bj.length)
theorem Q1V.q{s:Q5}(h:RS s){avoid:List Int}{t:Int}{x:Qu}{q q':Q1}{act:Int}(hq:isQ s (q.cell,q.Ba))(hs:Q1V s avoid t x q q' act):isQ s (q'.cell,q'.Ba):=by
 rcases hs with ⟨_,rfl,_⟩ | ⟨_,hm⟩
 ·exact⟨hq.1,by simp,by simp⟩
 ·obtain⟨m1,_⟩:=Q26 h hq.2.1 hm;have:=Q3d h hq (by rw [m1]);rw [m1] at this;exact this
section
variable {p:Qq} {S:Q0} {ls:List (List (Q0×Qb))}
theorem XL.q(h:RS p.s)(hf:∀x,x∈p.Bj->isC p.s.A9 x.Aa=true)(hS:StJ p S)(hL:XL p S ls):∀(j:Nat) l,ls[j]?=some l->∀J o,lk l J=some o ->
  (∀(i:Nat) x,p.Bj[i]?=some x->isQ p.s ((g4 J i).cell,(g4 J i).Ba))∧(∀i:Nat,p.Bj.length≤i->i<4->g4 J i=p0K)∧0≤o.Az∧o.Az≤j*p.Bj.length
 | 0,l,hl,J,o,ho=>by
  obtain⟨rfl,hc⟩:=(hL.z l hl).1 J o ho;refine⟨λi x hx=>?_,hS.u,by omega,by omega⟩;rw [hS.b i x hx];exact⟨hf x (gM hx),by simp,by simp⟩
 | j+1,l',hl',T,st,hst=>by
  have hj:j<ls.length:=by have:=(gS.1 hl').1;omega
  have hl:ls[j]?=some (ls[j]'hj):=gE hj;obtain⟨o,ho,hJ,hc⟩:=hL.s j _ l' hl hl' T st hst;obtain⟨g1,g2,g3,g4'⟩:=XL.q h hf hS hL j _ hl _ o ho;have hb:=Q3f st.Aw p.Bj.length;refine⟨λi x hx=>(hJ.st i x hx).q h (g1 i x hx),hJ.un,by omega,?_⟩;have:((j+1:Nat):Int)*(p.Bj.length:Int)=j*p.Bj.length+p.Bj.length:=by rw [Int.natCast_add];simp [Int.add_mul]
  omega
theorem XL.pJ(h:RS p.s)(hf:∀x,x∈p.Bj->isC p.s.A9 x.Aa=true)(h16:p.s.A9.Ac.length≤16)(h3:p.Bj.length≤3)(hS:StJ p S)(hL:XL p S ls){j:Nat}{l:List (Q0×Qb)}(hl:ls[j]?=some l){J:Q0}(hJ:lk l J≠none):pJ J:=by
 obtain⟨o,ho⟩:∃o,lk l J=some o:=by
  cases hx:lk l J with
  | none=>exact absurd hx hJ
  | some o=>exact⟨o,rfl⟩
 obtain⟨g1,g2,_,_⟩:=hL.q h hf hS j l hl J o ho;have each:∀i,i<4->pO (g4 J i)∧(g4 J i).cell≤15:=λi hi=>by
  by_cases c:i<p.Bj.length
  ·have hx:p.Bj[i]?=some (p.Bj[i]'c):=gE c;have hq:=g1 i _ hx;refine⟨Qar (by omega) hq,?_⟩;have:=hq.1;simp only [isC,gP,decide_eq_true_eq] at this;omega
  ·rw [g2 i (by omega) hi];exact⟨⟨by decide,by decide,by decide,by decide⟩,by decide⟩
 exact⟨⟨(each 0 (by decide)).1,(each 1 (by decide)).1,(each 2 (by decide)).1,(each 3 (by decide)).1⟩,(each 0 (by decide)).2,(each 1 (by decide)).2,(each 2 (by decide)).2,g2 3 h3 (by decide)⟩
theorem XL.all(hL:XL p S ls):∀(tr:List (Q0×Qm)) (j:Nat) (J:Q0) (c:Int) l,ls[j]?=some l->Has l J c->XR p (p.Bh+j) J tr->((j+tr.length:Nat):Int)≤p.B6->j+tr.length<ls.length->∃l',ls[j+tr.length]?=some l'∧Has l' (Q04 J tr) (c+Y9 p.Bj.length tr)
 | [],j,J,c,l,hl,hH,_,_,_=>⟨l,by simpa using hl,by simpa [Q04,Y9] using hH⟩
 | (J',A) :: r,j,J,c,l,hl,hH,hc,hm,hlen=>by
  cases hc with
  | cons hs hr=>
   simp only [List.length_cons] at hm hlen ⊢;obtain⟨o,ho,hoc⟩:=hH;have hl':ls[j+1]?=some (ls[j+1]'(by omega)):=gE _;generalize ls[j+1]'(by omega)=l1 at hl';obtain⟨o',ho',hoc'⟩:=hL.c j l l1 hl hl' (by omega) J o ho J' A hs;have hr':XR p (p.Bh+((j+1:Nat):Int)) J' r:=by rw [Int.natCast_add,<-Int.add_assoc];exact hr
   obtain⟨l2,h2,h3⟩:=XL.all hL r (j+1) J' (c+Xt A p.Bj.length) l1 hl' ⟨o',ho',by omega⟩ hr' (by omega) (by omega);refine⟨l2,by rw [show j+(r.length+1)=j+1+r.length by omega];exact h2,?_⟩;simp only [Q04,Y9];rw [<-Int.add_assoc];exact h3
theorem XL.push(hL:XL p S ls){k:Nat}{l nxt:List (Q0×Qb)}(hk:ls.length=k+1)(hl:ls[k]?=some l)
  (h1:∀T st,lk nxt T=some st->∃o,lk l st.B5=some o∧YA p (p.Bh+k) st.B5 T st.Aw∧st.Az=o.Az+Xt st.Aw p.Bj.length)
  (h2:(k:Int)<p.B6->∀J o,lk l J=some o->∀T A,YA p (p.Bh+k) J T A->Has nxt T (o.Az+Xt A p.Bj.length)):XL p S (ls++[nxt]):=by
 have low:∀(j:Nat) l1 l2,(ls++[nxt])[j]?=some l1->(ls++[nxt])[j+1]?=some l2->(ls[j]?=some l1∧ls[j+1]?=some l2)∨(j=k∧l1=l∧l2=nxt):=λj l1 l2 a1 a2=>by
  by_cases c:j+1<ls.length
  ·rw [gL (by omega)] at a1;rw [gL c] at a2;exact .inl ⟨a1,a2⟩
  ·have hj:=(gS.1 a2).1;simp at hj;have:j=k:=by omega
   subst this;rw [gL (by omega)] at a1;rw [hl] at a1;cases a1;rw [gR (by omega),show j+1-ls.length=0 by omega] at a2;simp at a2;exact .inr ⟨rfl,rfl,a2.symm⟩
 refine⟨λl0 h0=>hL.z l0 (by rw [gL (by omega)] at h0;exact h0),λj l1 l2 a1 a2 T st hst=>?_,λj l1 l2 a1 a2 hm J o ho T A hs=>?_⟩
 ·rcases low j l1 l2 a1 a2 with ⟨b1,b2⟩ | ⟨rfl,rfl,rfl⟩
  ·exact hL.s j l1 l2 b1 b2 T st hst
  ·exact h1 T st hst
 ·rcases low j l1 l2 a1 a2 with ⟨b1,b2⟩ | ⟨rfl,rfl,rfl⟩
  ·exact hL.c j l1 l2 b1 b2 hm J o ho T A hs
  ·exact h2 hm J o ho T A hs
end
def actsJ(i:Nat)(tr:List (Q0×Qm)):List Int:=(tr.map (λe=>gi e.2 i)).filter (λa=>decide (a≥0))
theorem Q3U(i:Nat)(tr:List (Q0×Qm)):(actsJ i tr).length≤tr.length:=by
 have:=List.length_filter_le (λa:Int=>decide (a≥0)) (tr.map (λe=>gi e.2 i));simpa [actsJ] using this
section
variable {p:Qq}
def BInv(p:Qq)(ls:List (List (Q0×Qb)))(seen:Nat->Q0->Prop)(best:Q0)(cost at_:Int):Prop:=
 (cost=-1∧at_=0∧∀j J,seen j J->¬arrJ p J)∨(0≤cost∧∃(m:Nat) (l:List (Q0×Qb)) (o:Qb),at_=(m:Int)∧(m:Int)≤p.B6∧ls[m]?=some l∧lk l best=some o∧o.Az=cost∧arrJ p best ∧
  ∀j J l o,seen j J->arrJ p J->ls[j]?=some l->lk l J=some o->cost≤o.Az)
theorem Q9H(k:QF p.s)(h:RS p.s)(h16:p.s.A9.Ac.length≤16)(hav:p.Ax.length≤maxLen)(ht:0≤p.Bh∧p.Bh≤20000)(hm:0≤p.B6∧p.B6≤100)(h3:p.Bj.length≤3)(hf:∀x,x∈p.Bj->isC p.s.A9 x.Aa=true)
  {post:List (List Int)×Int->Prop}
  (hp:∀S tr plan,StJ p S->XR p p.Bh S tr->arrJ p (Q04 S tr)->(tr.length:Int)≤p.B6->plan.length=p.Bj.length->(∀i:Nat,i<p.Bj.length->plan[i]?=some (actsJ i tr)) ->
   (∀tr',XR p p.Bh S tr'->arrJ p (Q04 S tr')->(tr'.length:Int)≤p.B6->Y9 p.Bj.length tr≤Y9 p.Bj.length tr')->post (plan,0))
  (hw:(∀S tr',StJ p S->XR p p.Bh S tr'->arrJ p (Q04 S tr')->(tr'.length:Int)≤p.B6->False)->post ([],14)):XY p post:=by
 unfold XY;obtain⟨n,hn⟩:∃n:Nat,p.B6=(n:Int):=⟨p.B6.toNat,by omega⟩;refine Jn.mk (λS=>StJ p S) (Loop.inv p.Bj.length (λi (t:Q0×Int)=>t.2=(i:Int)∧(∀(j:Nat) x,j<i->p.Bj[j]?=some x->g4 t.1 j=⟨x.Aa,0,false⟩)∧∀j:Nat,i≤j->j<4->g4 t.1 j=p0K) ⟨rfl,λj x hj=>by omega,λj _ hj=>by rcases four hj with rfl | rfl | rfl | rfl <;> rfl⟩ (λi t hi hI=>?_) (λt hI=>?_)) (λS hS=>?_)
 ·obtain⟨S,c⟩:=t;obtain⟨e1,e2,e3⟩:=hI;simp only at e1 e2 e3;subst e1;have hx:p.Bj[i]?=some (p.Bj[i]'hi):=gE hi;generalize p.Bj[i]'hi=x at hx;have hi4:i<4:=by omega
  refine Ite.lt (by show (i:Int)<_;omega) ⟨x,Qo rfl hx,_,Qo rfl (Q42 hi4),_,Q9F hi4,?_,λj y hj hy=>?_,λj hj h4=>?_⟩
  ·show w64 ((i:Int)+1)=_;rw [kw1 (by omega)]
  ·show g4 (s4 S i _) j=_;rw [Q78 hi4 (by omega)];by_cases c:i=j
   ·subst c;rw [gF rfl];rw [hx] at hy;cases hy;rfl
   ·rw [gC c];exact e2 j y (by omega) hy
  ·show g4 (s4 S i _) j=_;rw [Q78 hi4 h4,gC (by omega)];exact e3 j (by omega) h4
 ·obtain⟨S,c⟩:=t;obtain⟨e1,e2,e3⟩:=hI;simp only at e1 e2 e3;subst e1;exact Ite.nlt (by show ¬(p.Bj.length:Int)<_;omega) ⟨λi x hx=>e2 i x (gS.1 hx).1 hx,e3⟩
 have hX0:XL p S [upd ([]:List (Q0×Qb)) S st0K]:=by
  refine⟨λl hl=>?_,λj l l' h1 h2=>?_,λj l l' h1 h2=>?_⟩
  ·simp at hl;subst hl;refine⟨λJ o ho=>?_,by rw [GR,gF rfl];simp⟩;rw [GR] at ho;split at ho
   ·rename_i e;cases ho;exact⟨e.symm,rfl⟩
   ·cases ho
  ·have:=(gS.1 h2).1;simp at this
  ·have:=(gS.1 h2).1;simp at this
 refine Jn.mk (λ(r:List (List (Q0×Qb))×Q0×Int×Int)=>r.1.length=n+2∧XL p S r.1∧BInv p r.1 (λj J=>j<n+1∧∃l,r.1[j]?=some l∧lk l J≠none) r.2.1 r.2.2.1 r.2.2.2)
  (Loop.inv (n+1) (λkk (t:List (List (Q0×Qb))×Q0×Int×Int×Int)=>t.2.2.2.2=(kk:Int)∧t.1.length=kk+1∧XL p S t.1∧BInv p t.1 (λj J=>j<kk∧∃l,t.1[j]?=some l∧lk l J≠none) t.2.1 t.2.2.1 t.2.2.2.1) ⟨rfl,rfl,hX0,.inl ⟨rfl,rfl,λj J hj=>by omega⟩⟩ (λkk t hk hI=>?_) (λt hI=>?_)) (λr hr=>?_)
 ·obtain⟨ls,best,cost,at_,c⟩:=t;obtain⟨e1,hlen,hL,hB⟩:=hI;simp only at e1 hlen hL hB;subst e1;refine Ite.t (decide_eq_true (by show (kk:Int)≤_;omega)) ?_;obtain⟨l,hl⟩:∃l,ls[kk]?=some l:=⟨_,gE (by omega)⟩;have hset:ls.set (Int.toNat (kk:Int)) l=ls:=Q45 (Qo rfl hl);refine Jn.mk (λ(r:List (List (Q0×Qb))×Q0×Int×Int)=>r.1.length=kk+2∧XL p S r.1∧BInv p r.1 (λj J=>j<kk+1∧∃l,r.1[j]?=some l∧lk l J≠none) r.2.1 r.2.2.1 r.2.2.2)
   ⟨l,Qo rfl hl,Q9v (λJ hJ=>hL.pJ h hf h16 h3 hS hl hJ) (λys hys hmem=>?_)⟩ (λr hr=>⟨by show w64 ((kk:Int)+1)=_;rw [kw1 (by omega)],hr⟩)
  rw [hset];refine Jn.mk (λ(r:List (List (Q0×Qb))×Q0×Int×Int×List (Q0×Qb))=>r.1=ls∧BInv p ls (λj J=>j<kk+1∧∃l,ls[j]?=some l∧lk l J≠none) r.2.1 r.2.2.1 r.2.2.2.1 ∧
    (∀T st,lk r.2.2.2.2 T=some st->∃o,lk l st.B5=some o∧YA p (p.Bh+kk) st.B5 T st.Aw∧st.Az=o.Az+Xt st.Aw p.Bj.length)∧((kk:Int)<p.B6->∀J o,lk l J=some o->∀T A,YA p (p.Bh+kk) J T A->Has r.2.2.2.2 T (o.Az+Xt A p.Bj.length)))
   (Loop.inv ys.length (λm (t:List (List (Q0×Qb))×Q0×Int×Int×List (Q0×Qb)×Int)=>t.2.2.2.2.2=(m:Int)∧t.1=ls∧BInv p ls (λj J=>(j<kk∧∃l,ls[j]?=some l∧lk l J≠none)∨(j=kk∧∃m':Nat,m'<m∧ys[m']?=some J)) t.2.1 t.2.2.1 t.2.2.2.1 ∧
    (∀T st,lk t.2.2.2.2.1 T=some st->∃o,lk l st.B5=some o∧YA p (p.Bh+kk) st.B5 T st.Aw∧st.Az=o.Az+Xt st.Aw p.Bj.length)∧((kk:Int)<p.B6->∀(m':Nat) J o,m'<m->ys[m']?=some J->lk l J=some o->∀T A,YA p (p.Bh+kk) J T A->Has t.2.2.2.2.1 T (o.Az+Xt A p.Bj.length)))
    ⟨rfl,rfl,?_,(λT st hst=>by cases hst),(λ_ m' J o hm'=>by omega)⟩ (λm t hm' hI=>?_) (λt hI=>?_)) (λr hr=>?_)
  ·rcases hB with ⟨q1,q2,q3⟩ | ⟨q1,m,l',o,q2,q3,q4,q5,q6,q7,q8⟩
   ·exact .inl ⟨q1,q2,λj J hj=>by rcases hj with hj | ⟨_,m',hm',_⟩;exact q3 j J hj;omega⟩
   ·exact .inr ⟨q1,m,l',o,q2,q3,q4,q5,q6,q7,λj J l o hj=>by rcases hj with hj | ⟨_,m',hm',_⟩;exact q8 j J l o hj;omega⟩
  ·obtain⟨ls',best,cost,at_,nxt,c⟩:=t;obtain⟨e1,e2,hB',hN,hC⟩:=hI;simp only at e1 e2 hB' hN hC;subst e1;subst e2;have hy:ys[m]?=some (ys[m]'hm'):=gE hm';generalize ys[m]'hm'=J at hy;have hJ:lk l J≠none:=(hmem J).1 (gM hy);obtain⟨o,ho⟩:∃o,lk l J=some o:=by
    cases hx:lk l J with
    | none=>exact absurd hx hJ
    | some o=>exact⟨o,rfl⟩
   obtain⟨hq,hu,hc1,hc2⟩:=hL.q h hf hS kk l hl J o ho;have hcb:o.Az≤400:=by
    have:(kk:Int)*(p.Bj.length:Int)≤101*3:=by
     have h1:(kk:Int)≤101:=by omega
     have h2:(p.Bj.length:Int)≤3:=by omega
     exact Int.mul_le_mul h1 h2 (by omega) (by omega)
    omega
   refine Ite.lt (by show (m:Int)<_;omega) ⟨J,Qo rfl hy,l,Qo rfl hl,?_⟩;rw [ho];simp only [Option.getD_some];refine Jn.mk (λb=>(b=true->arrJ p J∧(cost<0∨o.Az<cost))∧(b=false->arrJ p J->0≤cost∧cost≤o.Az)) (Q9t (by omega) (λb hb=>Ite.mk (λe=>Ite.mk (λe2=>?_) (λe2=>?_)) (λe=>?_))) (λb hb=>?_)
   ·exact⟨λ_=>⟨hb.1 e,.inl (of_decide_eq_true e2)⟩,λh=>(by cases h)⟩
   ·have e2':=of_decide_eq_false e2;exact⟨λh'=>⟨hb.1 e,.inr (of_decide_eq_true h')⟩,λh' _=>by have:=of_decide_eq_false h';omega⟩
   ·exact⟨λh'=>(by cases h'),λ_ hA=>by have:=hb.2 hA;rw [this] at e;cases e⟩
   refine Jn.mk (λ(r:Q0×Int×Int)=>BInv p ls' (λj J=>(j<kk∧∃l,ls'[j]?=some l∧lk l J≠none)∨(j=kk∧∃m':Nat,m'<m+1∧ys[m']?=some J)) r.1 r.2.1 r.2.2) (Ite.mk (λe=>?_) (λe=>?_)) (λr hr=>?_)
   ·obtain⟨hA,hlt⟩:=hb.1 e;refine .inr ⟨hc1,kk,l,o,rfl,by omega,hl,ho,rfl,hA,λj J' l' o' hj hA' hl' ho'=>?_⟩;show o.Az≤o'.Az;have old:((j<kk∧∃l,ls'[j]?=some l∧lk l J'≠none)∨(j=kk∧∃m':Nat,m'<m∧ys[m']?=some J'))->o.Az≤o'.Az:=λhj=>by
     rcases hB' with ⟨_,_,q3⟩ | ⟨q1,_,_,_,_,_,_,_,_,_,q8⟩
     ·exact absurd hA' (q3 j J' hj)
     ·have:=q8 j J' l' o' hj hA' hl' ho';omega
    rcases hj with hj | ⟨rfl,m',hm'',hy'⟩
    ·exact old (.inl hj)
    ·by_cases c:m'=m
     ·subst c;rw [hy] at hy';cases hy';rw [hl] at hl';cases hl';rw [ho] at ho';cases ho';omega
     ·exact old (.inr ⟨rfl,m',by omega,hy'⟩)
   ·have hno:=hb.2 e;rcases hB' with ⟨q1,q2,q3⟩ | ⟨q1,m0,l0,o0,q2,q3,q4,q5,q6,q7,q8⟩
    ·refine .inl ⟨q1,q2,λj J' hj=>?_⟩;rcases hj with hj | ⟨rfl,m',hm'',hy'⟩
     ·exact q3 j J' (.inl hj)
     ·by_cases c:m'=m
      ·subst c;rw [hy] at hy';cases hy';intro hA;have:=hno hA;have:(best,cost,at_).2.1=cost:=rfl;omega
      ·exact q3 j J' (.inr ⟨rfl,m',by omega,hy'⟩)
    ·refine .inr ⟨q1,m0,l0,o0,q2,q3,q4,q5,q6,q7,λj J' l' o' hj hA' hl' ho'=>?_⟩;rcases hj with hj | ⟨rfl,m',hm'',hy'⟩
     ·exact q8 j J' l' o' (.inl hj) hA' hl' ho'
     ·by_cases c:m'=m
      ·subst c;rw [hy] at hy';cases hy';rw [hl] at hl';cases hl';rw [ho] at ho';cases ho';exact (hno hA').2
      ·exact q8 j J' l' o' (.inr ⟨rfl,m',by omega,hy'⟩) hA' hl' ho'
   refine Jn.mk (λnxt'=>(∀T st,lk nxt' T=some st->∃o,lk l st.B5=some o∧YA p (p.Bh+kk) st.B5 T st.Aw∧st.Az=o.Az+Xt st.Aw p.Bj.length)∧((kk:Int)<p.B6->∀(m':Nat) J o,m'<m+1->ys[m']?=some J->lk l J=some o->∀T A,YA p (p.Bh+kk) J T A->Has nxt' T (o.Az+Xt A p.Bj.length))) (Ite.mk (λe=>?_) (λe=>?_)) (λnxt' h'=>⟨by show w64 ((m:Int)+1)=_;rw [K9 (by omega) (by omega)];rfl,by rw [hset],hr,h'.1,h'.2⟩)
   ·refine Q9k k h hav ht (by omega) (λi hi=>?_) (by omega) ⟨hc1,by omega⟩ (P:=λT st=>∃o,lk l st.B5=some o∧YA p (p.Bh+kk) st.B5 T st.Aw∧st.Az=o.Az+Xt st.Aw p.Bj.length) (λto acts hs=>⟨o,ho,hs,rfl⟩) (λT st hst=>hN T st hst) (λnxt' g1 g2 g3=>⟨λT st hst=>g1 T st hst,λhlt m' J' o' hm'' hy' ho' T A hs=>?_⟩)
    ·by_cases c:i<p.Bj.length
     ·have:=hq i _ (gE c);have:=this.2;simp only at this;omega
     ·rw [hu i (by omega) hi];decide
    ·by_cases c:m'=m
     ·subst c;rw [hy] at hy';cases hy';rw [ho] at ho';cases ho';exact g3 T A hs
     ·exact g2 T _ (hC hlt m' J' o' (by omega) hy' ho' T A hs)
   ·have e':¬(kk:Int)<p.B6:=of_decide_eq_false e;exact⟨hN,λhlt=>absurd hlt e'⟩
  ·obtain⟨ls',best,cost,at_,nxt,c⟩:=t;obtain⟨e1,e2,hB',hN,hC⟩:=hI;simp only at e1 e2 hB' hN hC;subst e1;subst e2;have tr:∀j J,(j<kk+1∧∃l,ls'[j]?=some l∧lk l J≠none)->(j<kk∧∃l,ls'[j]?=some l∧lk l J≠none)∨(j=kk∧∃m':Nat,m'<ys.length∧ys[m']?=some J):=λj J ⟨hj,l0,hl0,hJ0⟩=>by
    by_cases c:j<kk
    ·exact .inl ⟨c,l0,hl0,hJ0⟩
    ·have:j=kk:=by omega
     subst this;rw [hl] at hl0;cases hl0;obtain⟨m',hm',he⟩:=List.getElem_of_mem ((hmem J).2 hJ0);exact .inr ⟨rfl,m',hm',by rw [gE hm',he]⟩
   refine Ite.nlt (by show ¬(ys.length:Int)<_;omega) ⟨rfl,?_,hN,λhlt J o ho T A hs=>?_⟩
   ·rcases hB' with ⟨q1,q2,q3⟩ | ⟨q1,m0,l0,o0,q2,q3,q4,q5,q6,q7,q8⟩
    ·exact .inl ⟨q1,q2,λj J hj=>q3 j J (tr j J hj)⟩
    ·exact .inr ⟨q1,m0,l0,o0,q2,q3,q4,q5,q6,q7,λj J l o hj=>q8 j J l o (tr j J hj)⟩
   ·obtain⟨m',hm',he⟩:=List.getElem_of_mem ((hmem J).2 (by rw [ho];simp));exact hC hlt m' J o hm' (by rw [gE hm',he]) ho T A hs
  ·obtain⟨ls',best,cost,at_,nxt⟩:=r;obtain⟨e2,hB',hN,hC⟩:=hr;simp only at e2 hB' hN hC;subst e2;have e1:(ls'++[nxt]).set ls'.length nxt=ls'++[nxt]:=by simp
   have same:∀j,j<kk+1->(ls'++[nxt])[j]?=ls'[j]?:=λj hj=>gL (by omega)
   dsimp only;rw [e1];refine⟨by omega,by simp [hlen],hL.push hlen hl hN hC,?_⟩;rcases hB' with ⟨q1,q2,q3⟩ | ⟨q1,m0,l0,o0,q2,q3,q4,q5,q6,q7,q8⟩
   ·exact .inl ⟨q1,q2,λj J ⟨hj,l1,hl1,hJ1⟩=>q3 j J ⟨hj,l1,by rw [<-same j hj];exact hl1,hJ1⟩⟩
   ·refine .inr ⟨q1,m0,l0,o0,q2,q3,by rw [gL (gS.1 q4).1];exact q4,q5,q6,q7,λj J l o ⟨hj,l1,hl1,hJ1⟩ hA hlj ho=>q8 j J l o ⟨hj,l1,by rw [<-same j hj];exact hl1,hJ1⟩ hA (by rw [<-same j hj];exact hlj) ho⟩
 ·obtain⟨ls,best,cost,at_,c⟩:=t;obtain⟨e1,hlen,hL,hB⟩:=hI;simp only at e1 hlen hL hB;subst e1;exact Ite.f (decide_eq_false (by show ¬((n+1:Nat):Int)≤_;omega)) ⟨by omega,hL,hB⟩
 obtain⟨ls,best,cost,at_⟩:=r;obtain⟨hlen,hL,hB⟩:=hr;simp only at hlen hL hB
 -- all that leads to the goals is in the layers
 have full:∀tr',XR p p.Bh S tr'->(tr'.length:Int)≤p.B6->∃l',ls[tr'.length]?=some l'∧Has l' (Q04 S tr') (Y9 p.Bj.length tr'):=λtr' hc hle=>by
  have h0:ls[0]?=some (ls[0]'(by omega)):=gE _;generalize ls[0]'(by omega)=l0 at h0;obtain⟨z1,z2⟩:=hL.z l0 h0;obtain⟨o,ho⟩:∃o,lk l0 S=some o:=by
   cases hx:lk l0 S with
   | none=>exact absurd hx z2
   | some o=>exact⟨o,rfl⟩
  have hzo:=(z1 S o ho).2;obtain⟨l',h1,h2⟩:=hL.all tr' 0 S 0 l0 h0 ⟨o,ho,by omega⟩ (by simpa using hc) (by simpa using hle) (by omega);refine⟨l',by simpa using h1,by simpa using h2⟩
 have huniq:∀S',StJ p S'->S'=S:=λS' hS'=>Q7A (λi hi=>by
  by_cases c:i<p.Bj.length
  ·rw [hS'.b i _ (gE c),hS.b i _ (gE c)]
  ·rw [hS'.u i (by omega) hi,hS.u i (by omega) hi])
 refine Ite.mk (λe=>?_) (λe=>?_)
 ·have hneg:cost<0:=of_decide_eq_true e;rcases hB with ⟨q1,q2,q3⟩ | ⟨q1,_⟩
  ·refine hw (λS' tr' hS' hc hA hle=>?_);rw [huniq S' hS'] at hc hA;obtain⟨l',h1,o,h2,_⟩:=full tr' hc hle;exact q3 _ _ ⟨by omega,l',h1,by rw [h2];simp⟩ hA
  ·omega
 have hneg:¬cost<0:=of_decide_eq_false e;obtain⟨q1,m0,l0,o0,rfl,q3,q4,q5,q6,q7,q8⟩:0≤cost∧∃(m:Nat) (l:List (Q0×Qb)) (o:Qb),at_=(m:Int)∧(m:Int)≤p.B6∧ls[m]?=some l∧lk l best=some o∧o.Az=cost∧arrJ p best∧_:=by
  rcases hB with ⟨q1,_⟩ | hB
  ·omega
  ·exact hB
 refine⟨⟨by omega,by omega⟩,?_⟩;refine Jn.mk (λrows=>∃tr,XR p p.Bh S tr∧arrJ p (Q04 S tr)∧tr.length=m0∧Y9 p.Bj.length tr=cost∧rows.length=p.Bj.length∧∀i:Nat,i<p.Bj.length->rows[i]?=some (actsJ i tr).reverse)
  (Loop.mk (λ(t:List (List (Q0×Qb))×Q0×Int×List (List Int))=>∃(m:Nat) (l:List (Q0×Qb)) (o:Qb) (tr:List (Q0×Qm)),t.1=ls∧t.2.2.1=(m:Int)∧ls[m]?=some l∧lk l t.2.1=some o∧XR p (p.Bh+m) t.2.1 tr∧arrJ p (Q04 t.2.1 tr)∧m+tr.length=m0∧o.Az+Y9 p.Bj.length tr=cost∧t.2.2.2.length=p.Bj.length∧∀i:Nat,i<p.Bj.length->t.2.2.2[i]?=some (actsJ i tr).reverse)
   (λt=>t.2.2.1.toNat) ⟨m0,l0,o0,[],rfl,rfl,q4,q5,.nil _ _,q7,rfl,by simp [Y9,q6],by simp,λi hi=>by show (List.replicate (Int.toNat (p.Bj.length:Int)) [])[i]?=_;rw [Int.toNat_natCast,List.getElem?_replicate,gF hi];rfl⟩ (λt hI=>?_)) (λrows hrows=>?_)
 ·obtain⟨ls',J,c,rows⟩:=t;obtain⟨m,l,o,tr,e1,e2,g1,g2,g3,g4',g5,g6,g7,g8⟩:=hI;simp only at e1 e2 g1 g2 g3 g4' g5 g6 g7 g8;subst e1;subst e2;refine Ite.mk (λe=>?_) (λe=>?_)
  ·have hm0:(m:Int)>0:=of_decide_eq_true e;obtain⟨m',rfl⟩:∃m',m=m'+1:=⟨m-1,by omega⟩;obtain⟨l',hl'⟩:∃l',ls'[m']?=some l':=⟨_,gE (by have:=(gS.1 g1).1;omega)⟩;obtain⟨o',ho',hs,hcs⟩:=hL.s m' l' l hl' g1 J o g2;have hw1:w64 (((m'+1:Nat):Int)-1)=(m':Int):=by rw [kw (by omega) (by omega)];omega
   have hset:ls'.set (Int.toNat ((m'+1:Nat):Int)) l=ls':=Q45 (Qo rfl g1);refine Jn.mk (λ(r:List (List (Q0×Qb))×Q0×List (List Int))=>r.1=ls'∧r.2.1=o.B5∧r.2.2.length=p.Bj.length∧∀i:Nat,i<p.Bj.length->r.2.2[i]?=some (actsJ i ((J,o.Aw) :: tr)).reverse) ⟨l,Qo rfl g1,?_⟩ (λr hr=>?_)
   ·rw [g2];simp only [Option.getD_some];have step:∀i,actsJ i ((J,o.Aw) :: tr)=if gi o.Aw i≥0 then gi o.Aw i :: actsJ i tr else actsJ i tr:=λi=>by
     unfold actsJ;rw [List.map_cons,List.filter_cons];simp only [decide_eq_true_eq]
    refine Jn.mk (λrows'=>rows'.length=p.Bj.length∧∀i:Nat,i<p.Bj.length->rows'[i]?=some (actsJ i ((J,o.Aw) :: tr)).reverse) (Loop.inv p.Bj.length (λj (t:List (List Int)×Int)=>t.2=(j:Int)∧t.1.length=p.Bj.length∧∀i:Nat,i<p.Bj.length->t.1[i]?=some (if i<j then (actsJ i ((J,o.Aw) :: tr)).reverse else (actsJ i tr).reverse)) ⟨rfl,g7,λi hi=>by rw [gC (by omega)];exact g8 i hi⟩ (λj t hj hI=>?_) (λt hI=>?_)) (λrows' h'=>⟨hset,trivial,h'⟩)
    ·obtain⟨rw',c⟩:=t;obtain⟨a1,a2,a3⟩:=hI;simp only at a1 a2 a3;subst a1;have haj:=a3 j hj;rw [gC (by omega)] at haj;have hj4:j<4:=by omega
     refine Ite.lt (by show (j:Int)<_;omega) ⟨_,Qo rfl (Q9A hj4),?_⟩;refine Jn.mk (λrw2=>rw2.length=p.Bj.length∧∀i:Nat,i<p.Bj.length->rw2[i]?=some (if i<j+1 then (actsJ i ((J,o.Aw) :: tr)).reverse else (actsJ i tr).reverse)) (Ite.mk (λe=>?_) (λe=>?_)) (λrw2 h2=>⟨by show w64 ((j:Int)+1)=_;rw [kw1 (by omega)],h2⟩)
     ·have e':=of_decide_eq_true e;have hal:=Q3U j tr;refine⟨_,Qo rfl haj,by show (actsJ j tr).reverse.length+1≤_;rw [List.length_reverse];omega,by simp [a2],λi hi=>?_⟩;rw [Int.toNat_natCast];by_cases c:j=i
      ·subst c;rw [List.getElem?_set_self (by rw [a2];exact hj),gF (Nat.lt_succ_self _),step,gF e',List.reverse_cons]
      ·rw [List.getElem?_set_ne c,a3 i hi];by_cases c2:i<j
       ·rw [gF c2,gF (by omega)]
       ·rw [gC c2,gC (by omega)]
     ·have e':=of_decide_eq_false e;refine⟨a2,λi hi=>?_⟩;rw [a3 i hi];by_cases c:i=j
      ·subst c;rw [gC (by omega),gF (by omega),step,gC e']
      ·by_cases c2:i<j
       ·rw [gF c2,gF (by omega)]
       ·rw [gC c2,gC (by omega)]
    ·obtain⟨rw',c⟩:=t;obtain⟨a1,a2,a3⟩:=hI;simp only at a1 a2 a3;subst a1;refine Ite.nlt (by show ¬(p.Bj.length:Int)<_;omega) ⟨a2,λi hi=>?_⟩;rw [a3 i hi,gF hi]
   ·obtain⟨r1,r2,r3⟩:=r;obtain⟨b1,b2,b3,b4⟩:=hr;simp only at b1 b2 b3 b4;subst b1;subst b2;refine⟨⟨m',l',o',(J,o.Aw) :: tr,rfl,hw1,hl',ho',.cons hs ?_,g4',by simp;omega,?_,b3,b4⟩,?_⟩
    ·rw [Int.add_assoc,show (m':Int)+1=((m'+1:Nat):Int) by omega];exact g3
    ·simp only [Y9];omega
    ·show (w64 (((m'+1:Nat):Int)-1)).toNat<(((m'+1:Nat):Int)).toNat;rw [hw1];omega
  ·have hm0:¬(m:Int)>0:=of_decide_eq_false e;have:m=0:=by omega
   subst this;obtain⟨z1,_⟩:=hL.z l g1;obtain⟨rfl,z2⟩:=z1 J o g2;exact⟨tr,by simpa using g3,g4',by omega,by omega,g7,g8⟩
 ·obtain⟨tr,b1,b2,b3,b4,b5,b6⟩:=hrows;refine Jn.mk (λplan=>plan.length=p.Bj.length∧∀i:Nat,i<p.Bj.length->plan[i]?=some (actsJ i tr)) (Loop.inv rows.length (λj (t:List (List Int)×Int)=>t.2=(j:Int)∧t.1.length=p.Bj.length∧∀i:Nat,i<p.Bj.length->t.1[i]?=some (if i<j then actsJ i tr else (actsJ i tr).reverse)) ⟨rfl,b5,λi hi=>by rw [gC (by omega)];exact b6 i hi⟩ (λj t hj hI=>?_) (λt hI=>?_)) (λplan hplan=>?_)
  ·obtain⟨rw',c⟩:=t;obtain⟨a1,a2,a3⟩:=hI;simp only at a1 a2 a3;subst a1;have haj:=a3 j (by omega);rw [gC (by omega)] at haj;have hal:=Q3U j tr;refine Ite.lt (by show (j:Int)<_;omega) ⟨_,Qo rfl haj,Q4P (by rw [List.length_reverse];omega) ⟨by show w64 ((j:Int)+1)=_;rw [kw1 (by omega)],by simp [a2],λi hi=>?_⟩⟩;show (rw'.set (Int.toNat (j:Int)) _)[i]?=_;rw [Int.toNat_natCast];by_cases c:j=i
   ·subst c;rw [List.getElem?_set_self (by omega),gF (by omega),List.reverse_reverse]
   ·rw [List.getElem?_set_ne c,a3 i hi];by_cases c2:i<j
    ·rw [gF c2,gF (by omega)]
    ·rw [gC c2,gC (by omega)]
  ·obtain⟨rw',c⟩:=t;obtain⟨a1,a2,a3⟩:=hI;simp only at a1 a2 a3;subst a1;refine Ite.nlt (by show ¬(rows.length:Int)<_;omega) ⟨a2,λi hi=>?_⟩;rw [a3 i hi,gF (by omega)]
  ·refine hp S tr plan hS b1 b2 (by omega) hplan.1 hplan.2 (λtr' hc hA hle=>?_);obtain⟨l',h1,o,h2,h3'⟩:=full tr' hc hle;have:=q8 _ _ l' o ⟨by omega,l',h1,by rw [h2];simp⟩ hA h1 h2;omega
end
inductive Q0m (s:Q5) (avoid:List Int) (x:Qu):Int->Q1->List (Int×Q1)->Prop
 | nil (t:Int) (q:Q1):Q0m s avoid x t q []
 | cons {t:Int} {q q':Q1} {a:Int} {r:List (Int×Q1)} (h:Q1V s avoid t x q q' a) (hr:Q0m s avoid x (t+1) q' r):Q0m s avoid x t q ((a,q') :: r)
def Q5L:Q1->List (Int×Q1)->Q1
 | q,[]=>q
 | _,e :: r=>Q5L e.2 r
def plR:Q1->List (Int×Q1)->Nat->Q1
 | q,_,0=>q
 | q,[],_+1=>q
 | _,e :: r,k+1=>plR e.2 r k
theorem Q67(q:Q1)(l:List (Int×Q1)):plR q l 0=q:=by cases l <;> simp [plR]
theorem Q5v(q:Q1)(e:Int×Q1)(r:List (Int×Q1))(k:Nat):plR q (e :: r) (k+1)=plR e.2 r k:=by simp [plR]
theorem Qd8(q:Q1)(k:Nat):plR q [] k=q:=by cases k <;> simp [plR]
theorem Q3i:∀(l:List (Int×Q1)) (q:Q1),Q5L q l=plR q l l.length
 | [],q=>by simp [Q5L,plR]
 | e :: l,q=>by rw [Q5L,List.length_cons,Q5v];exact Q3i l e.2
def filR(l:List (Int×Q1)):List Int:=(l.map (·.1)).filter (λa=>decide (a≥0))
section
variable {s:Q5} {avoid:List Int} {x:Qu}
theorem Q0m.run(h:RS s):∀{l:List (Int×Q1)} {t:Int} {q:Q1},Q0m s avoid x t q l->isQ s (q.cell,q.Ba)->(∃r,Gw s avoid t (q.cell,q.Ba) ((Q5L q l).cell,r) (filR l))∧(q.B4=true->filR l=[]∧∀k,(plR q l k).cell=q.cell)
 | [],t,q,_,hq=>⟨⟨q.Ba,.nil⟩,λ_=>⟨rfl,λk=>by rw [Qd8]⟩⟩
 | (a,q') :: r,t,q,hc,hq=>by
  cases hc with
  | cons hs hr=>
   have hq':=hs.q h hq;obtain⟨⟨z,ih1⟩,ih2⟩:=Q0m.run h hr hq';rcases hs with ⟨rfl,rfl,_⟩ | ⟨hd,hm⟩
   ·obtain⟨f1,f2⟩:=ih2 rfl;have hf:filR ((-1,(⟨q.cell,0,true⟩:Q1)) :: r)=[]:=by
     unfold filR at f1 ⊢;rw [List.map_cons,List.filter_cons_of_neg (by simp)];exact f1
    rw [hf];have hlast:(Q5L (⟨q.cell,0,true⟩:Q1) r).cell=q.cell:=by
     rw [Q3i];exact f2 _
    refine⟨⟨q.Ba,?_⟩,λ_=>⟨rfl,λk=>?_⟩⟩
    ·show Gw s avoid t (q.cell,q.Ba) ((Q5L _ r).cell,q.Ba) [];rw [hlast];exact .nil
    ·cases k with
     | zero=>rw [Q67]
     | succ k=>rw [Q5v];exact f2 k
   ·obtain⟨m1,m2,m3,m4,_⟩:=Q26 h hq.2.1 hm;simp only at m1 m2 m3;have hf:filR ((a,q') :: r)=a :: filR r:=by
     unfold filR;rw [List.map_cons,List.filter_cons_of_pos (by simpa using m2)]
    rw [hf];exact⟨⟨z,.cons m1 ⟨m2,m3⟩ ih1⟩,λe=>by rw [hd] at e;cases e⟩
theorem Q6a(c:Int)(k:Nat):∀y,y∈Zm s c [] k->y=c:=λy hy=>by
 unfold Zm at hy;split at hy
 ·simp [clK] at hy;exact hy
 ·simp at hy
theorem Q8n{c a:Int}{w:List Int}(hf:RF s.A9)(hc:isC s.A9 c=true)(k:Nat):Zm s c (a :: w) (k+1)=Zm s (mvK s.A9 c a) w k:=by
 unfold Zm;rw [gF hc,gF (Qap hf hc)];simp only [List.getElem?_cons_succ,clK,List.getD_cons_succ,List.length_cons]
theorem Q0m.used(h:RS s):∀{l:List (Int×Q1)} {t:Int} {q:Q1},Q0m s avoid x t q l->isQ s (q.cell,q.Ba)->∀(k:Nat) y,y∈Zm s q.cell (filR l) k->(k<l.length->y=(plR q l k).cell∨y=(plR q l (k+1)).cell)∧(l.length≤k->y=(Q5L q l).cell)
 | [],t,q,_,hq,k,y,hy=>⟨λhk=>by simp at hk,λ_=>Q6a _ _ y hy⟩
 | (a,q') :: r,t,q,hc,hq,k,y,hy=>by
  have hall:=Q0m.run h hc hq;cases hc with
  | cons hs hr=>
   have hq':=hs.q h hq;have last:=Q3i;rcases hs with ⟨rfl,rfl,_⟩ | ⟨hd,hm⟩
   ·obtain⟨f1,f2⟩:=(Q0m.run h hr hq').2 rfl;have hf:filR ((-1,(⟨q.cell,0,true⟩:Q1)) :: r)=[]:=by
     unfold filR at f1 ⊢;rw [List.map_cons,List.filter_cons_of_neg (by simp)];exact f1
    rw [hf] at hy;have hy':=Q6a _ _ y hy;have hpl:∀k,(plR q ((-1,(⟨q.cell,0,true⟩:Q1)) :: r) k).cell=q.cell:=λk=>by
     cases k with
     | zero=>rw [Q67]
     | succ k=>rw [Q5v];exact f2 k
    exact⟨λ_=>.inl (by rw [hpl];exact hy'),λ_=>by rw [last,hpl];exact hy'⟩
   ·obtain⟨m1,m2,m3,m4,m5⟩:=Q26 h hq.2.1 hm;simp only at m1 m2 m3 m5;have hf:filR ((a,q') :: r)=a :: filR r:=by
     unfold filR;rw [List.map_cons,List.filter_cons_of_pos (by simpa using m2)]
    rw [hf] at hy;have hmv:mvK s.A9 q.cell a=q'.cell:=by
     rcases m5 with ⟨h0,h1⟩ | ⟨h0,h1⟩
     ·subst h0;unfold mvK;rw [gC (by omega)];exact h1.symm
     ·unfold mvK;rw [h1,gF ⟨h0,m3,rfl⟩]
    cases k with
    | zero=>
     refine⟨λ_=>?_,λhk=>by simp at hk⟩;unfold Zm at hy;rw [gF hq.1] at hy;simp only [List.getElem?_cons_zero,clK,List.getD_cons_zero] at hy;split at hy
     ·rename_i e;rcases Q72.1 hy with hy | hy
      ·exact .inl (by rw [Q67];exact hy)
      ·right;rw [Q5v,Q67];show y=q'.cell;rw [hy,<-hmv];unfold mvK;rw [gF e]
     ·exact .inl (by rw [Q67];simpa using hy)
    | succ k=>
     rw [Q8n h.fl hq.1,hmv] at hy;have:=Q0m.used h hr hq' k y hy;exact⟨λhk=>by rw [Q5v,Q5v];exact this.1 (by simpa using hk),λhk=>this.2 (by simpa using hk)⟩
end
def robJ(i:Nat)(tr:List (Q0×Qm)):List (Int×Q1):=tr.map (λe=>(gi e.2 i,g4 e.1 i))
theorem Q5l(i:Nat)(tr:List (Q0×Qm)):filR (robJ i tr)=actsJ i tr:=by
 simp [filR,robJ,actsJ,List.map_map,Function.comp_def]
theorem Q6m(i:Nat):∀(tr:List (Q0×Qm)) (J:Q0),Q5L (g4 J i) (robJ i tr)=g4 (Q04 J tr) i
 | [],J=>rfl
 | e :: r,J=>Q6m i r e.1
section
variable {p:Qq}
theorem XR.rob{i:Nat}{x:Qu}(hx:p.Bj[i]?=some x):∀{tr:List (Q0×Qm)} {t:Int} {J:Q0},XR p t J tr->Q0m p.s p.Ax x t (g4 J i) (robJ i tr)
 | [],t,J,_=>.nil _ _
 | (J',A) :: r,t,J,hc=>by
  cases hc with
  | cons hs hr=>exact .cons (hs.st i x hx) (XR.rob hx hr)
theorem XR.apart:∀{tr:List (Q0×Qm)} {t:Int} {J:Q0},XR p t J tr->∀(k a b:Nat),k<tr.length->a<b->b<p.Bj.length->∀y,
  (y=(plR (g4 J a) (robJ a tr) k).cell∨y=(plR (g4 J a) (robJ a tr) (k+1)).cell)->(y=(plR (g4 J b) (robJ b tr) k).cell∨y=(plR (g4 J b) (robJ b tr) (k+1)).cell)->False
 | [],t,J,_,k,a,b,hk,_,_,y,_,_=>by simp at hk
 | (J',A) :: r,t,J,hc,k,a,b,hk,hab,hb,y,h1,h2=>by
  cases hc with
  | cons hs hr=>
   simp only [robJ,List.map_cons] at h1 h2;cases k with
   | zero=>
    rw [Q67,Q5v,Q67] at h1 h2;exact hs.ap a b hab hb y h1 h2
   | succ k=>
    rw [Q5v,Q5v] at h1 h2;exact XR.apart hr k a b (by simpa using hk) hab hb y h1 h2
theorem XR.good(h:RS p.s)(hm:0≤p.B6∧p.B6≤100)(h4:p.Bj.length≤4)(hd:p.Bj.Pairwise (λx y=>x.Aa≠y.Aa∧x.To≠y.To))(hf:∀x,x∈p.Bj->isC p.s.A9 x.Aa=true){S:Q0}(hS:StJ p S){tr:List (Q0×Qm)}(hc:XR p p.Bh S tr)(hA:arrJ p (Q04 S tr))(hle:(tr.length:Int)≤p.B6)
  {plan:List (List Int)} (hl:plan.length=p.Bj.length) (hpl:∀i:Nat,i<p.Bj.length->plan[i]?=some (actsJ i tr)):Yq p ⟨[],plan⟩∧Q0d p.s p.Bj plan:=by
 have hq:∀i x,p.Bj[i]?=some x->isQ p.s ((g4 S i).cell,(g4 S i).Ba):=λi x hx=>by
  rw [hS.b i x hx];exact⟨hf x (gM hx),by simp,by simp⟩
 refine⟨⟨hl,λi x w hx hw=>?_⟩,λk a b hk hab hb=>?_⟩
 ·have hi:=(gS.1 hx).1;rw [hpl i hi] at hw;cases hw;have hlen:=Q3U i tr;refine⟨by omega,?_⟩;obtain⟨⟨r,hr⟩,_⟩:=(hc.rob hx).run h (hq i x hx);rw [Q5l,Q6m,hA i x hx,hS.b i x hx] at hr;exact⟨r,hr⟩
 ·rintro⟨x,y,u,v,c,hx,hy,hu,hv,c1,c2⟩;have ha:=(gS.1 hx).1;have hb':=(gS.1 hy).1;rw [hpl a ha] at hu;cases hu;rw [hpl b hb'] at hv;cases hv;have e1:x.Aa=(g4 S a).cell:=by rw [hS.b a x hx]
  have e2:y.Aa=(g4 S b).cell:=by rw [hS.b b y hy]
  rw [e1,<-Q5l] at c1;rw [e2,<-Q5l] at c2;have u1:=(hc.rob hx).used h (hq a x hx) k c c1;have u2:=(hc.rob hy).used h (hq b y hy) k c c2;have l1:(robJ a tr).length=tr.length:=by simp [robJ]
  have l2:(robJ b tr).length=tr.length:=by simp [robJ]
  rw [l1] at u1;rw [l2] at u2;by_cases hkl:k<tr.length
  ·exact hc.apart k a b hkl hab hb' c (u1.1 hkl) (u2.1 hkl)
  ·have v1:=u1.2 (by omega);have v2:=u2.2 (by omega);have last:=Q3i;rw [last,l1] at v1;rw [last,l2] at v2;rcases Nat.eq_zero_or_pos tr.length with h0 | h0
   ·rw [h0] at v1 v2;rw [Q67] at v1 v2;rw [<-e1] at v1;rw [<-e2] at v2;have:=List.pairwise_iff_getElem.1 hd a b ha hb' hab;rw [(gS.1 hx).2,(gS.1 hy).2] at this;exact this.1 (by rw [<-v1,<-v2])
   ·refine hc.apart (tr.length-1) a b (by omega) hab hb' c (.inr ?_) (.inr ?_)
    ·rw [show tr.length-1+1=tr.length by omega];exact v1
    ·rw [show tr.length-1+1=tr.length by omega];exact v2
end
end Go.Taq
