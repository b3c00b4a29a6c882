/- Part 5 of what the walks and the law rest on: a library over any program, and the mathematics of the law. No condition. -/
import Derived.Test.YtpckofngkabgbaaGreatM4
import Derived.ProofKit
import Derived.OpenShut
set_option linter.unusedVariables false
set_option linter.unusedSimpArgs false
namespace Go.Taq
open Go
def Q0X(s:Q5):Nat->Int
 | 0=>1
 | n+1=>imax (Q0X s n) (spd s n)
def cntV(s:Q5):Nat->Nat
 | 0=>0
 | n+1=>cntV s n+(if opC s (n:Int)=true then 1 else 0)
theorem Q76(s:Q5):∀n,cntV s n≤n
 | 0=>Nat.le_refl _
 | n+1=>by have:=Q76 s n;rw [cntV];split <;> omega
theorem Q81{s:Q5}(h:RS s):∀n,1≤Q0X s n∧Q0X s n≤100
 | 0=>by simp [Q0X]
 | n+1=>by
  have h1:=Q81 h n;have h2:=Q3H h n;rw [Q0X];simp only [imax];split <;> omega
def Gq(s:Q5):Nat:=cntV s s.A9.Ac.length*(Q0X s s.A9.Ac.length).toNat
def Q4Y(s:Q5)(n:Nat)(most:Int):Bool:=decide (Gq s ^ n≤3000)&&decide (most≤20)
theorem Q9K{s:Q5}(k:QF s)(h:Q0r s)(h16:s.A9.Ac.length≤1000){post:Int->Prop}(hp:post (Q0X s s.A9.Ac.length)):Xp s post:=by
 unfold Xp;refine Jn.mk (λm=>m=Q0X s s.A9.Ac.length) (Loop.inv s.A9.Ac.length (λi (t:Int×Int)=>t.2=(i:Int)∧t.1=Q0X s i) ⟨rfl,rfl⟩ (λi t hi hI=>?_) (λt hI=>?_)) (λm e=>by subst e;exact hp)
 ·obtain⟨m,c⟩:=t;obtain⟨e1,e2⟩:=hI;simp only at e1 e2;subst e1;subst e2;exact Ite.lt (by show (i:Int)<_;omega) (Q58 k h ⟨by show w64 ((i:Int)+1)=_;rw [kw1 (by omega)],rfl⟩)
 ·obtain⟨m,c⟩:=t;obtain⟨e1,e2⟩:=hI;simp only at e1 e2;subst e1;subst e2;exact Ite.nlt (by show ¬(s.A9.Ac.length:Int)<_;omega) rfl
theorem Q6j{p:Qq}(k:QF p.s)(h:RS p.s)(h16:p.s.A9.Ac.length≤1000)(h4:p.Bj.length≤100){post:Bool->Prop}(hp:post (Q4Y p.s p.Bj.length p.B6)):Xr p post:=by
 unfold Xr;have hc:=Q76 p.s p.s.A9.Ac.length;have hs:=Q81 h p.s.A9.Ac.length;refine Jn.mk (λ(m:Int×Int)=>m=((cntV p.s p.s.A9.Ac.length:Int),Q0X p.s p.s.A9.Ac.length)) (Loop.inv p.s.A9.Ac.length (λi (t:Int×Int×Int)=>t=((cntV p.s i:Int),Q0X p.s i,(i:Int))) rfl (λi t hi hI=>?_) (λt hI=>?_)) (λm e=>?_)
 ·subst hI;have hci:=Q76 p.s i;refine Ite.lt (by show (i:Int)<_;omega) (YV k h (Q0V (Jn.mk (λm=>m=(cntV p.s (i+1):Int)) (Ite.mk (λe=>?_) (λe=>?_)) (λm e=>?_))))
  ·show w64 ((cntV p.s i:Int)+1)=_;rw [kw1 (by omega),cntV,gF e]
  ·rw [cntV,gC (by rw [e];decide)];rfl
  ·subst e;show (_,_,w64 ((i:Int)+1))=_;rw [kw1 (by omega)];rfl
 ·subst hI;exact Ite.nlt (by show ¬(p.s.A9.Ac.length:Int)<_;omega) rfl
 subst e;have e1:((Gq p.s:Nat):Int)=(cntV p.s p.s.A9.Ac.length:Int)*Q0X p.s p.s.A9.Ac.length:=by
  unfold Gq;rw [Int.natCast_mul,Int.toNat_of_nonneg (by omega)]
 have hPle:Gq p.s≤100000:=by
  unfold Gq;exact Nat.mul_le_mul (show cntV p.s p.s.A9.Ac.length≤1000 by omega) (show (Q0X p.s p.s.A9.Ac.length).toNat≤100 by omega)
 refine Jn.mk (λa=>a=((min (Gq p.s ^ p.Bj.length) 3001:Nat):Int)) (Loop.inv p.Bj.length (λi (t:Int×Int)=>t=(((min (Gq p.s ^ i) 3001:Nat):Int),(i:Int))) (by simp) (λi t hi hI=>?_) (λt hI=>?_)) (λa e=>?_)
 ·subst hI;refine Ite.lt (by show (i:Int)<_;omega) ?_;show (imin (w64 (w64 (((min (Gq p.s ^ i) 3001:Nat):Int)*(cntV p.s p.s.A9.Ac.length:Int))*Q0X p.s p.s.A9.Ac.length)) 3001,w64 ((i:Int)+1))=_;have hA:min (Gq p.s ^ i) 3001≤3001:=Nat.min_le_right _ _;generalize hAe:min (Gq p.s ^ i) 3001=A at hA;have b1:(A:Int)*(cntV p.s p.s.A9.Ac.length:Int)≤3001*1000:=Int.mul_le_mul (by omega) (by omega) (by omega) (by omega);have b0:0≤(A:Int)*(cntV p.s p.s.A9.Ac.length:Int):=Int.mul_nonneg (by omega) (by omega);have w9:w64 ((A:Int)*(cntV p.s p.s.A9.Ac.length:Int))=(A:Int)*(cntV p.s p.s.A9.Ac.length:Int):=kw (by omega) (by omega);rw [w9,kw1 (by omega)];have b2:(A:Int)*(cntV p.s p.s.A9.Ac.length:Int)*Q0X p.s p.s.A9.Ac.length=((A*Gq p.s:Nat):Int):=by
   rw [Int.natCast_mul,e1,Int.mul_assoc]
  have b3:A*Gq p.s≤3001*100000:=Nat.mul_le_mul hA hPle;rw [b2,kw (by omega) (by omega)];have key:min (A*Gq p.s) 3001=min (Gq p.s ^ (i+1)) 3001:=by
   subst hAe;rw [Nat.pow_succ];rcases Nat.eq_zero_or_pos (Gq p.s) with h0 | h0
   ·rw [h0];simp
   ·rcases gH (Gq p.s ^ i) 3001 with h1 | h1
    ·rw [Nat.min_eq_left (Nat.le_of_lt h1)]
    ·rw [Nat.min_eq_right h1];have c1:3001≤3001*Gq p.s:=Nat.le_mul_of_pos_right _ h0;have c2:3001≤Gq p.s ^ i*Gq p.s:=Nat.le_trans h1 (Nat.le_mul_of_pos_right _ h0);rw [Nat.min_eq_right c1,Nat.min_eq_right c2]
  rw [<-key];simp only [imin];congr 1;split <;> omega
 ·subst hI;exact Ite.nlt (by show ¬(p.Bj.length:Int)<_;omega) rfl
 subst e;refine Jn.mk (λb=>b=Q4Y p.s p.Bj.length p.B6) (Ite.mk (λe=>?_) (λe=>?_)) (λb e=>by subst e;exact hp)
 ·have:Gq p.s ^ p.Bj.length≤3000:=by have:=of_decide_eq_true e;omega
  unfold Q4Y;simp [this]
 ·have:¬Gq p.s ^ p.Bj.length≤3000:=by have:=of_decide_eq_false e;omega
  unfold Q4Y;simp [this]
def badK(s:Q5)(trips:List Qu)(tick most:Int):Bool:=!Q1N s trips||(decide (tick<0)||(decide (tick>20000)||decide (most<0)))
theorem Q5t{s:Q5}{trips:List Qu}{tick most:Int}(h:badK s trips tick most=false):Q1N s trips=true∧(0≤tick∧tick≤20000)∧0≤most:=by
 simp only [badK,Bool.or_eq_false_iff,Bool.not_eq_false',decide_eq_false_iff_not] at h;exact⟨h.1,⟨by omega,by omega⟩,by omega⟩
theorem Qce{s:Q5}{trips:List Qu}(hl:trips.length≤1000000){tick most:Int}{k:Bool->Prop}(hk:k (badK s trips tick most)):
  Jn (λ(J6:Bool->Prop)=>WV s trips (λx7=>Ite x7 (Ite (decide (tick<0)) (J6 true) (Ite (decide (tick>20000)) (J6 true) (J6 (decide (most<0))))) (J6 true))) k:=by
 refine Jn.eq (badK s trips tick most) (Q47 hl (Ite.mk (λe=>Ite.mk (λe2=>?_) (λe2=>Ite.mk (λe3=>?_) (λe3=>?_))) (λe=>?_))) hk
 ·unfold badK;rw [e2];simp
 ·unfold badK;rw [e3];simp
 ·unfold badK;rw [e,e2,e3];simp
 ·unfold badK;rw [e];simp
section
variable {s:Q5} {trips:List Qu} {tick most:Int} {avoid:List Int}
theorem Q2v{c:Int}(h:opC s c=true):isC s.A9 c=true:=by unfold opC at h;simp at h;exact h.1
theorem Q86(k:QF s)(h:Q0r s)(h16:s.A9.Ac.length≤16)(h3:trips.length≤3)(hav:avoid.length≤1000){post:List (List Int)×Int->Prop}
  (hbad:badK s trips tick most=true->post ([],1)) (hlim:badK s trips tick most=false->60<most->post ([],27)) (hlim2:badK s trips tick most=false->most≤60->Q4Y s trips.length most=false->post ([],27)) (h14:badK s trips tick most=false->most≤60->post ([],14))
  (hgood:badK s trips tick most=false->most≤60->∀plan,Yq ⟨s,trips,tick,avoid,most⟩ ⟨[],plan⟩->Q0d s trips plan->post (plan,0)):Xv s trips tick avoid most post:=by
 unfold Xv;refine Qce (by omega) (Ite.mk (λe=>hbad e) (λe=>Ite.mk (λe2=>hlim e (of_decide_eq_true e2)) (λe2=>?_)));have h60:most≤60:=by have:=of_decide_eq_false e2;omega
 obtain⟨hR,ht,hm⟩:=Q5t e;obtain⟨r1,r2,r3,r4⟩:=Q3x hR;have hf:∀x,x∈trips->isC s.A9 x.Aa=true:=λx hx=>Q2v (r1 x hx).1
 have hav':avoid.length≤maxLen:=by simp [maxLen];omega
 refine Q6j (p:=⟨s,trips,tick,avoid,most⟩) k h.rs (by show s.A9.Ac.length≤1000;omega) (by show trips.length≤100;omega) (Ite.mk (λe3=>?_) (λe3=>?_))
 ·exact Q9H (p:=⟨s,trips,tick,avoid,most⟩) k h.rs h16 hav' ht ⟨hm,by show most≤100;omega⟩ h3 hf (λS tr plan hS hc hA hle hl hpl _=>by
   obtain⟨g1,g2⟩:=hc.good h.rs ⟨hm,by show most≤100;omega⟩ (by show trips.length≤4;omega) r2 hf hS hA hle hl hpl;exact hgood e h60 plan g1 g2) (λ_=>h14 e h60)
 ·exact Q6l (p:=⟨s,trips,tick,avoid,most⟩) ⟨hm,by show most≤1000;omega⟩ (by show trips.length≤4;omega) k h.rs (by show s.A9.Ac.length≤100;omega) hav' ht hf (λn hn hN=>hgood e h60 n.B9 ⟨hn.1,hn.2⟩ hN) (h14 e h60) (hlim2 e h60 e3)
theorem Q6i(k:QF s){post:Bool->Prop}(hF:post false)(hT:Q0r s->Q2T s->FewS s 16 20->avoid.length≤20->Q0X s s.A9.Ac.length≤2->post true):Gk s avoid 16 post:=by
 unfold Gk;refine Jn.mk (λb=>b=true∨(b=false∧Q0r s∧Q2T s∧FewS s 16 20∧avoid.length≤20)) (Q7d k ⟨by decide,by decide⟩ (Ite.f rfl (.inl rfl)) (λhfew=>Ite.t rfl (Ite.mk (λ_=>.inl rfl) (λe=>?_)))) (λb hb=>?_)
 ·have:avoid.length≤20:=by have:=of_decide_eq_false e;omega
  exact Q3n k hfew (by decide) (.inl rfl) (λhr hn=>.inr ⟨rfl,hr,hn,hfew,this⟩)
 ·rcases hb with e | ⟨e,hr,hn,hfew,hav⟩
  ·exact Ite.t e hF
  ·refine Ite.f e (Q9K k hr (by have:=hfew.kind;omega) ?_);by_cases c:Q0X s s.A9.Ac.length≤2
   ·rw [decide_eq_true c];exact hT hr hn hfew hav c
   ·rw [decide_eq_false c];exact hF
end
theorem Q4b{l:List Kf}(hm:l.length≤maxLen){post:Bool->Prop}(h:YF 0 l)(hT:post true):GV l post:=by
 unfold GV;refine Jn.mk (λ_=>True) (XE hm (λs:Int×Int=>s.2) (λn (s:Int×Int)=>YF s.1 (l.drop n)) rfl h (λn x t hx ht hI=>?_) (λt h=>trivial)) (λ_ _=>hT);have hd:l.drop n=x :: l.drop (n+1):=by
  obtain⟨hlt,he⟩:=gS.1 hx;rw [List.drop_eq_getElem_cons hlt,he]
 rw [hd] at hI;obtain⟨h1,h2,h3,h4⟩:=hI;refine Jor3 (Ite.f ?_ ⟨by rw [ht],h4⟩);simp only [Bool.or_eq_false_iff,decide_eq_false_iff_not];omega
theorem Q3L{m:Qc}{l:List Int}(hm:l.length≤maxLen){post:Bool->Prop}(hne:l≠[])(hc:∀c,c∈l->isC m.Bf.A9 c=true)(ha:∀(i:Nat) x y,l[i]?=some x->l[i+1]?=some y->x<y)(hT:post true):KO m l post:=by
 unfold KO;have hl:0<l.length:=List.length_pos_iff.2 hne;refine Jn.mk (λ_=>True) (XE hm (λs=>s) (λn _=>True) rfl trivial (λn c t hx ht _=>?_) (λt _=>trivial)) (λ_ _=>by
  have:decide ((l.length:Int)>0)=true:=decide_eq_true (by omega);rw [this];exact hT)
 refine Xo ?_;rw [gF (hc c (gM hx))];refine Jn.mk (λb=>b=false) (Ite.t rfl (Ite.mk (λh=>?_) (λh=>rfl))) (λb hb=>Ite.f hb ⟨by rw [ht],trivial⟩);simp at h;have hn:=(gS.1 hx).1;have hx':l[n-1]?=some (l[n-1]'(by omega)):=gE _;have e1:w64 (t-1)=((n-1:Nat):Int):=by rw [ht,K9 (by omega) (by unfold maxLen at hm;omega)];omega
 refine⟨l[n-1]'(by omega),by rw [e1];exact Qo rfl hx',?_⟩;have:=ha (n-1) _ c hx' (by rw [show n-1+1=n by omega];exact hx);exact decide_eq_false (by omega)
section
variable {s:Q5}
theorem Q2t(k:QF s){n:Nat}{m:Qc}(hI:MInv s n 0 0 0 m){z:K7}(hz:s.Au[n]?=some z){post:Int×Qc->Prop}(h64:n<64)(hr:Q6c s (s.Au.take n) z)(hT:∀m',MInv s (n+1) 0 0 0 m'->post (0,m')):Kq z m post:=by
 have kz:=k.Au.2 z (gM hz);have hn:=(gS.1 hz).1;unfold Kq;have hlen:m.Bf.Au.length=n:=by rw [hI.zs];simp;omega
 refine Ite.f (by rw [hI.B7,List.any_eq_false];intro y hy;rw [hr.name y hy];simp) (Ite.f (by rw [hlen];exact decide_eq_false (by omega)) ?_);refine Jn.mk (λ_=>True) (XE kz.A5.1 (λt=>t) (λi _=>True) rfl trivial (λi c t hc ht _=>?_) (λt h=>trivial)) (λ_ _=>?_)
 ·obtain⟨c1,c2,c3⟩:=hr.cell c (gM hc);refine Xo ?_;rw [hI.fl,gF c1];refine Jn.mk (λb=>b=false) (Q1w (Ite.t c2 ?_)) (λb hb=>Ite.f hb ⟨by rw [ht],trivial⟩);rw [hI.Bk];exact c3
 ·refine Jn.mk (λzm=>∀c,(lk zm c).getD false=(zAt (s.Au.take n) c||z.A5.contains c))
   (XE kz.A5.1 (λt:List (Int×Bool)×Int=>t.2) (λi t=>∀c,(lk t.1 c).getD false=(zAt (s.Au.take n) c||(z.A5.take i).contains c)) rfl (λc=>by simp [hI.Bk]) (λi x t hx ht h=>⟨by rw [ht],λc=>?_⟩) (λt h c=>by have:=h c;rwa [List.take_length] at this)) (λzm hzm=>⟨by rw [hlen];simp;omega,?_⟩)
  ·rw [GR,Kt hx];by_cases e:x=c
   ·subst e;simp
   ·rw [gC e,h c];simp [show ¬c=x from λh=>e h.symm]
  ·refine hT _ ⟨hI.fl,?_,hI.aps,hI.sh,hI.rs,λnm=>?_,λc=>?_,hI.Bc,hI.Bb⟩
   ·show m.Bf.Au++[z]=_;rw [hI.zs,Kt hz]
   ·show (lk (upd m.B7 z.Ag _) nm).isSome=_;rw [GR,Kt hz,List.any_append];by_cases e:z.Ag=nm
    ·rw [gF e];simp [Q1q.2 e]
    ·rw [gC e,hI.B7];have:seq z.Ag nm=false:=by rw [Bool.eq_false_iff];exact λh=>e (Q1q.1 h)
     simp [this]
   ·show (lk zm c).getD false=_;rw [hzm c,Kt hz,Q9j]
theorem Q2a(k:QF s)(hf:s.A3.length≤1000000){nz n:Nat}{m:Qc}(hI:MInv s nz n 0 0 m){x:Qp}(hx:s.A3[n]?=some x){post:Int×Qc->Prop}
  (h:apB (s.A3.take n) x.A x.B=false) (hn:nmB x.A=true∧nmB x.B=true) (hT:∀m',MInv s nz (n+1) 0 0 m'->post (0,m')):Kj x m post:=by
 have kx:=k.A3.2 x (gM hx);have hnl:=(gS.1 hx).1;have hm:(s.A3.take n).length≤maxLen:=Nat.le_trans (by simp;omega) k.A3.1;unfold Kj;refine Jn.mk (λb=>b=false) (Wd kx.A (Ite.t hn.1 (Wd kx.B (by rw [hn.2];rfl)))) (λb hb=>Ite.f hb ?_);rw [hI.aps];refine ZE hm (Ite.f h ⟨by simp;omega,hT _ ⟨hI.fl,hI.zs,?_,hI.sh,hI.rs,hI.B7,hI.Bk,hI.Bc,hI.Bb⟩⟩);show s.A3.take n++[x]=_;rw [Kt hx]
theorem Q1U(k:QF s)(hs:s.Al.length≤1000000){nz na n:Nat}{m:Qc}(hI:MInv s nz na n 0 m){x:K4}(hx:s.Al[n]?=some x){post:Int×Qc->Prop}(h3:n<3000)
  (h:isC s.A9 x.A4=true∧Q1h (kd s.A9 x.A4)=true∧shAt (s.Al.take n) x.A4<0) (hnm:(seq x.A7 ByteArray.empty||nmB x.A7)=true) (hT:∀m',MInv s nz na (n+1) 0 m'->post (0,m')):Ki x m post:=by
 have kx:=k.Al.2 x (gM hx);have hn:=(gS.1 hx).1;have hlen:m.Bf.Al.length=n:=by rw [hI.sh];simp;omega
 obtain⟨hc,h1,h2'⟩:=h;unfold Ki;refine Jn.mk (λb=>b=false) (Ite.mk (λh=>rfl) (λh=>Wd kx.A7 (by rw [h] at hnm;rw [show nmB x.A7=true by simpa using hnm];rfl))) (λb hb=>Ite.f hb (Xo ?_));rw [hI.fl,gF hc];refine Ite.f rfl (Z6 (Ite.f (by rw [h1];rfl) (Ite.f ?_ (Ite.f ?_ ?_))))
 ·rw [hI.Bc,gC (by omega)];rfl
 ·rw [hlen];exact decide_eq_false (by omega)
 ·rw [hlen];refine⟨by simp;omega,hT _ ⟨rfl,hI.zs,hI.aps,?_,hI.rs,hI.B7,hI.Bk,λc=>?_,hI.Bb⟩⟩
  ·show m.Bf.Al++[x]=_;rw [hI.sh,Kt hx]
  ·show lk (upd m.Bc x.A4 (n:Int)) c=_;rw [GR,Kt hx,Q7Y];have hl:(s.Al.take n).length=n:=by simp;omega
   by_cases e:x.A4=c
   ·subst e;have e0:¬0≤shAt (s.Al.take n) x.A4:=by omega
    simp only [gC e0,if_true,hl];rw [gF (by omega)]
   ·rw [gC e,gC e,hI.Bc c];by_cases h:0≤shAt (s.Al.take n) c
    ·rw [gF h,gF h,gF h]
    ·rw [gC h,gC h,gC (by omega)]
theorem Q3E(k:QF s)(ha:s.A3.length≤1000000)(hr:Q0r s)(hn:Q2T s){post:Bool->Prop}(hp:post true):XS s post:=by
 have r2:=hr.r2;have sh3:=hr.sh3;unfold XS;refine Q4c hr.fl (Ite.f rfl ?_);unfold GM;refine Jn.mk (λt:T16=>MInv s s.Au.length 0 0 0 (of16 t))
  (XE k.Au.1 (λt:T17 Int=>lst t) (λn (t:T17 Int)=>MInv s n 0 0 0 (ofT t)) rfl ⟨rfl,rfl,rfl,rfl,rfl,λn=>rfl,λc=>rfl,λc=>rfl,λc=>rfl⟩ (λn z t hz ht hI=>?_) (λt h=>h)) (λt1 hI1=>?_)
 ·have kz:=k.Au.2 z (gM hz);have hzn:=hr.zone n z hz;have h64:n<64:=by have:=hr.z64;have:=(gS.1 hz).1;omega
  refine Jn.mk (λx:T17 Bool=>lst x=false∧MInv s (n+1) 0 0 0 (ofT x)) (Wd kz.Ag (Ite.t (hn.zn n z hz) (Zg (Ite.t ?_ (Ite.f ?_ (Q4b kz.Am.1 hzn.spans (Ite.t rfl (Q3L (m:=ofT t) kz.A5.1 hzn.ne (λc hc=>by rw [hI.fl];exact (hzn.cell c hc).1) hzn.asc (Ite.t rfl (Q2t (m:=ofT t) k hI hz h64 hzn (λm' hm'=>⟨rfl,hm'⟩)))))))))))
   (λx hx=>Ite.f hx.1 ⟨by show w64 (lst t+1)=_;rw [show lst t=(n:Int) from ht],hx.2⟩)
  ·have:=hzn.sp;simp;omega
  ·have:=hzn.keep;simp;omega
 refine Jn.mk (λt:T16=>MInv s s.Au.length s.A3.length 0 0 (of16 t))
  (XE k.A3.1 (λt:T17 Int=>lst t) (λn (t:T17 Int)=>MInv s s.Au.length n 0 0 (ofT t)) rfl (by exact hI1) (λn x t hx ht hI=>?_) (λt h=>h)) (λt2 hI2=>?_)
 ·exact Q2a (m:=ofT t) k ha hI hx (hr.ap n x hx).2.2 (hn.an n x hx) (λm' hm'=>Ite.f rfl ⟨by show w64 (lst t+1)=_;rw [show lst t=(n:Int) from ht],hm'⟩)
 refine Jn.mk (λt:T16=>MInv s s.Au.length s.A3.length s.Al.length 0 (of16 t))
  (XE k.Al.1 (λt:T17 Int=>lst t) (λn (t:T17 Int)=>MInv s s.Au.length s.A3.length n 0 (ofT t)) rfl (by exact hI2) (λn x t hx ht hI=>?_) (λt h=>h)) (λt3 hI3=>?_)
 ·exact Q1U (m:=ofT t) k (by omega) hI hx (by have:=(gS.1 hx).1;omega) (hr.sh n x hx) (hn.sn n x hx) (λm' hm'=>Ite.f rfl ⟨by show w64 (lst t+1)=_;rw [show lst t=(n:Int) from ht],hm'⟩)
 refine Jn.mk (λt:T16=>MAll s (of16 t))
  (XE k.Ak.1 (λt:T17 Int=>lst t) (λn (t:T17 Int)=>MInv s s.Au.length s.A3.length s.Al.length n (ofT t)) rfl (by exact hI3) (λn x t hx ht hI=>?_) (λt h=>h)) (λt4 hI4=>?_)
 ·exact Q28 (m:=ofT t) k (by omega) hI hx (by have:=(gS.1 hx).1;omega) (hr.rb n x hx) (λm' hm'=>Ite.f rfl ⟨by show w64 (lst t+1)=_;rw [show lst t=(n:Int) from ht],hm'⟩)
 refine Jn.mk (λb=>b=true) (Q0E (m:=of16 t4) k hr.fl hI4 (λx hx=>?_) (λi hi hb=>?_) (λhbs=>Ite.t (by decide) ?_)) (λb hb=>hb▸hp)
 ·obtain⟨i,hi⟩:=gO hx;exact (hr.sh i x hi).1
 ·obtain⟨d,d0,d1,hb⟩:=hb;exact absurd hb (hr.apart i d d0 d1)
 ·unfold Xb;have hzs:(of16 t4).Bf.Au=s.Au:=hI4.zs';show Qi (of16 t4).Bf.Au (of16 t4) _;rw [hzs];unfold Qi;refine Z5 k.Au.1 (λz=>decide ((z.A5.countP (YO s):Nat)<z.Ab)) (T:=λz post=>Kx z (of16 t4) post) (λz hz {q} hq=>ZP k hI4 (k.Au.2 z hz).A5.1 (λc hc=>?_) hq) (Ite.t ?_ ?_)
  ·obtain⟨i,hi⟩:=gO hz;exact ((hr.zone i z hi).cell c hc).1
  ·rcases Wb (λz:K7=>decide (((z.A5.countP (YO s):Nat):Int)<z.Ab)) s.Au with ⟨i,y,hy,e,hb,_⟩ | ⟨e,hb⟩
   ·exfalso;have:=hr.room y (gM hy);have:=of_decide_eq_true hb;omega
   ·rw [e];decide
  ·unfold Xe;have hfl:(of16 t4).Bf.A9=s.A9:=hI4.fl;show Qv (of16 t4).Bf.A9.Ac 3 _;rw [hfl];exact KE k.A9.Ac.1 hr.charger
end
def stK(x:Qu):QV:=⟨x.Aa,1000000⟩
def plK(x:Qu):Int×Int×Int:=(x.Aa,0,1000000)
def siK(s:Q5)(trips:List Qu):Q5:=⟨s.A9,s.Au,s.A3,[],trips.map stK⟩
section
variable {s:Q5} {trips:List Qu} {tick:Int} {avoid:List Int} {plan:List (List Int)}
theorem Q91{l:List Int}{i:Nat}{x:Int}(h:l[i]?=some x):l.set i x=l:=by
 obtain⟨q1,rfl⟩:=gS.1 h;exact List.set_getElem_self q1
theorem Q9J(h:Q0r s)(h4:trips.length≤4)(ho:∀x,x∈trips->opC s x.Aa=true)(hd:trips.Pairwise (λx y=>x.Aa≠y.Aa∧x.To≠y.To)):Q0r (siK s trips) where
 fl:=h.fl
 z64:=h.z64
 zone i z hz:=by
  have q:=h.zone i z hz;exact⟨q.named,q.name,q.ne,q.sp,q.keep,q.spans,q.cell,q.asc⟩
 sh3:=by show 0≤3000;omega
 r2:=by show (trips.map stK).length≤200;simp;omega
 ap:=h.ap
 sh i x hx:=by
  have hx:([]:List K4)[i]?=some x:=hx;simp at hx
 rb i x hx:=by
  have hx:(trips.map stK)[i]?=some x:=hx;rw [gK] at hx;obtain⟨y,hy,rfl⟩:=Option.map_eq_some_iff.1 hx;have hoy:=ho y (gM hy);unfold opC at hoy;simp only [gP,bne_iff_ne,ne_eq] at hoy;refine⟨hoy.1,by show (0:Int)≤1000000;omega,by show (1000000:Int)≤1000000;omega,hoy.2,?_⟩;unfold rbAt;rw [List.any_eq_false];intro z hz;obtain⟨j,hj⟩:=gO hz;have hji:j<i:=by have:=(gS.1 hj).1;rw [List.length_take] at this;omega
  rw [List.getElem?_take_of_lt hji] at hj;have hj:(trips.map stK)[j]?=some z:=hj;rw [gK] at hj;obtain⟨v,hv,rfl⟩:=Option.map_eq_some_iff.1 hj;obtain⟨a1,b1⟩:=gS.1 hv;obtain⟨a2,b2⟩:=gS.1 hy;have:=(List.pairwise_iff_getElem.1 hd j i a1 a2 hji).1;rw [b1,b2] at this;simpa [stK] using this
 room z hz:=by
  have h1:=h.room z hz;have h2:z.A5.countP (YO s)≤z.A5.countP (YO (siK s trips)):=List.countP_mono_left (λc _ hb=>by
   unfold YO at hb ⊢;simp only [gP] at hb ⊢;have:=QbN (siK s trips).Al c;exact⟨hb.1,decide_eq_true (by have e:(siK s trips).Al.length=0:=rfl;omega)⟩)
  omega
 apart i d _ _ hb:=by
  obtain⟨x,y,hx,_⟩:=hb;have hx:([]:List K4)[i]?=some x:=hx;simp at hx
 charger:=h.charger
theorem Q8Z(h:Q2T s):Q2T (siK s trips):=⟨h.zn,h.an,λi x hx=>by
 have hx:([]:List K4)[i]?=some x:=hx;simp at hx⟩
theorem QcP(k:QF s)(hf:RF s.A9)(h4:trips.length≤4)(ho:∀x,x∈trips->opC s x.Aa=true):QF (siK s trips) where
 A9:=k.A9
 Au:=k.Au
 A3:=k.A3
 Al:=Q6y (by show 0≤1000;decide) (λx hx=>by cases hx)
 Ak:=Q6y (by show (trips.map stK).length≤1000;simp;omega) (λx hx=>by
  have hx:x∈trips.map stK:=hx;obtain⟨y,hy,rfl⟩:=List.mem_map.1 hx;exact⟨Q0F hf (Q2v (ho y hy)),Q0p (by show -1000000≤(1000000:Int)∧(1000000:Int)≤1000000;omega)⟩)
theorem Qc8(hf:RF s.A9)(h4:trips.length≤4)(ho:∀x,x∈trips->opC s x.Aa=true)(hd:trips.Pairwise (λx y=>x.Aa≠y.Aa∧x.To≠y.To))(ht:0≤tick∧tick≤20000):RSt (siK s trips) (flS tick (trips.map plK)):=by
 have none:∀{α:Type} {i:Nat} {x:α},([]:List α)[i]?=some x->False:=λ{α i x} h=>by simp at h
 refine⟨ht,rfl,?_,by show 0≤20;omega,λi r hr=>?_,λi c hc=>(none hc).elim,λi c hc=>(none hc).elim,λi c hc=>(none hc).elim,λi x y hx=>(none hx).elim,λi x hx=>(none hx).elim,λi x y hx=>(none hx).elim,?_⟩
 ·show ((trips.map plK).map mkR).length=(trips.map stK).length;simp
 ·have hr:((trips.map plK).map mkR)[i]?=some r:=hr;rw [List.map_map,gK] at hr;obtain⟨y,hy,rfl⟩:=Option.map_eq_some_iff.1 hr;have hoy:=ho y (gM hy);unfold opC at hoy;simp only [gP,bne_iff_ne,ne_eq] at hoy;refine⟨hoy.1,hoy.2,?_,?_,?_,?_,λh=>?_⟩
  ·show -1≤(-1:Int)∧(-1:Int)<(0:Nat);omega
  ·show 0≤(1000000:Int)∧(1000000:Int)≤1000000;omega
  ·show 0≤(0:Int)∧(0:Int)≤20000;omega
  ·show 0≤(0:Int)∧(0:Int)≤20000;omega
  ·have h:0≤(-1:Int):=h;omega
 ·rw [Q73,List.map_map];unfold List.Nodup;rw [List.pairwise_map];refine List.Pairwise.imp_of_mem (λ{x y} hx hy hxy=>?_) hd;show low x.Aa≠low y.Aa;rw [lowK hf (Q2v (ho x hx)),lowK hf (Q2v (ho y hy))];have:=hxy.1;omega
theorem Q7J(k0:QF s)(h:Q0r s)(hnm:Q2T s)(hap:s.A3.length≤1000000)(hR:Q1N s trips=true)(ht:0≤tick∧tick≤10000){most:Int}(hpl:plan.length=trips.length)(h30:∀w,w∈plan->w.length≤60)
  (hW:∀(i:Nat) x w,trips[i]?=some x->plan[i]?=some w->Q60 s avoid tick most x w) (hC:Q0d s trips plan) {post:Bool->Prop} (hp:post true):KG s trips tick plan post:=by
 obtain⟨r1,r2,r3,r4⟩:=Q3x hR;have ho:∀x,x∈trips->opC s x.Aa=true:=λx hx=>(r1 x hx).1
 have hic:∀x,x∈trips->isC s.A9 x.Aa=true:=λx hx=>Q2v (ho x hx)
 have hml:ml plan≤60:=QaN plan 0 (by omega) h30;have kT:=QcP k0 h.fl r4 ho;have rT:=Q9J h r4 ho r2;have stT:=Qc8 h.fl r4 ho r2 (tick:=tick) (by omega);have szT:SzN 0 (flS tick (trips.map plK)):=⟨by show 0≤20;omega,by show ((trips.map plK).map mkR).length≤20;simp;omega,by show 0≤20;omega,by show 0≤0;omega,by show 0≤0;omega⟩;unfold KG;refine Jn.mk (λx=>x=(trips.map stK,(trips.map plK).map mkR)) (Loop.inv trips.length (λi (t:List QV×List Q2×Int)=>t=((trips.take i).map stK,((trips.take i).map plK).map mkR,(i:Int))) rfl (λi t hi hI=>?_) (λt hI=>?_)) (λx e=>?_)
 ·subst hI;have hx:trips[i]?=some (trips[i]'hi):=gE hi;generalize trips[i]'hi=x at hx;refine Ite.lt (by show (i:Int)<_;omega) ⟨x,Qo rfl hx,?_,?_,?_⟩
  ·simp;omega
  ·simp;omega
  ·show (_,_,w64 ((i:Int)+1))=_;rw [kw1 (by omega),List.take_add_one,hx];simp only [Option.toList_some,List.map_append,List.map_cons,List.map_nil];rfl
 ·subst hI;rw [List.take_length];exact Ite.nlt (by show ¬(trips.length:Int)<_;omega) rfl
 subst e;refine Jn.mk (λb=>b=false) (Ite.f (by simp [hpl]) (Q3E (s:=siK s trips) kT hap rT (Q8Z hnm) (Ite.t rfl (Q6J (s:=siK s trips) (st:=flS tick (trips.map plK)) stT (szT.sz (by omega)) rfl)))) (λb e=>Ite.f e ?_);refine Jn.mk (λx=>x=((ml plan:Nat):Int)) (Loop.inv plan.length (λi (t:Int×Int)=>t.2=(i:Int)∧t.1=(((plan.take i).foldl (λm w=>max m w.length) 0:Nat):Int)) ⟨rfl,rfl⟩ (λi t hi hI=>?_) (λt hI=>?_)) (λx e=>?_)
 ·obtain⟨m,c⟩:=t;obtain⟨e1,e2⟩:=hI;simp only at e1 e2;subst e1;subst e2;have hx:plan[i]?=some (plan[i]'hi):=gE hi;generalize plan[i]'hi=w at hx;refine Ite.lt (by show (i:Int)<_;omega) ⟨w,Qo rfl hx,?_,?_⟩
  ·show w64 ((i:Int)+1)=_;rw [kw1 (by omega)]
  ·show imax (((plan.take i).foldl (λm w=>max m w.length) 0:Nat):Int) (w.length:Int)=_;rw [List.take_add_one,hx,List.foldl_append];simp only [Option.toList_some,List.foldl_cons,List.foldl_nil,imax];split <;> omega
 ·obtain⟨m,c⟩:=t;obtain⟨e1,e2⟩:=hI;simp only at e1 e2;subst e1;subst e2;rw [List.take_length];exact Ite.nlt (by show ¬(plan.length:Int)<_;omega) rfl
 subst e;refine Jn.mk (λx:Int×List Int×List Q2×List Int×List Int×List Qd=>∃qs,FolI s avoid tick trips plan (ml plan) qs∧x.2.2.1=qs.map mkR) (Loop.inv (ml plan) (λk (t:Int×List Int×List Q2×List Int×List Int×List Qd×Int)=>∃qs,FolI s avoid tick trips plan k qs∧RSt (siK s trips) (flS (tick+k) qs)∧SzN k (flS (tick+k) qs)∧t=(tick+(k:Int),[],qs.map mkR,[],[],[],(k:Int))) ?_ (λk t hk hI=>?_) (λt hI=>?_)) (λx hx=>?_)
 ·have e0:tick+((0:Nat):Int)=tick:=by omega
  refine⟨trips.map plK,⟨by simp,λi q x w hq hx hw=>?_⟩,by rw [e0];exact stT,by rw [e0];exact szT,by rw [e0];rfl⟩;rw [gK,hx] at hq;cases hq;obtain⟨r,hr⟩:=(hW i x w hx hw).run;refine⟨⟨hic x (gM hx),by show (0:Int)≤0;omega,by show (0:Int)<100;omega⟩,⟨r,by rw [e0];exact hr⟩,?_,by show 1000000-21*((0:Nat):Int)≤(1000000:Int);omega,by show (1000000:Int)≤1000000;omega⟩;rw [show min 0 w.length=0 by omega,Q3g];rfl
 ·obtain⟨qs,hF,hst,hsz,e⟩:=hI;subst e;have hT:=hF.flT hic hpl hk (by omega) hC;have hlen:(acL plan k).length=plan.length:=by simp [acL]
  refine Ite.lt (by show (k:Int)<_;omega) ?_;refine Jn.mk (λx:Int×List Int×List Q2×List Int×List Int×List Qd=>∃qs,FolI s avoid tick trips plan (k+1) qs∧RSt (siK s trips) (flS (tick+((k+1:Nat):Int)) qs)∧SzN (k+1) (flS (tick+((k+1:Nat):Int)) qs)∧x=(tick+((k+1:Nat):Int),[],qs.map mkR,[],[],[])) ?_ (λx hx=>?_)
  ·refine⟨⟨by omega,by omega⟩,Jn.mk (λx=>x=acL plan k) (Loop.inv plan.length (λi (t:List Int×Int)=>t=(mset (acK plan k) (List.replicate (Int.toNat (plan.length:Int)) (0:Int)) i,(i:Int))) (by rw [Q6E];rfl) (λi t hi hI=>?_) (λt hI=>?_)) (λx e=>?_)⟩
   ·subst hI;have hw:plan[i]?=some (plan[i]'hi):=gE hi;generalize plan[i]'hi=w at hw;have hwl:=h30 w (gM hw);have hac:acK plan k i=w.getD k 0:=by unfold acK;rw [gD (l:=plan),hw];rfl
    have hil:i<(List.replicate (Int.toNat (plan.length:Int)) (0:Int)).length:=by simp;exact hi
    have hset:=Q3c (acK plan k) hil;have hgi:(mset (acK plan k) (List.replicate (Int.toNat (plan.length:Int)) (0:Int)) i)[i]?=some 0:=Q5u _ (by rw [List.getElem?_replicate,gF (by simpa using hi)]);refine Ite.lt (by show (i:Int)<_;omega) ⟨w,Qo rfl hw,Jn.mk (λx=>x=mset (acK plan k) (List.replicate (Int.toNat (plan.length:Int)) (0:Int)) (i+1)) (Ite.mk (λe=>?_) (λe=>?_)) (λx e=>?_)⟩
    ·have e:=of_decide_eq_true e;have hkw:k<w.length:=by have e:(k:Int)<(w.length:Int):=e;omega
     have ha:w[k]?=some (w[k]'hkw):=gE hkw;generalize w[k]'hkw=a at ha;refine⟨a,Qo rfl ha,0,Qo rfl hgi,?_⟩;rw [<-hset,hac,gD,ha];rfl
    ·have e:=of_decide_eq_false e;have hkw:w.length≤k:=by have e:¬(k:Int)<(w.length:Int):=e;omega
     have h0:acK plan k i=0:=by rw [hac,gD,gN hkw];rfl
     rw [<-hset,h0];exact (Q91 hgi).symm
    ·subst e;show (_,w64 ((i:Int)+1))=_;rw [kw1 (by omega)]
   ·subst hI;refine Ite.nlt (by show ¬(plan.length:Int)<_;omega) ?_;show mset _ _ plan.length=_;have hl:(List.replicate (Int.toNat (plan.length:Int)) (0:Int)).length=plan.length:=by simp
    have:=Q38 (acK plan k) (List.replicate (Int.toNat (plan.length:Int)) (0:Int));rw [hl] at this;rw [this];rfl
   ·subst e;have ka:OkL I64 (acL plan k):=Q6y (by rw [hlen];omega) (λa ha=>by
     obtain⟨i,hi⟩:=gO ha;have hil:=(gS.1 hi).1;have hq:=gE (show i<qs.length by have:=hF.len;omega);have:=(hT.a i _ hq).1;rw [gD,hi] at this;have this:0≤a∧a<7:=this;exact Q0p (by omega))
    obtain⟨qs',e1,e2,e3,e4⟩:=FlT.Bh (s:=siK s trips) (avoid:=avoid) h.fl (qs:=qs) (acts:=acL plan k) (t:=tick+k) ⟨hT.len,hT.q,hT.a,hT.d⟩ hst.clash (by omega);have hchk:=FlT.chk (s:=siK s trips) (avoid:=avoid) h.fl (qs:=qs) (acts:=acL plan k) (t:=tick+k) ⟨hT.len,hT.q,hT.a,hT.d⟩ hst.clash (by omega);have hkeep:=Q8q (s:=siK s trips) (n:=k) (by omega) h.fl rT.rs hst hsz hchk f0K;rw [e1] at hkeep;have htk:tick+((k+1:Nat):Int)=tick+(k:Int)+1:=by omega
    have hF':=hF.step h.rs hpl e3 e4;refine Q6x (s:=siK s trips) (st:=flS (tick+k) qs) (f:=f0K) (n:=k) (by omega) kT h.fl rT.rs hst hsz ka ?_;rw [e2];refine Jn.mk (λb=>b=false) (Ite.f rfl ?_) (λb e=>Ite.f e ?_)
    ·show (((qs'.map mkR).length:Int) != (trips.length:Int))=false;simp [hF'.len]
    ·exact⟨qs',hF',by rw [htk];exact hkeep.1,by rw [htk];exact hkeep.2.1,by rw [htk];rfl⟩
  ·obtain⟨qs',g1,g2,g3,g4⟩:=hx;subst g4;exact⟨qs',g1,g2,g3,by show (_,_,_,_,_,_,w64 ((k:Int)+1))=_;rw [kw1 (by omega)]⟩
 ·obtain⟨qs,hF,hst,hsz,e⟩:=hI;subst e;exact Ite.nlt (by show ¬((ml plan:Nat):Int)<_;omega) ⟨qs,hF,rfl⟩
 obtain⟨qs,hF,e⟩:=hx;refine Jn.mk (λ_=>True) (Loop.inv trips.length (λi (t:Int)=>t=(i:Int)) rfl (λi t hi hI=>?_) (λt hI=>?_)) (λ_ _=>hp)
 ·subst hI;have hx:trips[i]?=some (trips[i]'hi):=gE hi;have hw:plan[i]?=some (plan[i]'(by omega)):=gE _;have hq:qs[i]?=some (qs[i]'(by have:=hF.len;omega)):=gE _;generalize trips[i]'hi=x at hx;generalize plan[i]'_=w at hw;generalize qs[i]'_=q at hq;obtain⟨g1,⟨r,g2⟩,g3,_⟩:=hF.w i q x w hq hx hw;have hwl:=(Qc6 plan 0).2 w (gM hw);rw [List.drop_eq_nil_of_le (by exact hwl)] at g2;have hqx:q.1=x.To:=congrArg (λp:(Int×Int)×Int=>p.1.1) g2.1;refine Ite.lt (by omega) ⟨mkR q,Qo rfl (by rw [e,gK,hq];rfl),x,Qo rfl hx,Ite.f ?_ (by rw [kw1 (by omega)])⟩;show (q.1 != x.To)=false;rw [hqx];simp
 ·subst hI;exact Ite.nlt (by omega) trivial
end
def fK:Qe:=⟨3,2,1,[1,1,1,1,1,3],[15,15,15,15,15,15]⟩
def sK:Q5:=⟨fK,[],[],[],[]⟩
theorem QbB:RF fK:=by
 refine⟨by decide,by decide,by decide,by decide,by decide,by decide,by decide,by decide,by decide,λi x y hx hy=>?_⟩;have key:∀i:Nat,i<6->(0≤fK.Ac.getD i 0∧fK.Ac.getD i 0<7)∧(0≤fK.Ah.getD i 0∧fK.Ah.getD i 0≤63):=by decide
 have hi:i<6:=(gS.1 hx).1;have e1:fK.Ac.getD i 0=x:=by rw [gD,hx];rfl
 have e2:fK.Ah.getD i 0=y:=by rw [gD,hy];rfl
 have:=key i hi;rw [e1,e2] at this;omega
theorem Qab:RS sK:=⟨QbB,λz hz=>by simp [sK] at hz,λz hz=>by simp [sK] at hz,λz hz=>by simp [sK] at hz⟩
theorem Q5b{α:Type}{P:α->Prop}:OkL P ([]:List α):=⟨by simp,λx hx=>by simp at hx⟩
theorem Qcw:QF sK where
 A9:=⟨by unfold I64;decide,by unfold I64;decide,by unfold I64;decide,⟨by decide,by unfold I64;decide⟩,⟨by decide,by unfold I64;decide⟩⟩
 Au:=Q5b
 A3:=Q5b
 Al:=Q5b
 Ak:=Q5b
theorem Qcb(c t:Int):opn sK c t=isC fK c:=by simp [opn,zn,fidx,sK]
theorem Q8E(t:Int)(q:Q1):mvs sK [] t q=mvs sK [] 0 q:=by
 unfold mvs mv1;simp only [Qcb]
def plcK(r:Nat):Q1:=⟨((r / 2:Nat):Int),0,r % 2 == 1⟩
def nbK(c:Nat):List Nat:=(mvs sK [] 0 ⟨(c:Int),0,false⟩).map (λm=>m.Bi.cell.toNat)
def optK(to r:Nat):List (Nat×Nat):=(if r % 2=1∨r / 2=to then [(0,r / 2*2+1)] else [])++(if r % 2=0 then (nbK (r / 2)).map (λc=>(1,c*2)) else [])
theorem Qbf:∀c,c<6->∀m,m∈mvs sK [] 0 ⟨((c:Nat):Int),0,false⟩->m.Bi.Ba=0∧m.Bi.B4=false∧0≤m.Bi.cell∧m.Bi.cell<6∧0≤m.Av:=by decide +kernel
theorem QbM{t:Int}{x:Qu}{to r:Nat}(hto:x.To=(to:Int))(hr:r<12){q':Q1}{a:Int}(h:Q1V sK [] t x (plcK r) q' a):∃k r',r'<12∧q'=plcK r'∧(k,r')∈optK to r∧(k:Int)=(if a=-1 then 0 else 1):=by
 rcases h with ⟨rfl,rfl,hd⟩ | ⟨hd,hm⟩
 ·refine⟨0,r / 2*2+1,by omega,?_,?_,by simp⟩
  ·unfold plcK;have e1:(r / 2*2+1) / 2=r / 2:=by omega
   have e2:(r / 2*2+1) % 2=1:=by omega
   rw [e1,e2];rfl
  ·unfold optK;have:r % 2=1∨r / 2=to:=by
    rcases hd with hd | hd
    ·left;simpa [plcK] using hd
    ·right;simp only [plcK,hto] at hd;omega
   rw [gF this];simp
 ·have hr0:r % 2=0:=by
   simp only [plcK,beq_eq_false_iff_ne] at hd;omega
  have hq:plcK r=⟨((r / 2:Nat):Int),0,false⟩:=by
   unfold plcK;rw [hr0];rfl
  rw [Q8E,hq] at hm;obtain⟨g1,g2,g3,g4',g5⟩:=Qbf (r / 2) (by omega) _ hm;simp only at g1 g2 g3 g4' g5;refine⟨1,q'.cell.toNat*2,by omega,?_,?_,by rw [gC (by omega)];rfl⟩
  ·unfold plcK;have e1:q'.cell.toNat*2 / 2=q'.cell.toNat:=by omega
   have e2:q'.cell.toNat*2 % 2=0:=by omega
   rw [e1,e2,Int.toNat_of_nonneg g3];obtain⟨c,r',d⟩:=q';simp only at g1 g2;subst g1;subst g2;rfl
  ·unfold optK;rw [List.mem_append];right;rw [gF hr0];refine List.mem_map.2 ⟨q'.cell.toNat,?_,rfl⟩;unfold nbK;exact List.mem_map.2 ⟨_,hm,rfl⟩
def trip1:List Qu:=[⟨0,2⟩]
def pK1:Qq:=⟨sK,trip1,0,[],20⟩
def h1K(r:Nat):Nat:=[2,99,1,99,0,0,3,99,2,99,1,99].getD r 0
theorem Qd6:∀r,r<12->∀e,e∈optK 2 r->h1K r≤e.1+h1K e.2:=by decide +kernel
theorem low1:∀(tr:List (Q0×Qm)) (t:Int) (J:Q0) (r:Nat),r<12->g4 J 0=plcK r->XR pK1 t J tr->arrJ pK1 (Q04 J tr)->((h1K r:Nat):Int)≤Y9 1 tr
 | [],t,J,r,hr,hJ,_,hA=>by
  have h0:=hA 0 _ rfl;rw [show Q04 J []=J from rfl,hJ] at h0;have h2:r / 2=2:=by simp only [plcK] at h0;have:((r / 2:Nat):Int)=2:=h0;omega
  have:r=4∨r=5:=by omega
  rcases this with rfl | rfl <;> decide
 | (J',A) :: tr,t,J,r,hr,hJ,hc,hA=>by
  cases hc with
  | cons hs hrest=>
   have h0:=hs.st 0 _ rfl;rw [hJ] at h0;obtain⟨k,r',hr',hq',ho,hk⟩:=QbM (to:=2) rfl hr h0;have ih:=low1 tr (t+1) J' r' hr' hq' hrest hA;have:=Qd6 r hr _ ho;simp only at this;simp only [Y9,Xt];rw [<-hk];omega
def trip2:List Qu:=[⟨0,1⟩,⟨1,0⟩]
def pK2(m:Int):Qq:=⟨sK,trip2,0,[],m⟩
def h2T:List Nat:=[99,99,5,99,5,99,3,99,3,99,4,99,99,99,99,99,99,99,99,99,99,99,99,99,0,0,99,99,4,99,1,99,2,99,3,99,0,0,99,99,4,99,1,99,2,99,3,99,1,1,3,99,99,99,2,99,3,99,4,99,99,99,99,99,99,99,99,99,99,99,99,99,2,2,3,99,5,99,99,99,5,99,5,99,99,99,99,99,99,99,99,99,99,99,99,99,1,1,3,99,5,99,2,99,99,99,5,99,99,99,99,99,99,99,99,99,99,99,99,99,2,2,3,99,5,99,3,99,4,99,99,99,99,99,99,99,99,99,99,99,99,99,99,99]
def h2K(a b:Nat):Nat:=h2T.getD (a*12+b) 0
def apK(a a' b b':Nat):Bool:=a / 2 != b / 2&&a / 2 != b' / 2&&a' / 2 != b / 2&&a' / 2 != b' / 2
theorem Qd3:(List.range 12).all (λa=>(List.range 12).all (λb=>(optK 1 a).all (λe=>(optK 0 b).all (λf=>!(apK a e.2 b f.2)||decide (h2K a b≤e.1+f.1+h2K e.2 f.2)))))=true:=by decide +kernel
theorem Qdf{a b:Nat}(ha:a<12)(hb:b<12){e f:Nat×Nat}(he:e∈optK 1 a)(hf:f∈optK 0 b)(hap:apK a e.2 b f.2=true):h2K a b≤e.1+f.1+h2K e.2 f.2:=by
 have h1:=gT.1 Qd3 a (by simpa using ha);have h2:=gT.1 h1 b (by simpa using hb);have h3:=gT.1 h2 e he;have h4:=gT.1 h3 f hf;rw [hap] at h4;simpa using h4
theorem YG{r r':Nat}:(plcK r).cell=(plcK r').cell↔r / 2=r' / 2:=by simp only [plcK];omega
theorem low2{m:Int}:∀(tr:List (Q0×Qm)) (t:Int) (J:Q0) (a b:Nat),a<12->b<12->g4 J 0=plcK a->g4 J 1=plcK b->XR (pK2 m) t J tr->arrJ (pK2 m) (Q04 J tr)->((h2K a b:Nat):Int)≤Y9 2 tr
 | [],t,J,a,b,ha,hb,hJa,hJb,_,hA=>by
  have h0:=hA 0 _ rfl;have h1:=hA 1 _ rfl;rw [show Q04 J []=J from rfl,hJa] at h0;rw [show Q04 J []=J from rfl,hJb] at h1;have e0:a / 2=1:=by have:((a / 2:Nat):Int)=1:=h0;omega
  have e1:b / 2=0:=by have:((b / 2:Nat):Int)=0:=h1;omega
  have ea:a=2∨a=3:=by omega
  have eb:b=0∨b=1:=by omega
  rcases ea with rfl | rfl <;> rcases eb with rfl | rfl <;> decide
 | (J',A) :: tr,t,J,a,b,ha,hb,hJa,hJb,hc,hA=>by
  cases hc with
  | cons hs hrest=>
   have h0:=hs.st 0 _ rfl;have h1:=hs.st 1 _ rfl;rw [hJa] at h0;rw [hJb] at h1;obtain⟨k0,a',ha',hqa,hoa,hka⟩:=QbM (to:=1) rfl ha h0;obtain⟨k1,b',hb',hqb,hob,hkb⟩:=QbM (to:=0) rfl hb h1;have hap:=hs.ap 0 1 (by decide) (by show 1<2;decide);have hap':apK a a' b b'=true:=by
    unfold Q8z at hap;rw [hJa,hJb,hqa,hqb] at hap;have n1:a / 2≠b / 2:=λe=>hap _ (.inl rfl) (.inl (YG.2 e))
    have n2:a / 2≠b' / 2:=λe=>hap _ (.inl rfl) (.inr (YG.2 e))
    have n3:a' / 2≠b / 2:=λe=>hap _ (.inr rfl) (.inl (YG.2 e))
    have n4:a' / 2≠b' / 2:=λe=>hap _ (.inr rfl) (.inr (YG.2 e))
    simp [apK,n1,n2,n3,n4]
   have ih:=low2 tr (t+1) J' a' b' ha' hb' hqa hqb hrest hA;have:=Qdf ha hb hoa hob hap';simp only at this;simp only [Y9,Xt];rw [<-hka,<-hkb];omega
theorem Q7y{plan:List (List Int)}(hl:plan.length≤100)(hr:∀w,w∈plan->w.length≤1000){post:Int->Prop}(hp:post (((plan.map List.length).sum:Nat):Int)):G8 plan post:=by
 unfold G8;have bd:∀i,i≤plan.length->(((plan.take i).map List.length).sum)≤i*1000:=by
  intro i;induction i with
  | zero=>intro _;simp
  | succ i ih=>
   intro hi;have:=ih (by omega);have hx:plan[i]?=some (plan[i]'(by omega)):=gE _;have hw:=hr _ (gM hx);rw [List.take_add_one,hx];simp only [Option.toList_some,List.map_append,List.map_cons,List.map_nil,List.sum_append,List.sum_cons,List.sum_nil];omega
 refine Jn.mk (λn=>n=(((plan.map List.length).sum:Nat):Int)) (Loop.inv plan.length (λi (t:Int×Int)=>t.2=(i:Int)∧t.1=((((plan.take i).map List.length).sum:Nat):Int)) ⟨rfl,by simp⟩ (λi t hi hI=>?_) (λt hI=>?_)) (λn e=>by subst e;exact hp)
 ·obtain⟨m,c⟩:=t;obtain⟨e1,e2⟩:=hI;simp only at e1 e2;subst e1;subst e2;have hx:plan[i]?=some (plan[i]'hi):=gE hi;generalize plan[i]'hi=w at hx;have hw:=hr w (gM hx);have:=bd i (by omega);refine Ite.lt (by show (i:Int)<_;omega) ⟨w,Qo rfl hx,?_,?_⟩
  ·show w64 ((i:Int)+1)=_;rw [kw1 (by omega)]
  ·show w64 (_+(w.length:Int))=_;rw [kw (by omega) (by omega),List.take_add_one,hx];simp
 ·obtain⟨m,c⟩:=t;obtain⟨e1,e2⟩:=hI;simp only at e1 e2;subst e1;subst e2;rw [List.take_length];exact Ite.nlt (by show ¬(plan.length:Int)<_;omega) rfl
theorem Q1V.Av{s:Q5}(h:RS s){avoid:List Int}{t:Int}{x:Qu}{q q':Q1}{a:Int}(hq:0≤q.Ba)(hs:Q1V s avoid t x q q' a):a=-1∨0≤a:=by
 rcases hs with ⟨h1,_⟩ | ⟨_,hm⟩
 ·exact .inl h1
 ·exact .inr (Q26 h hq hm).2.1
theorem Q2n(i:Nat)(e:Q0×Qm)(r:List (Q0×Qm))(h:gi e.2 i=-1∨0≤gi e.2 i):((actsJ i (e :: r)).length:Int)=(if gi e.2 i=-1 then 0 else 1)+((actsJ i r).length:Int):=by
 unfold actsJ;rw [List.map_cons,List.filter_cons];rcases h with h | h
 ·rw [h];simp
 ·rw [gF (by simpa using h),gC (by omega)];simp;omega
section
variable {p:Qq}
theorem XR.len1(h:RS p.s)(hn:p.Bj.length=1):∀{tr:List (Q0×Qm)} {t:Int} {J:Q0},0≤(g4 J 0).Ba->(∀x,p.Bj[0]?=some x->isQ p.s ((g4 J 0).cell,(g4 J 0).Ba))->XR p t J tr->((actsJ 0 tr).length:Int)=Y9 1 tr
 | [],_,_,_,_,_=>by simp [actsJ,Y9]
 | e :: r,t,J,h0,hq,hc=>by
  cases hc with
  | cons hs hr=>
   have hx:p.Bj[0]?=some (p.Bj[0]'(by omega)):=gE _;have hst:=hs.st 0 _ hx;have hq':=hst.q h (hq _ hx);have ih:=XR.len1 h hn (tr:=r) hq'.2.1 (λ_ _=>hq') hr;rw [Q2n 0 _ r (hst.Av h h0),ih];simp only [Y9,Xt];omega
theorem XR.len2(h:RS p.s)(hn:p.Bj.length=2):∀{tr:List (Q0×Qm)} {t:Int} {J:Q0},isQ p.s ((g4 J 0).cell,(g4 J 0).Ba)->isQ p.s ((g4 J 1).cell,(g4 J 1).Ba)->XR p t J tr->((actsJ 0 tr).length:Int)+((actsJ 1 tr).length:Int)=Y9 2 tr
 | [],_,_,_,_,_=>by simp [actsJ,Y9]
 | e :: r,t,J,hq0,hq1,hc=>by
  cases hc with
  | cons hs hr=>
   have hx:p.Bj[0]?=some (p.Bj[0]'(by omega)):=gE _;have hy:p.Bj[1]?=some (p.Bj[1]'(by omega)):=gE _;have hs0:=hs.st 0 _ hx;have hs1:=hs.st 1 _ hy;have ih:=XR.len2 h hn (tr:=r) (hs0.q h hq0) (hs1.q h hq1) hr;rw [Q2n 0 _ r (hs0.Av h hq0.2.1),Q2n 1 _ r (hs1.Av h hq1.2.1)];simp only [Y9,Xt] at ih ⊢;omega
end
theorem Q7O(n:Nat):∀tr:List (Q0×Qm),Y9 n tr≤n*tr.length
 | []=>by simp [Y9]
 | e :: r=>by
  have h1:=Q3f e.2 n;have h2:=Q7O n r;simp only [Y9,List.length_cons];have:(n:Int)*((r.length+1:Nat):Int)=n*r.length+n:=by rw [Int.natCast_add];simp [Int.mul_add]
  omega
theorem Q7c{trips:List Qu}{m:Int}(hm:0≤m∧m≤20)(h3:trips.length≤3)(hb:badK sK trips 0 m=false)(hs:Q4Y sK trips.length m=true){post:List (List Int)×Int->Prop}
  (hp:∀S tr plan,StJ ⟨sK,trips,0,[],m⟩ S->XR ⟨sK,trips,0,[],m⟩ 0 S tr->arrJ ⟨sK,trips,0,[],m⟩ (Q04 S tr)->(tr.length:Int)≤m->plan.length=trips.length->(∀i:Nat,i<trips.length->plan[i]?=some (actsJ i tr)) ->
   (∀tr',XR ⟨sK,trips,0,[],m⟩ 0 S tr'->arrJ ⟨sK,trips,0,[],m⟩ (Q04 S tr')->(tr'.length:Int)≤m->Y9 trips.length tr≤Y9 trips.length tr')->post (plan,0))
  (hw:(∀S tr',StJ ⟨sK,trips,0,[],m⟩ S->XR ⟨sK,trips,0,[],m⟩ 0 S tr'->arrJ ⟨sK,trips,0,[],m⟩ (Q04 S tr')->(tr'.length:Int)≤m->False)->post ([],14)):Xv sK trips 0 [] m post:=by
 unfold Xv;refine Qce (by omega) ?_;rw [hb];obtain⟨hR,ht,_⟩:=Q5t hb;obtain⟨r1,r2,r3,r4⟩:=Q3x hR;refine Ite.f rfl (Ite.f (decide_eq_false (by omega)) (Q6j (p:=⟨sK,trips,0,[],m⟩) Qcw Qab (by show sK.A9.Ac.length≤1000;decide) (by show trips.length≤100;omega) (Ite.t hs ?_)));exact Q9H (p:=⟨sK,trips,0,[],m⟩) Qcw Qab (by show sK.A9.Ac.length≤16;decide) (by show ([]:List Int).length≤maxLen;simp) (by show (0:Int)≤0∧(0:Int)≤20000;decide) ⟨hm.1,by show m≤100;omega⟩ h3 (λx hx=>Q2v (r1 x hx).1) hp hw
def mkJ(a b:Nat):Q0:=⟨plcK a,plcK b,p0K,p0K⟩
def mk1(a:Nat):Q0:=⟨plcK a,p0K,p0K,p0K⟩
theorem js1{m:Int}{t:Int}{a a':Nat}{x:Int}(h:(⟨x,plcK a'⟩:KV)∈mvs sK [] 0 (plcK a))(hd:(plcK a).B4=false):YA ⟨sK,trip1,0,[],m⟩ t (mk1 a) (mk1 a') ⟨x,0,0,0⟩:=by
 refine⟨λi y hy=>?_,λa b hab hb=>?_,λi hi h4=>?_⟩
 ·have hi:i<1:=(gS.1 hy).1;have:i=0:=by omega
  subst this;exact .inr ⟨hd,by rw [Q8E];exact h⟩
 ·have:b<1:=hb;omega
 ·have hi':1≤i:=hi;rcases four h4 with rfl | rfl | rfl | rfl
  ·omega
  ·rfl
  ·rfl
  ·rfl
theorem js2{m:Int}{t:Int}{a a' b b':Nat}{x y:Int}(h0:Q1V sK [] 0 ⟨0,1⟩ (plcK a) (plcK a') x)(h1:Q1V sK [] 0 ⟨1,0⟩ (plcK b) (plcK b') y)(hap:apK a a' b b'=true):YA ⟨sK,trip2,0,[],m⟩ t (mkJ a b) (mkJ a' b') ⟨x,y,0,0⟩:=by
 have tm:∀{x:Qu} {q q':Q1} {a:Int},Q1V sK [] 0 x q q' a->Q1V sK [] t x q q' a:=λh=>by
  rcases h with h | ⟨h1,h2⟩
  ·exact .inl h
  ·exact .inr ⟨h1,by rw [Q8E];exact h2⟩
 refine⟨λi z hz=>?_,λc d hcd hd=>?_,λi hi h4=>?_⟩
 ·have hi:i<2:=(gS.1 hz).1;have:i=0∨i=1:=by omega
  rcases this with rfl | rfl
  ·cases hz;exact tm h0
  ·cases hz;exact tm h1
 ·have hd':d<2:=hd;have e0:c=0:=by omega
  have e1:d=1:=by omega
  subst e0;subst e1;simp only [apK,gP,bne_iff_ne,ne_eq] at hap;obtain⟨⟨⟨n1,n2⟩,n3⟩,n4⟩:=hap;rintro z (h | h) (h' | h')
  ·exact n1 (YG.1 (h.symm.trans h'))
  ·exact n2 (YG.1 (h.symm.trans h'))
  ·exact n3 (YG.1 (h.symm.trans h'))
  ·exact n4 (YG.1 (h.symm.trans h'))
 ·have hi':2≤i:=hi;rcases four h4 with rfl | rfl | rfl | rfl
  ·omega
  ·omega
  ·rfl
  ·rfl
theorem stJ1{m:Int}{S:Q0}(h:StJ ⟨sK,trip1,0,[],m⟩ S):S=mk1 0:=Q7A (λi hi=>by
 rcases four hi with rfl | rfl | rfl | rfl
 ·exact h.b 0 _ rfl
 ·exact h.u 1 (by show 1≤1;omega) hi
 ·exact h.u 2 (by show 1≤2;omega) hi
 ·exact h.u 3 (by show 1≤3;omega) hi)
theorem stJ2{m:Int}{S:Q0}(h:StJ ⟨sK,trip2,0,[],m⟩ S):S=mkJ 0 2:=Q7A (λi hi=>by
 rcases four hi with rfl | rfl | rfl | rfl
 ·exact h.b 0 _ rfl
 ·exact h.b 1 _ rfl
 ·exact h.u 2 (by show 2≤2;omega) hi
 ·exact h.u 3 (by show 2≤3;omega) hi)
theorem Q6U{r:Nat}(hr:r<12):isQ sK ((plcK r).cell,(plcK r).Ba):=by
 refine⟨XO.2 ⟨by show (0:Int)≤((r / 2:Nat):Int);omega,?_⟩,by simp [plcK],by simp [plcK]⟩;show ((r / 2:Nat):Int)<((6:Nat):Int);omega
def tr1K:List (Q0×Qm):=[(mk1 2,⟨1,0,0,0⟩),(mk1 4,⟨1,0,0,0⟩)]
theorem ch1{m:Int}:XR ⟨sK,trip1,0,[],m⟩ 0 (mk1 0) tr1K:=
 .cons (js1 (by decide +kernel) (by decide)) (.cons (js1 (by decide +kernel) (by decide)) (.nil _ _))
theorem rsM{x:Qu}{q q':Q1}{a:Int}(hd:q.B4=false)(h:(⟨a,q'⟩:KV)∈mvs sK [] 0 q):Q1V sK [] 0 x q q' a:=.inr ⟨hd,h⟩
def tr2K:List (Q0×Qm):=[(mkJ 6 2,⟨2,0,0,0⟩),(mkJ 8 0,⟨1,3,0,0⟩),(mkJ 2 1,⟨4,-1,0,0⟩)]
theorem ch2{m:Int}:XR ⟨sK,trip2,0,[],m⟩ 0 (mkJ 0 2) tr2K:=
 .cons (js2 (rsM (by decide) (by decide +kernel)) (rsM (by decide) (by decide +kernel)) (by decide))
  (.cons (js2 (rsM (by decide) (by decide +kernel)) (rsM (by decide) (by decide +kernel)) (by decide))
   (.cons (js2 (rsM (by decide) (by decide +kernel)) (.inl ⟨rfl,by decide,.inr (by decide)⟩) (by decide)) (.nil _ _)))
theorem Q8D{a:List Int}(h:a.length≤10){post:Bool->Prop}(hp:post true):X4 a a post:=Q5P (by simp [maxLen];omega) (λ_=>hp) rfl
theorem Q9l{post:Bool->Prop}(hp:post true):Xf post:=by
 unfold Xf Gy;show Xv sK trip1 0 [] 20 _;refine Q7c (by decide) (by decide) (by decide +kernel) (by decide +kernel) (λS tr plan hS hc hA hle hl hpl hmin=>?ga) (λhno=>?gb)
 case gb=>exact (hno (mk1 0) tr1K ⟨λi x hx=>by
   have hi:i<1:=(gS.1 hx).1;have:i=0:=by omega
   subst this;cases hx;rfl,λi hi h4=>by
   have hi':1≤i:=hi;rcases four h4 with rfl | rfl | rfl | rfl
   ·omega
   ·rfl
   ·rfl
   ·rfl⟩ ch1 (λi x hx=>by
   have hi:i<1:=(gS.1 hx).1;have:i=0:=by omega
   subst this;cases hx;decide) (by decide)).elim
 have hS':=stJ1 hS;subst hS';have htot1:((plan.map List.length).sum:Nat)=2∧(∀w,w∈plan->w.length≤1000)∧plan.length=1:=by
  have hlen:plan.length=1:=hl;have h0:=hpl 0 (by decide);have hlow:=low1 tr 0 (mk1 0) 0 (by decide) rfl hc hA;have hup:=hmin tr1K ch1 (λi x hx=>by
   have hi:i<1:=(gS.1 hx).1;have:i=0:=by omega
   subst this;cases hx;decide) (by decide)
  have e1:Y9 trip1.length tr1K=2:=by decide
  rw [e1] at hup;have e2:((h1K 0:Nat):Int)=2:=by decide
  rw [e2] at hlow;have hlenJ:=hc.len1 Qab rfl (by show (0:Int)≤0;decide) (λ_ _=>Q6U (r:=0) (by decide));have hup':Y9 1 tr≤2:=hup
  match plan,hlen,h0 with
  | [w],_,h0=>
   simp only [List.getElem?_cons_zero,gJ] at h0;subst h0;refine⟨by simp;omega,λw hw=>by simp at hw;subst hw;omega,rfl⟩
 show Xv sK trip2 0 [] 20 _;refine Q7c (by decide) (by decide) (by decide +kernel) (by decide +kernel) (λS2 tr2 plan2 hS2 hc2 hA2 hle2 hl2 hpl2 hmin2=>?gc) (λhno=>?gd)
 case gd=>exact (hno (mkJ 0 2) tr2K ⟨λi x hx=>by
   have hi:i<2:=(gS.1 hx).1;have:i=0∨i=1:=by omega
   rcases this with rfl | rfl <;> cases hx <;> rfl,λi hi h4=>by
   have hi':2≤i:=hi;rcases four h4 with rfl | rfl | rfl | rfl
   ·omega
   ·omega
   ·rfl
   ·rfl⟩ ch2 (λi x hx=>by
   have hi:i<2:=(gS.1 hx).1;have:i=0∨i=1:=by omega
   rcases this with rfl | rfl <;> cases hx <;> decide) (by decide)).elim
 have hS2':=stJ2 hS2;subst hS2';have htot2:((plan2.map List.length).sum:Nat)=5∧(∀w,w∈plan2->w.length≤1000)∧plan2.length=2:=by
  have hlen:plan2.length=2:=hl2;have h0:=hpl2 0 (by decide);have h1:=hpl2 1 (by decide);have hlow:=low2 tr2 0 (mkJ 0 2) 0 2 (by decide) (by decide) rfl rfl hc2 hA2;have hup:=hmin2 tr2K ch2 (λi x hx=>by
   have hi:i<2:=(gS.1 hx).1;have:i=0∨i=1:=by omega
   rcases this with rfl | rfl <;> cases hx <;> decide) (by decide)
  have e1:Y9 trip2.length tr2K=5:=by decide
  rw [e1] at hup;have e2:((h2K 0 2:Nat):Int)=5:=by decide
  rw [e2] at hlow;have hup':Y9 2 tr2≤5:=hup;have hlenJ:=hc2.len2 Qab rfl (Q6U (r:=0) (by decide)) (Q6U (r:=2) (by decide))
  match plan2,hlen,h0,h1 with
  | [w,v],_,h0,h1=>
   simp only [List.getElem?_cons_zero,List.getElem?_cons_succ,gJ] at h0 h1;subst h0;subst h1;refine⟨by simp;omega,λw hw=>by simp at hw;rcases hw with rfl | rfl <;> omega,rfl⟩
 show Xv sK trip2 0 [] 2 _;refine Q7c (by decide) (by decide) (by decide +kernel) (by decide +kernel) (λS3 tr3 plan3 hS3 hc3 hA3 hle3 _ _ _=>?_) (λ_=>?_)
 ·exfalso;have:=stJ2 hS3;subst this;have hlow:=low2 tr3 0 (mkJ 0 2) 0 2 (by decide) (by decide) rfl rfl hc3 hA3;have e2:((h2K 0 2:Nat):Int)=5:=by decide
  rw [e2] at hlow;have:=Q7O 2 tr3;omega
 show Jn _ _;refine Jn.mk (λb=>b=true) (Q2F (s:=sK) (c:=0) (acts:=[1]) (k:=0) QbB (by decide) (by decide) (λx hx=>by simp at hx;subst hx;unfold I64;decide) (by decide) ?_) (λb e=>?_)
 ·have e1:Zm sK 0 [1] 0=[0,1]:=by decide +kernel
  rw [e1];refine Q8D (by decide) (Ite.t rfl (Q2F (s:=sK) (c:=0) (acts:=[1]) (k:=1) QbB (by decide) (by decide) (λx hx=>by simp at hx;subst hx;unfold I64;decide) (by decide) ?_));have e2:Zm sK 0 [1] 1=[1]:=by decide +kernel
  rw [e2];exact Q8D (by decide) rfl
 ·subst e;refine Jn.mk (λb=>b=true) (Ite.t rfl (Q7y (by omega) htot1.2.1 ?_)) (λb e=>by subst e;exact hp);rw [htot1.1];refine Ite.t (by decide) (Ite.t rfl (Q7y (by omega) htot2.2.1 ?_));rw [htot2.1];exact Ite.t (by decide) (Ite.t rfl rfl)
section
variable {s:Q5} {trips:List Qu} {tick most:Int} {avoid:List Int} {plan:List (List Int)}
theorem QaQ{post:Bool->Prop}(hF:post false)(hT:plan.length≤5->(∀w,w∈plan->w.length≤30)->post true):Gz plan post:=by
 unfold Gz;refine Jn.mk (λ_=>∀(j:Nat) w,j<min plan.length 6->plan[j]?=some w->w.length≤30) (Loop.inv (min plan.length 6) (λi (t:Int)=>t=(i:Int)∧∀(j:Nat) w,j<i->plan[j]?=some w->w.length≤30) ⟨rfl,λj w hj=>by omega⟩ (λi t hi hI=>?_) (λt hI=>?_)) (λ_ h=>?_)
 ·obtain⟨rfl,hI⟩:=hI;refine Jn.mk (λb=>b=true) (Ite.t (decide_eq_true (by omega)) (decide_eq_true (by omega))) (λb e=>Ite.t e ?_);have hx:plan[i]?=some (plan[i]'(by omega)):=gE _;generalize plan[i]'_=w at hx;refine⟨w,Qo rfl hx,Ite.mk (λ_=>hF) (λe=>⟨by rw [kw1 (by omega)],λj v hj hv=>?_⟩)⟩;have e:=of_decide_eq_false e;by_cases c:j=i
  ·subst c;rw [hx] at hv;cases hv;omega
  ·exact hI j v (by omega) hv
 ·obtain⟨rfl,hI⟩:=hI;refine Jn.mk (λb=>b=false) (Ite.mk (λe=>?_) (λe=>rfl)) (λb e=>Ite.f e hI);have e:=of_decide_eq_true e;exact decide_eq_false (by omega)
 ·by_cases c:plan.length≤5
  ·rw [decide_eq_true (by omega)];refine hT c (λw hw=>?_);obtain⟨j,hj⟩:=gO hw;have:=(gS.1 hj).1;exact h j w (by omega) hj
  ·rw [decide_eq_false (by omega)];exact hF
theorem Q87{x:Qu}{w:List Int}(h:Q68 s x.Aa x.To tick [] avoid w=0)(hl:(w.length:Int)≤most):Q60 s avoid tick most x w:=by
 unfold Q68 at h;split at h
 ·cases h
 rename_i h1;split at h
 ·rename_i h2;exact absurd h h2
 rename_i h2;split at h
 ·cases h
 split at h
 ·cases h
 rename_i h3;simp only [not_or,Bool.not_eq_true,Bool.not_eq_false] at h1;refine⟨hl,(runF s [] avoid tick (x.Aa,0) w).1.2,?_,λa ha=>?_⟩
 ·have e1:(runF s [] avoid tick (x.Aa,0) w).2=0:=by omega
  have e2:(runF s [] avoid tick (x.Aa,0) w).1.1=x.To:=by omega
  exact Prod.ext (Prod.ext e2 rfl) e1
 ·have:=List.any_eq_false.1 h1.2 a ha;simp [Q08] at this;exact this
theorem Q6e(k:QF s)(h:Q0r s)(h16:s.A9.Ac.length≤16)(hav:avoid.length≤1000)(h60:most≤60)(hl3:trips.length≤1000000)(h5:plan.length≤5)(h30:∀w,w∈plan->w.length≤30)(ki:OkL (OkL I64) plan){post:Int×Int->Prop}(hne:∀n e,e≠0->post (n,e))
  (hok:badK s trips tick most=false->plan.length=trips.length->(∀(i:Nat) x w,trips[i]?=some x->plan[i]?=some w->Q60 s avoid tick most x w)->Q0d s trips plan->post (-1,0)):Za s trips tick avoid most plan post:=by
 unfold Za;have hav':avoid.length≤maxLen:=by simp [maxLen];omega
 refine Jn.mk (λb=>b=false->badK s trips tick most=false∧plan.length=trips.length) (Q47 hl3 (Ite.mk (λe1=>Ite.mk (λ_ h=>by cases h) (λe2=>Ite.mk (λ_ h=>by cases h) (λe3=>Ite.mk (λ_ h=>by cases h) (λe4 h=>?_)))) (λ_ h=>by cases h))) (λb hb=>Ite.mk (λ_=>hne _ _ (by decide)) (λe=>?_))
 ·refine⟨by unfold badK;rw [e1,e2,e3,e4];rfl,?_⟩;simp at h;omega
 obtain⟨hbk,hpl⟩:=hb e;refine Jn.mk (λ_=>∀(i:Nat) x w,trips[i]?=some x->plan[i]?=some w->Q60 s avoid tick most x w) (Loop.inv plan.length (λi (t:Int)=>t=(i:Int)∧∀(j:Nat) x w,j<i->trips[j]?=some x->plan[j]?=some w->Q60 s avoid tick most x w) ⟨rfl,λj x w hj=>by omega⟩ (λi t hi hI=>?_) (λt hI=>?_)) (λ_ hW=>?_)
 ·obtain⟨rfl,hI⟩:=hI;have hw:plan[i]?=some (plan[i]'hi):=gE hi;have hx:trips[i]?=some (trips[i]'(by omega)):=gE _;generalize plan[i]'hi=w at hw;generalize trips[i]'_=x at hx;have hwl:=h30 w (gM hw);refine Ite.lt (by omega) ⟨w,Qo rfl hw,x,Qo rfl hx,Q5e k h.rs hav' (by simp) (by omega) (Ite.mk (λe1=>hne _ _ (by simpa using e1)) (λe1=>Ite.mk (λ_=>hne _ _ (by decide)) (λe2=>⟨by rw [kw1 (by omega)],λj y v hj hy hv=>?_⟩)))⟩;by_cases c:j=i
  ·subst c;rw [hx] at hy;cases hy;rw [hw] at hv;cases hv;have e2:=of_decide_eq_false e2;exact Q87 (by simpa using e1) (by omega)
  ·exact hI j y v (by omega) hy hv
 ·obtain⟨rfl,hI⟩:=hI;exact Ite.nlt (by omega) (λi x w hx hw=>hI i x w (gS.1 hw).1 hx hw)
 ·exact Q44 (plan:=plan) h.fl (by omega) (by omega) (by omega) (λw hw=>⟨by have:=h30 w hw;omega,λa ha=>(ki.2 w hw).2 a ha⟩) (λa b kk c _ _ _=>Ite.t rfl (hne _ _ (by decide))) (λhC=>Ite.f rfl (hok hbk hpl hW hC))
end
theorem Q79(hsmall:∀{post:Bool->Prop},post true->Xf post)(s:Q5)(k0:QF s)(trips:List Qu)(tick:Int)(avoid:List Int)(most:Int)(plan:List (List Int))(ki:OkL (OkL I64) plan):X9 s trips tick avoid most plan (λy=>y=true):=by
 unfold X9;refine hsmall ?_;refine Jn.mk (λb=>b=true∨(b=false∧Q0r s∧Q2T s∧FewS s 16 20∧avoid.length≤20∧trips.length≤3∧most≤15∧tick≤10000∧plan.length≤5∧∀w,w∈plan->w.length≤30)) (Q6i k0 (Ite.f rfl (.inl rfl)) (λhr hn hfew hav hs=>Ite.t rfl (Ite.mk (λ_=>.inl rfl) (λe=>Ite.mk (λ_=>.inl rfl) (λe2=>Ite.mk (λ_=>.inl rfl) (λe3=>?_)))))) (λb hb=>?_)
 ·have e:=of_decide_eq_false e;have e2:=of_decide_eq_false e2;have e3:=of_decide_eq_false e3;exact QaQ (.inl rfl) (λh5 h30=>.inr ⟨rfl,hr,hn,hfew,hav,by omega,by omega,by omega,h5,h30⟩)
 rcases hb with e | ⟨e,hr,hn,hfew,hav,h3,h15,h10,h5,h30⟩
 ·exact Ite.t e rfl
 refine Ite.f e ?_;have h16:s.A9.Ac.length≤16:=by have:=hfew.kind;omega
 have hap:s.A3.length≤1000000:=by have:=hfew.aparts;omega
 have hP:Xv s trips tick avoid most (λx29=>Jn (λ(J31:Bool->Prop)=>Ite true (Ite (x29.2 != 0) (J31 true) (KG s trips tick x29.1 (λx34=>J31 x34))) (J31 false)) (λ(x30:Bool)=>x30=true)):=by
  have bad:∀n:Int,n≠0->Jn (λ(J31:Bool->Prop)=>Ite true (Ite (n != 0) (J31 true) (KG s trips tick [] (λx34=>J31 x34))) (J31 false)) (λ(x30:Bool)=>x30=true):=λn hn=>Jn.mk (λb=>b=true) (Ite.t rfl (Ite.t (by simpa using hn) rfl)) (λb e=>e)
  refine Q86 k0 hr h16 h3 (by omega) (λ_=>bad 1 (by decide)) (λ_ _=>bad 27 (by decide)) (λ_ _ _=>bad 27 (by decide)) (λ_ _=>bad 14 (by decide)) (λhb hm plan hN hC=>?_);obtain⟨hR,ht,hm0⟩:=Q5t hb;have hpl:plan.length=trips.length:=hN.1;refine Jn.mk (λb=>b=true) (Ite.t rfl (Ite.f rfl (Q7J (avoid:=avoid) (most:=most) k0 hr hn hap hR ⟨ht.1,h10⟩ hpl (λw hw=>?_) (λi x w hx hw=>hN.2 i x w hx hw) hC rfl))) (λb e=>e);obtain⟨i,hi⟩:=gO hw;have hil:=(gS.1 hi).1;have:=(hN.2 i _ w (gE (show i<trips.length by omega)) hi).len;have:(w.length:Int)≤most:=this;omega
 refine Q6e (most:=30) k0 hr h16 (by omega) (by omega) (by omega) h5 h30 ki (λn e he=>?_) (λhb hpl hW hC=>?_)
 ·exact Jn.mk (λb=>b=false) (Ite.f (by simpa using he) rfl) (λb e=>Ite.f e hP)
 ·obtain⟨hR,ht,_⟩:=Q5t hb;exact Jn.mk (λb=>b=false) (Ite.t rfl (Q7J (avoid:=avoid) (most:=30) k0 hr hn hap hR ⟨ht.1,h10⟩ hpl (λw hw=>by have:=h30 w hw;omega) hW hC rfl)) (λb e=>Ite.f e hP)
theorem ZH(s_1:Q5)(k0:QF s_1)(trips:List Qu)(k1:(OkL Q3M) trips)(tick:Int)(k2:I64 tick)(avoid:List Int)(k3:(OkL I64) avoid)(most:Int)(k4:I64 most)(plan:List (List Int))(k5:(OkL (OkL I64)) plan):X9 s_1 trips tick avoid most plan (λy=>y=true):=
 Q79 (λh=>Q9l h) s_1 k0 trips tick avoid most plan k5
end Go.Taq
namespace Go.Taq
open Go Go.ChangeShapes Go.WideShapes Go.ChangeAt Go.RowKit
section
variable {P:Program} {H:Type} {enc:TypeId×Value->H} {W:World} {held:Bool} {t:TypeId} {v:Value} {d:DataW H} {ps:List MemPlace}
theorem Kw.one{X:Type}{A:X->AVal}{Ok:X->Prop}(h:Kw P t (λx=>[A x]) Ok)(hv:v.cells=#[v])(ht:DataW.Trod enc P W 0 (λ_=>true) held t v d ps):∃x,Ok x∧Dn W (old W) [] (A x) v:=by
 obtain⟨fuel,ht⟩:=ht;rw [hv] at ht;obtain⟨x,hk,_,hr⟩:=h enc W held fuel [v] d ps ht;exact⟨x,hk,.ro (hr 0 (A x) v rfl rfl)⟩
theorem Kw.whole{X:Type}{cs:X->List AVal}{Ok:X->Prop}{vs:Array Value}(h:Kw P t cs Ok)(ht:DataW.Trod enc P W 0 (λ_=>true) held t (.agg vs) d ps):∃x,Ok x∧Dn W (old W) [] (.agg (cs x)) (.agg vs):=by
 obtain⟨fuel,ht⟩:=ht;have e:(Value.agg vs).cells=vs:=rfl;rw [e] at ht;obtain⟨x,hk,hl,hr⟩:=h enc W held fuel vs.toList d ps ht;refine⟨x,hk,.agg (cs x) vs (by simpa using hl) λj A hA=>.ro (hr j A _ hA ?_)⟩;have hj:j<vs.size:=by
  have:=(gS.1 hA).1;rw [hl] at this;simpa using this
 simp [gA,hj]
theorem Q2X{k:IntKind}(ht:P.underlying t=some (.int k)){r:Reach}{base:Nat}(h:Value.okWide P W r base t v):v.cells=#[v]:=by obtain⟨n,rfl⟩:=okWide_int ht h;rfl
theorem Zy{e:TypeId}(ht:P.underlying t=some (.slice e)){r:Reach}{base:Nat}(h:Value.okWide P W r base t v):v.cells=#[v]:=by obtain⟨a,l,c,rfl⟩:=okWide_slice ht h;rfl
theorem dnl0{w:World}{ok:Nat->Prop}{β:List Value}:DnL w ok β [] #[]:=⟨rfl,by simp⟩
theorem dnl1{w:World}{ok:Nat->Prop}{β:List Value}{A:AVal}{x:Value}{As:List AVal}{xs:List Value}(h:Dn w ok β A x)(hs:DnL w ok β As ⟨xs⟩):DnL w ok β (A :: As) ⟨x :: xs⟩:=by
 refine⟨by simpa using hs.1,λj B hB=>?_⟩;cases j with
 | zero=>simp at hB;subst hB;exact h
 | succ j=>simpa [gA] using hs.2 j B (by simpa using hB)
theorem Q17{spare:Nat->Bool}(h:DataW.Trod enc P W 0 spare held t v d ps):∀x∈ps,x.block<W.heap.size:=by
 obtain⟨m,hm⟩:=h;exact DataW.trod_lt m _ _ _ hm
theorem Kp.below{w w':World}(h:Kp w (λ_=>False) w'):Below w.heap.size w w':=⟨h.os,h.tape,h.output,h.size,λk hk=>h.block k hk (λe=>e)⟩
theorem Tr.law{f:FuncId}{As:List AVal}{vs:Array Value}(h:Tr P f As [] 0 (λA H' k=>∃y,(y=true)∧A=(.v (.bool y))∧H'=[]∧k=0))(hd:DnL W (old W) [] As vs):
  Calls P f vs W λe W'=>e=.returned (.bool true)∧Below W.heap.size W W':=
 (h W (old W) (λ_=>False) [] vs rfl (λb hb=>⟨hb,λe=>e⟩) (λb hb=>hb.elim) trivial hd).mono λe W' ⟨v,A,H',β,F,ok',e1,⟨y,hy,hA,_,_⟩,_,_,hk,_,_,_,_,hv⟩=>by
  subst hy;subst hA;have:=hv.v_inv;subst this;exact⟨e1,hk.below⟩
end
end Go.Taq
