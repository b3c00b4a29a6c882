/- The mathematics, several parts in one text. -/
import Derived.Test.YtlaehjhkcanffaaGreatDB
import Derived.Test.YtlaehjhkcanffaaGreatGE
import Derived.Test.YtlaehjhkcanffaaGreatOI
import Derived.Test.YtlaehjhkcanffaaGreatBK
/- The mathematics, part DC: the reference's search, and its greatest size (chapter 34). -/
set_option linter.unusedVariables false
set_option linter.unusedSimpArgs false
namespace Go.Taq
open Go
section
variable {l:List (List Int)}
theorem Zv (hl:FewL l) {post:Int→Prop} (hp:∀n:Nat,1≤n→n≤64→(∀r,r∈l→∀c,c∈r→c<n)→post n):K5 l post:=by
 have hln:=hl.len
 unfold K5
 refine Jn.mk (fun m:Int=>1≤m∧m≤64∧∀r,r∈l→∀c,c∈r→c<m) (GT (xs:=l) (by unfold maxLen;omega) (fun t:Int×Int=>t.2) (fun i t=>1≤t.1∧t.1≤64∧∀r,r∈l.take i→∀c,c∈r→c<t.1) rfl ⟨by decide,by decide,fun r hr=>by simp at hr⟩ (fun i x t hx ht hI=>?_) (fun t hI=>by rw [List.take_length] at hI;exact hI)) (fun m hm=>?_)
 ·obtain⟨h1,h2,h3⟩:=hI
  have hrl:=hl.row x (List.mem_of_getElem? hx)
  refine Jn.mk' (Jn.mk (fun m:Int=>1≤m∧m≤64∧(∀r,r∈l.take i→∀c,c∈r→c<m)∧∀c,c∈x→c<m) (Loop.mk (fun u:Int×Int=>∃j:Nat,u.2=(j:Int)∧j≤x.length∧1≤u.1∧u.1≤64∧(∀r,r∈l.take i→∀c,c∈r→c<u.1)∧∀c,c∈x.take j→c<u.1) (fun u=>x.length-u.2.toNat) ⟨0,rfl,by omega,h1,h2,h3,fun c hc=>by simp at hc⟩ ?_) (fun m hm=>?_))
  ·rintro⟨m,jj⟩ ⟨j,e,hj,g1,g2,g3,g4⟩
   simp only at e g1 g2 g3 g4
   subst e
   refine⟨x,by rw [ht];exact Qe rfl hx,Ite.mk (fun h=>?_) (fun h=>?_)⟩
   ·have hlt:j<x.length:=by have h':(j:Int)<x.length:=of_decide_eq_true h;omega
    have hc:=List.getElem?_eq_getElem hlt
    generalize x[j]=c at hc
    have hb:=hl.num x (List.mem_of_getElem? hx) c (List.mem_of_getElem? hc)
    have ew:w64 ((j:Int)+1)=((j+1:Nat):Int):=by rw [Q6 (by omega) (by omega)];simp
    have ec:w64 (c+1)=c+1:=Q6 (by omega) (by omega)
    refine⟨c,Qe rfl hc,⟨j+1,ew,by omega,?_,?_,fun r hr d hd=>?_,fun d hd=>?_⟩,by show x.length-(w64 ((j:Int)+1)).toNat<x.length-((j:Int)).toNat;rw [ew];omega⟩
    ·show 1≤imax m (w64 (c+1));rw [ec];unfold imax;split <;> omega
    ·show imax m (w64 (c+1))≤64;rw [ec];unfold imax;split <;> omega
    ·have:=g3 r hr d hd
     show d<imax m (w64 (c+1));unfold imax;split <;> omega
    ·show d<imax m (w64 (c+1))
     rw [ec]
     rw [QE hc] at hd
     rcases List.mem_append.1 hd with h | h
     ·have:=g4 d h;unfold imax;split <;> omega
     ·simp at h;subst h;unfold imax;split <;> omega
   ·have hje:j=x.length:=by have h':¬(j:Int)<x.length:=of_decide_eq_false h;omega
    rw [hje,List.take_length] at g4
    exact⟨g1,g2,g3,g4⟩
  ·obtain⟨g1,g2,g3,g4⟩:=hm
   refine⟨by rw [ht],g1,g2,fun r hr c hc=>?_⟩
   rw [QE hx] at hr
   rcases List.mem_append.1 hr with h | h
   ·exact g3 r h c hc
   ·simp at h;subst h;exact g4 c hc
 ·obtain⟨g1,g2,g3⟩:=hm
  have e:m=((m.toNat:Nat):Int):=by omega
  rw [e]
  exact hp m.toNat (by omega) (by omega) (fun r hr c hc=>by have:=g3 r hr c hc;omega)
def oA (ow:List Int) (c:Int):Option Int:=if 0≤c∧0<ow.getD c.toNat 0 then some (ow.getD c.toNat 0-1) else none
def sA (sn:List Bool) (c:Int):Bool:=decide (0≤c)&&sn.getD c.toNat false
theorem Q2E {ow:List Int} {c d r:Int} (h0:0≤c) (h1:c<ow.length) (hr:0≤r):oA (ow.set c.toNat (r+1)) d=if c=d then some r else oA ow d:=by
 have e:(ow.set c.toNat (r+1)).getD d.toNat 0=if c.toNat=d.toNat then r+1 else ow.getD d.toNat 0:=by
  rw [List.getD_eq_getElem?_getD,List.getD_eq_getElem?_getD,List.getElem?_set]
  by_cases h:c.toNat=d.toNat
  ·rw [if_pos h,if_pos h,if_pos (by omega)];rfl
  ·rw [if_neg h,if_neg h]
 unfold oA
 rw [e]
 by_cases hd:c=d
 ·subst hd
  rw [if_pos rfl,if_pos rfl,if_pos ⟨h0,by omega⟩];congr 1;omega
 ·rw [if_neg hd]
  by_cases hd0:0≤d
  ·rw [if_neg (show ¬c.toNat=d.toNat by omega)]
  ·rw [if_neg (fun h=>hd0 h.1),if_neg (fun h=>hd0 h.1)]
theorem Q2M {sn:List Bool} {c d:Int} (h0:0≤c) (h1:c<sn.length):sA (sn.set c.toNat true) d=true↔sA sn d=true∨d=c:=by
 unfold sA
 rw [List.getD_eq_getElem?_getD,List.getD_eq_getElem?_getD,List.getElem?_set]
 by_cases hd:d=c
 ·subst hd
  rw [if_pos rfl,if_pos (by omega)];simp;omega
 ·by_cases hd0:0≤d
  ·rw [if_neg (by omega)];simp [hd]
  ·simp [hd0,hd]
theorem Q2g (hl:FewL l) {N:Nat} (hN:N≤64) (hNc:∀r,r∈l→∀c,c∈r→c<N) {X:(List (List Int)×Int×Int×List Int×List Bool)→((Bool×List Int×List Bool)→Prop)→Prop}
  (hX:∀s p,QG X s.1 s.2.1 s.2.2.1 s.2.2.2.1 s.2.2.2.2 p→X s p) (k:Int):
  ∀(n:Nat) (x:Int) (ow:List Int) (sn:List Bool) (post:Bool×List Int×List Bool→Prop),mu (sA sn)<n→0≤x→x<l.length→ow.length=N→sn.length=N→(∀y,y∈ow→0≤y∧y≤l.length) →
   (∀ow' sn' p,Aug l k (oA ow) x p→(∀c,oA ow' c=apO p (oA ow) c)→ow'.length=N→(∀y,y∈ow'→0≤y∧y≤l.length)→(∀q,q∈p→sA sn q.1=false)→post (true,ow',sn')) →
   (∀sn',Stk l k (oA ow) x (fun c=>sA sn c=true) (fun c=>sA sn' c=true)→sn'.length=N→post (false,ow,sn'))→X (l,x,k,ow,sn) post
 | 0,_,_,_,_,h,_,_,_,_,_,_,_=>by omega
 | n+1,x,ow,sn,post,hmu,h0,h1,hlo,hls,hent,hS,hF=>by
  refine hX _ _ ?_
  unfold QG
  have hrl:=hl.rlen x
  have hln:=hl.len
  have hrow:=Q0v h0 h1
  have hrm:=List.mem_of_getElem? hrow.1
  refine Jn.mk (fun t=>∃sn',t=(ow,sn')∧sn'.length=N∧Stk l k (oA ow) x (fun c=>sA sn c=true) (fun c=>sA sn' c=true)) (Loop.mk
   (fun t:List Int×List Bool×Int=>∃(j:Nat) (sn':List Bool),t=(ow,sn',(j:Int))∧sn'.length=N∧j≤(rowL l x).length∧(∀c,sA sn c=true→sA sn' c=true)∧(∀c,c∈(rowL l x).take j→sA sn' c=true)∧∀c,sA sn' c=true→sA sn c=true∨∃r,oA ow c=some r∧(r<k∨∀c2,c2∈rowL l r→sA sn' c2=true))
   (fun t=>(rowL l x).length-t.2.2.toNat) ⟨0,sn,rfl,hls,by omega,fun _ h=>h,fun c hc=>by simp at hc,fun c hc=>.inl hc⟩ ?_) (fun t ht=>by obtain⟨sn',e,g,hs⟩:=ht;subst e;exact hF sn' hs g)
  rintro t ⟨j,sj,e,hsj,hj,s1,s2,s3⟩
  subst e
  refine⟨rowL l x,hrow.2,Ite.mk (fun hlt=>?_) (fun hnlt=>?_)⟩
  case refine_2=>
   have:¬((j:Int)<(rowL l x).length):=of_decide_eq_false hnlt
   have ej:j=(rowL l x).length:=by omega
   rw [ej,List.take_length] at s2
   exact⟨sj,rfl,hsj,s1,s2,s3⟩
  have hlt':j<(rowL l x).length:=by have h:(j:Int)<(rowL l x).length:=of_decide_eq_true hlt;omega
  have hc:=List.getElem?_eq_getElem hlt'
  generalize (rowL l x)[j]=c at hc
  have hcm:=List.mem_of_getElem? hc
  have hcb:=hl.bd hcm
  have hcN:=hNc _ hrm c hcm
  have ew:w64 ((j:Int)+1)=((j+1:Nat):Int):=by rw [Q6 (by omega) (by omega)];simp
  have next:∀s':List Bool,s'.length=N→(∀c,sA sn c=true→sA s' c=true)→(∀d,d∈(rowL l x).take j→sA s' d=true)→sA s' c=true→(∀c,sA s' c=true→sA sn c=true∨∃r,oA ow c=some r∧(r<k∨∀c2,c2∈rowL l r→sA s' c2=true)) →
    ((∃(j':Nat) (sn':List Bool),(ow,s',w64 ((j:Int)+1))=(ow,sn',(j':Int))∧sn'.length=N∧j'≤(rowL l x).length∧(∀c,sA sn c=true→sA sn' c=true)∧(∀c,c∈(rowL l x).take j'→sA sn' c=true)∧∀c,sA sn' c=true→sA sn c=true∨∃r,oA ow c=some r∧(r<k∨∀c2,c2∈rowL l r→sA sn' c2=true))∧(rowL l x).length-(w64 ((j:Int)+1)).toNat<(rowL l x).length-((j:Int)).toNat):=fun s' g0 g1 g2 g3 g4=>by
   refine⟨⟨j+1,s',by rw [ew],g0,by omega,g1,fun d hd=>?_,g4⟩,by rw [ew];omega⟩
   rw [QE hc] at hd
   rcases List.mem_append.1 hd with h | h
   ·exact g2 d h
   ·simp at h;subst h;exact g3
  have hsc:=List.getElem?_eq_getElem (show c.toNat<sj.length by omega)
  have hsv:sA sj c=sj[c.toNat]'(by omega):=by unfold sA;rw [List.getD_eq_getElem?_getD,hsc];simp;omega
  have hoc:=List.getElem?_eq_getElem (show c.toNat<ow.length by omega)
  generalize hyv:ow[c.toNat]'(by omega)=y at hoc
  have hyb:=hent y (List.mem_of_getElem? hoc)
  have hyd:ow.getD c.toNat 0=y:=by rw [List.getD_eq_getElem?_getD,hoc];rfl
  have ey:w64 (y-1)=y-1:=Q6 (by omega) (by omega)
  refine Jn.mk' ⟨c,Qe rfl hc,sj[c.toNat]'(by omega),Qe (n:=c.toNat) (by omega) hsc,Ite.mk (fun hs=>next sj hsj s1 s2 (by rw [hsv];exact hs) s3) (fun hs=>⟨y,Qe (n:=c.toNat) (by omega) hoc,?_⟩)⟩
  have hs':sA sj c=false:=by rw [hsv];exact hs
  have hul:(sj.set (Int.toNat c) true).length=N:=by rw [List.length_set];exact hsj
  have u1:∀d,sA sj d=true→sA (sj.set (Int.toNat c) true) d=true:=fun d hd=>(Q2M hcb.1 (by omega)).2 (.inl hd)
  have u2:sA (sj.set (Int.toNat c) true) c=true:=(Q2M hcb.1 (by omega)).2 (.inr rfl)
  have hnew:∀(s':List Bool),(∀d,sA (sj.set (Int.toNat c) true) d=true→sA s' d=true)→(∀d,sA s' d=true→sA (sj.set (Int.toNat c) true) d=true∨∃r,oA ow d=some r∧(r<k∨∀c2,c2∈rowL l r→sA s' c2=true))→(∃r,oA ow c=some r∧(r<k∨∀c2,c2∈rowL l r→sA s' c2=true)) →
    ∀d,sA s' d=true→sA sn d=true∨∃r,oA ow d=some r∧(r<k∨∀c2,c2∈rowL l r→sA s' c2=true):=fun s' g1 g2 g3 d hd=>by
   rcases g2 d hd with h | h
   ·rcases (Q2M hcb.1 (by omega)).1 h with h | h
    ·rcases s3 d h with h | ⟨r,h4,h5⟩
     ·exact .inl h
     ·exact .inr ⟨r,h4,h5.imp id (fun h c2 hc2=>g1 _ (u1 _ (h c2 hc2)))⟩
    ·subst h;exact .inr g3
   ·exact .inr h
  have ex1:w64 (x+1)=x+1:=Q6 (by omega) (by omega)
  have hset:∀(o':List Int),(∀y,y∈o'→0≤y∧y≤(l.length:Int))→∀y,y∈o'.set (Int.toNat c) (w64 (x+1))→0≤y∧y≤(l.length:Int):=fun o' ho y hy=>by
   rw [ex1] at hy
   rcases List.mem_or_eq_of_mem_set hy with h | h
   ·exact ho y h
   ·omega
  refine Jn.mk' (Ite.mk (fun ho=>?_) (fun ho=>?_))
  ·have hy0:y=0:=by have h:w64 (y-1)<0:=of_decide_eq_true ho;rw [ey] at h;omega
   have hn:oA ow c=none:=by unfold oA;rw [hyd,if_neg (by omega)]
   refine Ite.t rfl ⟨y,Qe (n:=c.toNat) (by omega) hoc,hS (ow.set (Int.toNat c) (w64 (x+1))) (sj.set (Int.toNat c) true) [(c,x)] (.free hcm hn) (fun d=>by rw [ex1,Q2E hcb.1 (by omega) h0];rfl) (by rw [List.length_set];exact hlo) (hset ow hent) (fun q hq=>?_)⟩
   simp at hq;subst hq
   cases hb:sA sn c with
   | false=>rfl
   | true=>rw [s1 _ hb] at hs';cases hs'
  ·have hy1:0<y:=by have h:¬w64 (y-1)<0:=of_decide_eq_false ho;rw [ey] at h;omega
   have hr:oA ow c=some (y-1):=by unfold oA;rw [hyd,if_pos ⟨hcb.1,hy1⟩]
   rw [ey]
   refine Ite.mk (fun hk=>?_) (fun hk=>?_)
   ·have hk':k≤y-1:=of_decide_eq_true hk
    have hm1:mu (sA (sj.set (Int.toNat c) true))<mu (sA sj):=Q4u u1 hcb hs' u2
    have hm2:=Q4A (S:=sA sn) (S':=sA sj) s1
    refine Q2g hl hN hNc hX k n (y-1) ow (sj.set (Int.toNat c) true) _ (by omega) (by omega) (by omega) hlo hul hent (fun ow' sn' p g1 g2 g3 g5 g4=>?_) (fun sn' g gl=>?_)
    ·have hpc:∀q,q∈p→q.1≠c:=fun q hq e=>by
      have:=g4 q hq
      rw [e,u2] at this;cases this
     have hoc':=List.getElem?_eq_getElem (show c.toNat<ow'.length by omega)
     refine Ite.t rfl ⟨_,Qe (n:=c.toNat) (by omega) hoc',hS (ow'.set (Int.toNat c) (w64 (x+1))) sn' ((c,x) :: p) (.step hcm hr hk' g1 hpc) (fun d=>?_) (by rw [List.length_set];exact g3) (hset ow' g5) (fun q hq=>?_)⟩
     ·rw [ex1,Q2E hcb.1 (by omega) h0,g2];rfl
     ·rcases List.mem_cons.1 hq with e | hq
      ·subst e
       cases hb:sA sn c with
       | false=>rfl
       | true=>rw [s1 _ hb] at hs';cases hs'
      ·cases hb:sA sn q.1 with
       | false=>rfl
       | true=>have:=g4 q hq;rw [u1 _ (s1 _ hb)] at this;cases this
    ·obtain⟨f1,f2,f3⟩:=g
     exact Ite.f rfl (next sn' gl (fun d hd=>f1 _ (u1 _ (s1 _ hd))) (fun d hd=>f1 _ (u1 _ (s2 d hd))) (f1 _ u2) (hnew sn' f1 f3 ⟨_,hr,.inr f2⟩))
   ·have hk':y-1<k:=by
     have h:¬y-1≥k:=of_decide_eq_false hk
     omega
    exact Ite.f rfl (next _ hul (fun d hd=>u1 _ (s1 _ hd)) (fun d hd=>u1 _ (s2 d hd)) u2 (hnew _ (fun _ h=>h) (fun d hd=>.inl hd) ⟨_,hr,.inl hk'⟩))
theorem Q1m (hl:FewL l) {N:Nat} (hN:N≤64) (hNc:∀r,r∈l→∀c,c∈r→c<N) {k x:Int} {ow:List Int} {post:Bool×List Int×List Bool→Prop} (h0:0≤x) (h1:x<l.length) (hlo:ow.length=N) (hent:∀y,y∈ow→0≤y∧y≤l.length)
  (hS:∀ow' sn' p,Aug l k (oA ow) x p→(∀c,oA ow' c=apO p (oA ow) c)→ow'.length=N→(∀y,y∈ow'→0≤y∧y≤l.length)→post (true,ow',sn')) (hF:∀S' sn',Stk l k (oA ow) x (fun _=>False) S'→post (false,ow,sn')):QD l x k ow (List.replicate N false) post:=by
 unfold QD
 intro X hX
 refine Q2g hl hN hNc hX k _ x ow (List.replicate N false) _ (Nat.lt_succ_self _) h0 h1 hlo (by simp) hent (fun ow' sn' p g1 g2 g3 g4 _=>hS ow' sn' p g1 g2 g3 g4) (fun sn' g _=>hF (fun c=>sA sn' c=true) sn' ⟨fun _ h=>h.elim,g.2.1,fun c hc=>(g.2.2 c hc).imp (fun h=>?_) id⟩)
 have h':sA (List.replicate N false) c=true:=h
 unfold sA at h'
 rw [List.getD_eq_getElem?_getD,List.getElem?_replicate] at h'
 split at h' <;> simp at h'
theorem Zc (hl:FewL l) {g:List Int} (hg:Beg l g) {post:Int→Prop} (hp:∀v:Nat,Q1S l g v→v≤24→post v):QB l g post:=by
 have hln:=hl.len
 have hgl:=hg.len
 unfold QB
 refine Zv hl (fun N hN1 hN2 hNc=>⟨⟨by omega,by omega⟩,?_⟩)
 have hgN:∀(i:Nat) c,g[i]?=some c→0≤c→c<N:=fun i c hc h0=>by
  rcases hg.ok i c hc with e | ⟨_,e,_⟩
  ·omega
  ·have hlt:=(List.getElem?_eq_some_iff.1 hc).1
   exact hNc _ (List.mem_of_getElem? (Q0v (l:=l) (x:=(i:Int)) (by omega) (by omega)).1) c e
 refine Jn.mk (fun t=>GivO g g.length (oA t.1)∧t.1.length=N∧(∀y,y∈t.1→0≤y∧y≤(l.length:Int))∧∃rs:List Int,rs.Nodup∧(rs.length:Int)=t.2∧∀r,r∈rs↔∃c,oA t.1 c=some r) (XP (xs:=g) (by unfold maxLen;omega) (fun t:List Int×Int×Int=>t.2.2) (fun i t=>GivO g i (oA t.1)∧t.1.length=N∧(∀y,y∈t.1→0≤y∧y≤(l.length:Int))∧t.2.1≤i∧∃rs:List Int,rs.Nodup∧(rs.length:Int)=t.2.1∧∀r,r∈rs↔∃c,oA t.1 c=some r) rfl
  ?_ (fun i c t hc ht hI=>?_) (fun t hI=>⟨hI.1,hI.2.1,hI.2.2.1,hI.2.2.2.2⟩)) (fun ow how=>?_)
 ·have hz:∀c,oA (List.replicate (Int.toNat (N:Int)) (0:Int)) c=none:=fun c=>by
   unfold oA
   rw [List.getD_eq_getElem?_getD,List.getElem?_replicate]
   rw [if_neg]
   split <;> simp
  refine⟨⟨fun c r e=>(by rw [hz] at e;cases e),fun j c hj=>(by omega)⟩,by simp,fun y hy=>?_,by simp,[],.nil,rfl,fun r=>?_⟩
  ·have:=List.eq_of_mem_replicate hy;omega
  ·exact⟨fun h=>(by cases h),fun ⟨c,hc⟩=>(by rw [hz] at hc;cases hc)⟩
 ·obtain⟨⟨d,gv⟩,hlo,hent,hni,rs,r1,r2,r3⟩:=hI
  obtain⟨ow,n,ii⟩:=t
  simp only at ht d gv hlo hent hni r2 r3 ⊢
  subst ht
  have hi:=(List.getElem?_eq_some_iff.1 hc).1
  refine Jn.mk (fun t=>GivO g (i+1) (oA t.1)∧t.1.length=N∧(∀y,y∈t.1→0≤y∧y≤(l.length:Int))∧t.2≤((i+1:Nat):Int)∧∃rs:List Int,rs.Nodup∧(rs.length:Int)=t.2∧∀r,r∈rs↔∃c,oA t.1 c=some r) (Ite.mk (fun h=>?_) (fun h=>?_)) (fun ow how=>⟨rfl,how⟩)
  ·have h0:0≤c:=of_decide_eq_true h
   have hcN:=hgN i c hc h0
   have hnc:oA ow c=none:=by
    cases he:oA ow c with
    | none=>rfl
    | some r=>
     obtain⟨d1,d2,d3,_⟩:=d c r he
     rcases hg.ok i c hc with e | ⟨_,_,e⟩
     ·omega
     ·exact absurd d3 (e r.toNat (by omega))
   have ei:w64 ((i:Int)+1)=(i:Int)+1:=Q6 (by omega) (by omega)
   have en:w64 (n+1)=n+1:=Q6 (by omega) (by omega)
   have hoc:=List.getElem?_eq_getElem (show c.toNat<ow.length by omega)
   have hs:∀d,oA (ow.set (Int.toNat c) (w64 ((i:Int)+1))) d=if c=d then some (i:Int) else oA ow d:=fun d=>by rw [ei];exact Q2E h0 (by omega) (by omega)
   refine⟨_,Qe (n:=c.toNat) (by omega) hoc,⟨fun c' r e=>?_,fun j c' hj hc' h0'=>?_⟩,by rw [List.length_set];exact hlo,fun y hy=>?_,by show w64 (n+1)≤_;rw [en];omega,(i:Int) :: rs,List.nodup_cons.2 ⟨fun hm=>?_,r1⟩,?_,fun r=>?_⟩
   ·rw [hs] at e
    split at e
    ·rename_i e2
     cases e;subst e2
     exact⟨by omega,by omega,by rw [Int.toNat_natCast];exact hc,h0⟩
    ·obtain⟨d1,d2,d3⟩:=d c' r e
     exact⟨d1,by omega,d3⟩
   ·rw [hs]
    by_cases e:j=i
    ·subst e;rw [hc] at hc';cases hc';rw [if_pos rfl]
    ·have:=gv j c' (by omega) hc' h0'
     rw [if_neg (fun e2=>by subst e2;rw [hnc] at this;cases this),this]
   ·rcases List.mem_or_eq_of_mem_set hy with h | h
    ·exact hent y h
    ·rw [h,ei];omega
   ·obtain⟨c',hc'⟩:=(r3 _).1 hm
    have:=(d c' _ hc').2.1;omega
   ·show _=w64 (n+1)
    rw [en,List.length_cons];omega
   ·rw [List.mem_cons,r3]
    constructor
    ·rintro (e | ⟨c',hc'⟩)
     ·exact⟨c,by rw [hs,if_pos rfl,e]⟩
     ·exact⟨c',by rw [hs,if_neg (fun e2=>by subst e2;rw [hnc] at hc';cases hc')];exact hc'⟩
    ·rintro⟨c',hc'⟩
     rw [hs] at hc'
     split at hc'
     ·exact .inl (Option.some.inj hc').symm
     ·exact .inr ⟨c',hc'⟩
  ·have h0:¬0≤c:=of_decide_eq_false h
   refine⟨⟨fun c' r e=>?_,fun j c' hj hc' h0'=>?_⟩,hlo,hent,by show n≤_;omega,rs,r1,r2,r3⟩
   ·obtain⟨d1,d2,d3⟩:=d c' r e
    exact⟨d1,by omega,d3⟩
   ·by_cases e:j=i
    ·subst e;rw [hc] at hc';cases hc';exact absurd h0' h0
    ·exact gv j c' (by omega) hc' h0'
 ·obtain⟨ow,n0⟩:=ow
  obtain⟨hG,hlo,hent,rs,r1,r2,r3⟩:=how
  simp only at hG hlo hent r2 r3
  have hK:KI l g g.length (oA ow) rs.length:=hG.start ⟨rs,r1,rfl,r3⟩
  have hrsl:∀{o:Int→Option Int} {i n:Nat},i≤l.length→KI l g i o n→n≤12:=fun {o i n} hi hI=>by
   obtain⟨rs,r1,r2,r3⟩:=hI.cnt
   have hsub:=Gc (a:=rs) (b:=(List.range l.length).map fun (j:Nat)=>(j:Int)) r1 (fun r hr=>by
    obtain⟨c,hc⟩:=(r3 r).1 hr
    obtain⟨d1,d2,_⟩:=hI.dom c r hc
    exact List.mem_map.2 ⟨r.toNat,List.mem_range.2 (by omega),by omega⟩)
   simp at hsub;omega
  refine Jn.mk (fun t=>∃v:Nat,t=(v:Int)∧Q1S l g v∧v≤24) (Loop.mk (fun t:List Int×Int×Int=>∃(i:Nat) (ow':List Int) (n:Nat),t=(ow',(n:Int),(i:Int))∧g.length≤i∧i≤l.length∧ow'.length=N∧(∀y,y∈ow'→0≤y∧y≤(l.length:Int))∧KI l g i (oA ow') n∧∀c,oA ow' c≠none→0≤c) (fun t=>l.length-t.2.2.toNat) ⟨g.length,ow,rs.length,by rw [←r2],Nat.le_refl _,hgl,hlo,hent,hK,fun c hc=>?_⟩ ?_) (fun t ht=>?_)
  ·cases he:oA ow c with
   | none=>exact absurd he hc
   | some r=>exact (hG.dom c r he).2.2.2
  ·rintro t ⟨i,ow',n,e,h1,h2,hlo',hent',hI,hn⟩
   subst e
   have hn12:=hrsl h2 hI
   refine Ite.mk (fun hlt=>⟨by simp only;rw [hlo'];omega,?_⟩) (fun hnlt=>?_)
   ·have hlt':i<l.length:=by have h:(i:Int)<l.length:=of_decide_eq_true hlt;omega
    have ew:w64 ((i:Int)+1)=((i+1:Nat):Int):=by rw [Q6 (by omega) (by omega)];simp
    have en:w64 ((n:Int)+1)=((n+1:Nat):Int):=by rw [Q6 (by omega) (by omega)];simp
    have eN:Int.toNat (ow'.length:Int)=N:=by omega
    show QD l (i:Int) (g.length:Int) ow' (List.replicate (Int.toNat (ow'.length:Int)) false) _
    rw [eN]
    refine Q1m hl hN2 hNc (by omega) (by omega) hlo' hent' (fun ow2 sn p g1 g2 g3 g4=>?_) (fun S' sn g1=>?_)
    ·refine Jn.mk (fun m=>m=((n+1:Nat):Int)) (Ite.t rfl en) (fun m hm=>⟨⟨i+1,ow2,n+1,by rw [←ew,hm],by omega,by omega,g3,g4,?_,fun c hc=>?_⟩,by show l.length-(w64 ((i:Int)+1)).toNat<l.length-((i:Int)).toNat;rw [ew];omega⟩)
     ·have e:oA ow2=apO p (oA ow'):=funext g2
      rw [e];exact hI.grow h1 g1
     ·rw [g2] at hc
      rcases KU (o:=oA ow') p c with ⟨q,q1,q2,_⟩ | ⟨_,q2⟩
      ·have:=hl.bd (g1.row q q1);omega
      ·rw [q2] at hc;exact hn c hc
    ·refine Jn.mk (fun m=>m=(n:Int)) (Ite.f rfl rfl) (fun m hm=>⟨⟨i+1,ow',n,by rw [←ew,hm],by omega,by omega,hlo',hent',hI.stuck h1 g1,hn⟩,by show l.length-(w64 ((i:Int)+1)).toNat<l.length-((i:Int)).toNat;rw [ew];omega⟩)
   ·have ei:i=l.length:=by have h:¬(i:Int)<l.length:=of_decide_eq_false hnlt;omega
    subst ei
    exact⟨n,rfl,⟨⟨_,hI,hn⟩⟩,by omega⟩
  ·obtain⟨v,e,hv,hv2⟩:=ht
   rw [e];exact hp v hv hv2
end
end Go.Taq
/- The mathematics, part DD: the first of the greatest matchings, and the turns, of both (chapter 34). -/
set_option linter.unusedVariables false
set_option linter.unusedSimpArgs false
namespace Go.Taq
open Go
def ZM (l:List (List Int)) (w:Nat) (p:List Int) (row:List Int) (c:Int):Prop:=
 (c=-1∧∀d,d∈row→d∉p→¬Most l (p++[d]) w)∨(c∈row∧c∉p∧Most l (p++[c]) w∧∀d,d∈row→d∉p→Most l (p++[d]) w→c≤d)
theorem ZM.uniq {l:List (List Int)} {w:Nat} {p row:List Int} {c d:Int} (h:ZM l w p row c) (h':ZM l w p row d):c=d:=by
 rcases h with ⟨e,h1⟩ | ⟨h1,h2,h3,h4⟩ <;> rcases h' with ⟨e',h1'⟩ | ⟨h1',h2',h3',h4'⟩
 ·rw [e,e']
 ·exact absurd h3' (h1 d h1' h2')
 ·exact absurd h3 (h1' c h1 h2)
 ·have:=h4 d h1' h2' h3';have:=h4' c h1 h2 h3;omega
structure MR (l:List (List Int)) (w:Nat) (m:List Int):Prop where
 most:Most l [] w
 len:m.length=l.length
 best:∀(i:Nat) c,m[i]?=some c→ZM l w (m.take i) (rowL l i) c
theorem MR.uniq {l:List (List Int)} {w w':Nat} {m m':List Int} (h:MR l w m) (h':MR l w' m'):m=m':=by
 have ew:=h.most.uniq h'.most
 subst ew
 have key:∀i,i≤l.length→m.take i=m'.take i:=fun i=>by
  induction i with
  | zero=>intro _;simp
  | succ i ih=>
   intro hi
   have ih:=ih (by omega)
   have h1:=List.getElem?_eq_getElem (show i<m.length by rw [h.len];omega)
   have h2:=List.getElem?_eq_getElem (show i<m'.length by rw [h'.len];omega)
   have b1:=h.best i _ h1
   have b2:=h'.best i _ h2
   rw [ih] at b1
   rw [QE h1,QE h2,ih,b1.uniq b2]
 have:=key l.length (Nat.le_refl _)
 rwa [←h.len,List.take_length,h.len,←h'.len,List.take_length] at this
structure Pre (l:List (List Int)) (w:Nat) (i:Nat) (p:List Int):Prop where
 len:p.length=i
 beg:Beg l p
 ext:Most l p w
 best:∀(j:Nat) c,p[j]?=some c→ZM l w (p.take j) (rowL l j) c
theorem KY {α:Type} {l:List α} {i:Nat} {x y:α} (h:l[i]?=some x):y∈l.take (i+1)↔y∈l.take i∨y=x:=by
 rw [QE h,List.mem_append,List.mem_singleton]
section
variable {l:List (List Int)} {w:Nat}
theorem Beg.snoc {p:List Int} {c:Int} (hp:Beg l p) (hl:p.length<l.length) (hc:c=-1∨(0≤c∧c∈rowL l p.length∧c∉p)):Beg l (p++[c]) where
 len:=by simp;omega
 ok:=fun i d hd=>by
  by_cases hi:i<p.length
  ·rw [List.getElem?_append_left hi] at hd
   rcases hp.ok i d hd with e | ⟨h1,h2,h3⟩
   ·exact .inl e
   ·exact .inr ⟨h1,h2,fun j hj=>by rw [List.getElem?_append_left (by omega)];exact h3 j hj⟩
  ·have hlt:=(List.getElem?_eq_some_iff.1 hd).1
   simp at hlt
   have ei:i=p.length:=by omega
   subst ei
   rw [List.getElem?_append_right (Nat.le_refl _)] at hd
   simp at hd;subst hd
   rcases hc with e | ⟨h1,h2,h3⟩
   ·exact .inl e
   ·exact .inr ⟨h1,h2,fun j hj he=>by
     rw [List.getElem?_append_left hj] at he
     exact h3 (List.mem_of_getElem? he)⟩
theorem Pre.snoc {i:Nat} {p:List Int} {c:Int} (hl:FewL l) (h:Pre l w i p) (hi:i<l.length) (hb:ZM l w p (rowL l i) c):Pre l w (i+1) (p++[c]):=by
 have hpl:=h.len
 have hbeg:Beg l (p++[c]):=h.beg.snoc (by omega) (by
  rcases hb with ⟨e,_⟩ | ⟨h1,h2,_⟩
  ·exact .inl e
  ·exact .inr ⟨(hl.bd h1).1,by rw [hpl];exact h1,h2⟩)
 have htk:∀{m:List Int} {c:Int},m.take p.length=p→m[p.length]?=some c→m.take (p++[c]).length=p++[c]:=fun {m c} h1 h2=>by
  rw [List.length_append,List.length_singleton,QE h2,h1]
 have hmost:Most l (p++[c]) w:=by
  rcases hb with ⟨e,h1⟩ | ⟨_,_,h3,_⟩
  ·obtain⟨m,m1,m2,m3⟩:=h.ext.is
   have hlt:p.length<m.length:=by rw [m1.len];omega
   have hx:=List.getElem?_eq_getElem hlt
   have hle:∀d,∀m',Mat l m'→m'.take (p++[d]).length=p++[d]→szM m'≤w:=fun d m' hm' hd=>h.ext.le m' hm' (by
    have:=congrArg (List.take p.length) hd
    rw [List.take_take,List.length_append,List.length_singleton,Nat.min_eq_left (by omega),List.take_left] at this
    exact this)
   have hm1:m[p.length]'hlt=-1:=by
    rcases m1.ok p.length _ hx with e | ⟨e1,e2,e3⟩
    ·exact e
    ·exfalso
     refine h1 _ (by rw [←hpl];exact e2) (fun hin=>?_) ⟨⟨m,m1,htk m2 hx,m3⟩,hle _⟩
     obtain⟨j,hj⟩:=List.mem_iff_getElem?.1 hin
     have hjl:=(List.getElem?_eq_some_iff.1 hj).1
     have ej:p[j]?=m[j]?:=by
      conv=>lhs;rw [←m2]
      exact List.getElem?_take_of_lt hjl
     exact e3 j hjl (ej▸hj)
   rw [hm1] at hx
   rw [e]
   exact⟨⟨m,m1,htk m2 hx,m3⟩,hle _⟩
  ·exact h3
 refine⟨by simp;omega,hbeg,hmost,fun j d hd=>?_⟩
 by_cases hj:j<p.length
 ·rw [List.getElem?_append_left hj] at hd
  rw [List.take_append_of_le_length (by omega)]
  exact h.best j d hd
 ·have hlt:=(List.getElem?_eq_some_iff.1 hd).1
  simp at hlt
  have ej:j=p.length:=by omega
  subst ej
  rw [List.getElem?_append_right (Nat.le_refl _)] at hd
  simp at hd;subst hd
  rw [List.take_left,hpl];exact hb
theorem Pre.start (h:Most l [] w):Pre l w 0 []:=⟨rfl,⟨Nat.zero_le _,fun i c h=>by simp at h⟩,h,fun j c h=>by simp at h⟩
theorem Pre.done {m:List Int} (h:Pre l w l.length m) (h0:Most l [] w):MR l w m:=⟨h0,h.len,h.best⟩
theorem Pre.mat {m:List Int} (h:Pre l w l.length m):Mat l m∧szM m=w:=by
 have hm:Mat l m:=⟨h.len,h.beg.ok⟩
 refine⟨hm,?_⟩
 obtain⟨m',m1,m2,m3⟩:=h.ext.is
 have e:m'=m:=by rw [←m2,h.len,←m1.len,List.take_length]
 rw [←e];exact m3
theorem Q0K:Beg l []:=⟨Nat.zero_le _,fun i c h=>by simp at h⟩
theorem Q28 {p:List Int} {d:Int} {v:Nat} (hv:Most l (p++[d]) v):((v:Int) == (w:Int))=true↔Most l (p++[d]) w:=by
 rw [beq_iff_eq]
 constructor
 ·intro e
  have:v=w:=by omega
  rw [←this];exact hv
 ·intro h;rw [hv.uniq h]
theorem Pre.try {i:Nat} {p:List Int} {d:Int} (hl:FewL l) (h:Pre l w i p) (hi:i<l.length) (hd:d∈rowL l i) (hn:d∉p):Beg l (p++[d]):=
 h.beg.snoc (by rw [h.len];exact hi) (.inr ⟨(hl.bd hd).1,by rw [h.len];exact hd,hn⟩)
theorem Q1c {xs:List Int} (hl:xs.length≤1000) {K:List Int→Prop} (hK:∀m:List Int,m.length≤xs.length→m.Pairwise (· < ·)→(∀a,a∈m↔a∈xs)→K m):
  QN xs (fun y=>Qa y (fun z=>V_slices_Compact_int_int__o0 z K)):=by
 unfold QN Qa Qf Q8
 refine⟨by omega,?_⟩
 refine Each.inv xs (fun i t=>t=xs.take i) rfl (fun i x t hx ht Y hY=>?_) (fun t ht=>?_)
 ·have:=(List.getElem?_eq_some_iff.1 hx).1
  refine⟨by rw [ht];simp;omega,hY _ ?_⟩
  rw [ht,QE hx]
 rw [List.take_length] at ht;subst ht
 unfold Qs
 refine⟨by omega,?_⟩
 have hperm:=List.mergeSort_perm t (fun x y=>decide (x≤y))
 have hsort:(t.mergeSort fun x y=>decide (x≤y)).Pairwise (fun x y=>x<y∨x=y):=by
  have:=List.pairwise_mergeSort (le:=fun x y:Int=>decide (x≤y)) (fun a b c h1 h2=>by simp at *;omega) (fun a b=>by simp;omega) t
  exact this.imp (fun h=>by simp at h;omega)
 have hlen:=hperm.length_eq
 generalize t.mergeSort (fun x y=>decide (x≤y))=m at *
 refine S_CompactI (by omega) (hK _ (by have:=Q0G (xs:=m) m.length;omega) (Q2b (lt:=(· < ·)) (fun x y z h1 h2=>by omega) hsort m.length (Nat.le_refl _)) (fun a=>?_))
 rw [Zq m.length (Nat.le_refl _),List.take_length,hperm.mem_iff]
theorem Gl (hl:FewL l) {post:List Int→Prop} (hp:∀w m,MR l w m→Mat l m→szM m=w→(∀m',Mat l m'→szM m'=w→Q3O l m')→post m):KQ l post:=by
 have hln:=hl.len
 unfold KQ
 refine Zp hl Q0K (fun w hw hw24=>?_)
 have h0:=hw.most Q0K
 refine Jn.mk (fun m=>Pre l w l.length m) (GT (xs:=l) (by unfold maxLen;omega) (fun t:List Int×Int=>t.2) (fun i t=>Pre l w i t.1) rfl (Pre.start h0) (fun i row t hrow ht hI=>?_) (fun t hI=>hI)) (fun m hm=>hp w m (hm.done h0) hm.mat.1 hm.mat.2 (fun m' h1 h2=>hw.tight h1 h2))
 have hi:=(List.getElem?_eq_some_iff.1 hrow).1
 have er:rowL l (i:Int)=row:=by unfold rowL;rw [Int.toNat_natCast,List.getD_eq_getElem?_getD,hrow];rfl
 have hrl:=hl.rlen (i:Int)
 rw [er] at hrl
 have hpl:=hI.len
 refine Jn.mk' ⟨row,by rw [ht];exact Qe rfl hrow,Q1c (by omega) (fun s hs1 hs2 hs3=>?_)⟩
 refine Jn.mk (fun c=>ZM l w t.1 row c) (Loop.mk (fun k:Int=>∃j:Nat,k=(j:Int)∧j≤s.length∧∀d,d∈s.take j→d∉t.1→¬Most l (t.1++[d]) w) (fun k=>s.length-k.toNat) ⟨0,rfl,by omega,fun d hd=>by simp at hd⟩ ?_) (fun c hc=>⟨by simp;omega,by rw [ht],?_⟩)
 ·rintro k ⟨j,e,hj,hn⟩
  subst e
  refine Ite.mk (fun h=>?_) (fun h=>?_)
  ·have hlt:j<s.length:=by have h':(j:Int)<s.length:=of_decide_eq_true h;omega
   have hd:=List.getElem?_eq_getElem hlt
   generalize s[j]=d at hd
   have hdr:d∈row:=(hs3 d).1 (List.mem_of_getElem? hd)
   have ew:w64 ((j:Int)+1)=((j+1:Nat):Int):=by rw [Q6 (by omega) (by omega)];simp
   refine⟨d,Qe rfl hd,Jn.mk (fun b=>b=true↔(d∉t.1∧Most l (t.1++[d]) w)) (Gz (by unfold maxLen;omega) (Ite.mk (fun hc=>?_) (fun hc=>Q19 (by omega) ⟨by simp;omega,?_⟩))) (fun b hb=>Ite.mk (fun h2=>?_) (fun h2=>?_))⟩
   ·have:d∈t.1:=List.contains_iff_mem.1 hc
    exact⟨fun h=>(by cases h),fun h=>absurd this h.1⟩
   ·have hdn:d∉t.1:=fun h=>by rw [List.contains_iff_mem.2 h] at hc;cases hc
    have hbg:=hI.try hl hi (by rw [er];exact hdr) hdn
    refine Zp hl hbg (fun v hv _=>?_)
    have:=Q28 (w:=w) (hv.most hbg)
    exact⟨fun h=>⟨hdn,this.1 h⟩,fun h=>this.2 h.2⟩
   ·obtain⟨g1,g2⟩:=hb.1 h2
    refine .inr ⟨hdr,g1,g2,fun d' hd' hn' hm'=>?_⟩
    obtain⟨j',hj'⟩:=List.mem_iff_getElem?.1 ((hs3 d').2 hd')
    rcases Nat.lt_or_ge j' j with hlt' | hge
    ·exact absurd hm' (hn d' (List.mem_of_getElem? (by rw [List.getElem?_take_of_lt hlt'];exact hj')) hn')
    ·by_cases e:j'=j
     ·subst e;rw [hd] at hj';cases hj';exact Int.le_refl _
     ·have h1:=(List.getElem?_eq_some_iff.1 hd)
      have h3:=(List.getElem?_eq_some_iff.1 hj')
      obtain⟨a1,b1⟩:=h1
      obtain⟨a2,b2⟩:=h3
      have:=List.pairwise_iff_getElem.1 hs2 j j' a1 a2 (by omega)
      rw [b1,b2] at this;omega
   ·refine⟨⟨j+1,ew,by omega,fun d' hd' hn' hm'=>?_⟩,by show s.length-(w64 ((j:Int)+1)).toNat<s.length-((j:Int)).toNat;rw [ew];omega⟩
    rw [QE hd] at hd'
    rcases List.mem_append.1 hd' with h3 | h3
    ·exact hn d' h3 hn' hm'
    ·simp at h3;subst h3
     rw [hb.2 ⟨hn',hm'⟩] at h2;cases h2
  ·have hje:j=s.length:=by have h':¬(j:Int)<s.length:=of_decide_eq_false h;omega
   rw [hje,List.take_length] at hn
   exact .inl ⟨rfl,fun d hd=>hn d ((hs3 d).2 hd)⟩
 ·exact hI.snoc hl hi (by rw [er];exact hc)
theorem Yo (hl:FewL l) {post:List Int→Prop} (hp:∀w m,MR l w m→Mat l m→szM m=w→post m):K3 l post:=by
 have hln:=hl.len
 unfold K3
 refine Zc hl Q0K (fun w hw hw24=>?_)
 have h0:=hw.most Q0K
 refine Jn.mk (fun m=>Pre l w l.length m) (GT (xs:=l) (by unfold maxLen;omega) (fun t:List Int×Int=>t.2) (fun i t=>Pre l w i t.1) rfl (Pre.start h0) (fun i row t hrow ht hI=>?_) (fun t hI=>hI)) (fun m hm=>hp w m (hm.done h0) hm.mat.1 hm.mat.2)
 have hi:=(List.getElem?_eq_some_iff.1 hrow).1
 have er:rowL l (i:Int)=row:=by unfold rowL;rw [Int.toNat_natCast,List.getD_eq_getElem?_getD,hrow];rfl
 have hrl:=hl.rlen (i:Int)
 rw [er] at hrl
 have hpl:=hI.len
 have hrm:=List.mem_of_getElem? hrow
 refine Jn.mk' (Jn.mk (fun c=>ZM l w t.1 row c) (Loop.mk (fun k:Int×Int=>∃j:Nat,k.2=(j:Int)∧j≤row.length∧-1≤k.1∧ZM l w t.1 (row.take j) k.1) (fun k=>row.length-k.2.toNat) ⟨0,rfl,by omega,by decide,.inl ⟨rfl,fun d hd=>by simp at hd⟩⟩ ?_) (fun c hc=>⟨by simp;omega,by rw [ht],?_⟩))
 ·rintro⟨b,kk⟩ ⟨j,e,hj,hb1,hB⟩
  simp only at e hb1 hB
  subst e
  refine⟨row,by rw [ht];exact Qe rfl hrow,Ite.mk (fun h=>?_) (fun h=>?_)⟩
  ·have hlt:j<row.length:=by have h':(j:Int)<row.length:=of_decide_eq_true h;omega
   have hd:=List.getElem?_eq_getElem hlt
   generalize row[j]=d at hd
   have hdr:d∈row:=List.mem_of_getElem? hd
   have hdb:=hl.num row hrm d hdr
   have ew:w64 ((j:Int)+1)=((j+1:Nat):Int):=by rw [Q6 (by omega) (by omega)];simp
   have hbg:d∉t.1→Beg l (t.1++[d]):=fun hdn=>hI.try hl hi (by rw [er];exact hdr) hdn
   have hsz:∀{K:Bool→Prop},d∉t.1→(∀bb:Bool,(bb=true↔Most l (t.1++[d]) w)→K bb)→(([]:List Int).length+t.1.length≤1099511627776)∧((([]:List Int)++t.1).length+([d]:List Int).length≤1099511627776)∧QB l ((([]:List Int)++t.1)++([d]:List Int)) (fun x=>K (x == (w:Int))):=fun {K} hdn hK=>by
    refine⟨by simp;omega,by simp;omega,?_⟩
    rw [List.nil_append]
    exact Zc hl (hbg hdn) (fun v hv _=>hK _ (Q28 (hv.most (hbg hdn))))
   refine⟨d,Qe rfl hd,Jn.mk (fun bb=>bb=true↔(d∉t.1∧(b<0∨d<b)∧Most l (t.1++[d]) w)) (GS (by unfold maxLen;omega) (Ite.mk (fun hc=>?_) (fun hc=>Ite.mk (fun hb0=>?_) (fun hb0=>Ite.mk (fun hdb=>?_) (fun hdb=>?_))))) (fun bb hbb=>?_)⟩
   ·have:d∈t.1:=List.contains_iff_mem.1 hc
    exact⟨fun h=>(by cases h),fun h=>absurd this h.1⟩
   ·have hdn:d∉t.1:=fun h=>by rw [List.contains_iff_mem.2 h] at hc;cases hc
    exact hsz (K:=fun bb:Bool=>(bb=true↔(d∉t.1∧(b<0∨d<b)∧Most l (t.1++[d]) w))) hdn (fun bb hb2=>⟨fun h=>⟨hdn,.inl (of_decide_eq_true hb0),hb2.1 h⟩,fun h=>hb2.2 h.2.2⟩)
   ·have hdn:d∉t.1:=fun h=>by rw [List.contains_iff_mem.2 h] at hc;cases hc
    exact hsz (K:=fun bb:Bool=>(bb=true↔(d∉t.1∧(b<0∨d<b)∧Most l (t.1++[d]) w))) hdn (fun bb hb2=>⟨fun h=>⟨hdn,.inr (of_decide_eq_true hdb),hb2.1 h⟩,fun h=>hb2.2 h.2.2⟩)
   ·have g1:¬b<0:=of_decide_eq_false hb0
    have g2:¬d<b:=of_decide_eq_false hdb
    exact⟨fun h=>(by cases h),fun h=>h.2.1.elim (fun h=>absurd h g1) (fun h=>absurd h g2)⟩
   ·refine Jn.mk (fun c=>-1≤c∧ZM l w t.1 (row.take (j+1)) c) (Ite.mk (fun h2=>?_) (fun h2=>?_)) (fun c hc=>⟨⟨j+1,ew,by omega,hc.1,hc.2⟩,by show row.length-(w64 ((j:Int)+1)).toNat<row.length-((j:Int)).toNat;rw [ew];omega⟩)
    ·obtain⟨g1,g2,g3⟩:=hbb.1 h2
     refine⟨by omega,.inr ⟨(KY hd).2 (.inr rfl),g1,g3,fun d' hd' hn' hm'=>?_⟩⟩
     rcases (KY hd).1 hd' with h3 | h3
     ·rcases hB with ⟨e,h4⟩ | ⟨h4,h5,h6,h7⟩
      ·exact absurd hm' (h4 d' h3 hn')
      ·have:=h7 d' h3 hn' hm'
       have:=(hl.num row hrm b (List.mem_of_mem_take h4)).1
       omega
     ·rw [h3];exact Int.le_refl _
    ·refine⟨hb1,?_⟩
     rcases hB with ⟨e,h4⟩ | ⟨h4,h5,h6,h7⟩
     ·refine .inl ⟨e,fun d' hd' hn' hm'=>?_⟩
      rcases (KY hd).1 hd' with h3 | h3
      ·exact h4 d' h3 hn' hm'
      ·subst h3
       rw [hbb.2 ⟨hn',.inl (by omega),hm'⟩] at h2;cases h2
     ·refine .inr ⟨(KY hd).2 (.inl h4),h5,h6,fun d' hd' hn' hm'=>?_⟩
      rcases (KY hd).1 hd' with h3 | h3
      ·exact h7 d' h3 hn' hm'
      ·subst h3
       by_cases hlt:d'<b
       ·rw [hbb.2 ⟨hn',.inr hlt,hm'⟩] at h2;cases h2
       ·omega
  ·have hje:j=row.length:=by have h':¬(j:Int)<row.length:=of_decide_eq_false h;omega
   rw [hje,List.take_length] at hB
   exact hB
 ·exact hI.snoc hl hi (by rw [er];exact hc)
end
end Go.Taq
/- The mathematics, part DE: turns; matchings as the statements tell them; the examples (chapter 34). -/
set_option linter.unusedVariables false
set_option linter.unusedSimpArgs false
namespace Go.Taq
open Go
def offL (l:List (List Int)) (m:List Int):List (List Int):=(List.range l.length).map fun i=>if 0≤m.getD i (-1) then [] else l.getD i []
def neL (l:List (List Int)):Nat:=l.countP fun r=>decide (r≠[])
inductive TR:List (List Int)→List (List Int)→Prop where
 | stop {l:List (List Int)} {m:List Int} (h:MR l 0 m):TR l []
 | turn {l:List (List Int)} {w:Nat} {m:List Int} {out:List (List Int)} (h:MR l w m) (hm:Mat l m) (hs:szM m=w) (hw:0<w) (ht:TR (offL l m) out):TR l (m :: out)
section
variable {l:List (List Int)} {m:List Int} {w:Nat}
theorem Wx:(offL l m).length=l.length:=by simp [offL]
theorem Q22 {i:Nat} (h:i<l.length):(offL l m)[i]?=some (if 0≤m.getD i (-1) then [] else l.getD i []):=by
 unfold offL
 rw [List.getElem?_map,List.getElem?_range h];rfl
theorem Q0z (hl:FewL l):FewL (offL l m):=by
 have hmem:∀r,r∈offL l m→r=[]∨r∈l:=fun r hr=>by
  unfold offL at hr
  obtain⟨i,hi,e⟩:=List.mem_map.1 hr
  rw [List.mem_range] at hi
  split at e
  ·exact .inl e.symm
  ·right
   rw [←e,List.getD_eq_getElem?_getD,List.getElem?_eq_getElem hi]
   exact List.getElem_mem hi
 refine⟨by rw [Wx];exact hl.len,fun r hr=>?_,fun r hr c hc=>?_⟩
 ·rcases hmem r hr with e | h
  ·rw [e];simp
  ·exact hl.row r h
 ·rcases hmem r hr with e | h
  ·rw [e] at hc;cases hc
  ·exact hl.num r h c hc
theorem Q1Y {m:List Int}:m.take ([]:List Int).length=[]:=by simp
theorem Q3S {i:Nat} {c:Int} (hi:i<l.length) (hc:c∈rowL l i) (h0:0≤c):∃m',Mat l m'∧szM m'=1:=by
 refine⟨(List.replicate l.length (-1)).set i c,⟨by simp,fun j d hd=>?_⟩,?_⟩
 ·rw [List.getElem?_set] at hd
  split at hd
  ·rename_i e
   subst e
   split at hd
   ·cases hd
    refine .inr ⟨h0,hc,fun k hk he=>?_⟩
    rw [List.getElem?_set_ne (by omega),List.getElem?_replicate] at he
    split at he <;> simp at he;omega
   ·cases hd
  ·rw [List.getElem?_replicate] at hd
   split at hd <;> simp at hd
   exact .inl hd.symm
 ·rw [←Ww]
  have:(hasM ((List.replicate l.length (-1)).set i c)).length=[(i:Int)].length:=by
   refine Q2d (Wy _) (by simp) fun r=>?_
   rw [Xp,List.mem_singleton]
   constructor
   ·rintro⟨j,d,e,e2,e3⟩
    rw [List.getElem?_set] at e2
    split at e2
    ·rename_i e4;omega
    ·rw [List.getElem?_replicate] at e2
     split at e2 <;> simp at e2;omega
   ·intro e
    exact⟨i,c,e,by rw [List.getElem?_set_self (by simpa using hi)],h0⟩
  rw [this];rfl
theorem MR.empty (hl:FewL l) (h:MR l 0 m) {i:Nat} (hi:i<l.length):rowL l i=[]:=by
 cases he:rowL l i with
 | nil=>rfl
 | cons c r=>
  have hc:c∈rowL l i:=by rw [he];exact List.mem_cons_self ..
  obtain⟨m',h1,h2⟩:=Q3S hi hc (hl.bd hc).1
  have:=h.most.le m' h1 Q1Y
  omega
theorem TR.uniq {a b:List (List Int)} (h:TR l a):TR l b→a=b:=by
 induction h generalizing b with
 | stop h=>
  intro h'
  cases h' with
  | stop _=>rfl
  | turn h2 _ _ hw _=>have:=h.most.uniq h2.most;omega
 | turn h hm hs hw ht ih=>
  intro h'
  cases h' with
  | stop h2=>have:=h.most.uniq h2.most;omega
  | turn h2 _ _ hw2 ht2=>
   have e:=h.uniq h2
   subst e
   rw [ih ht2]
theorem Q3y (hs:0<szM m):∃(i:Nat) (c:Int),m[i]?=some c∧0≤c:=by
 rw [←Ww] at hs
 obtain⟨r,hr⟩:=List.exists_mem_of_length_pos hs
 obtain⟨j,c,_,h1,h2⟩:=Xp.1 hr
 exact⟨j,c,h1,h2⟩
theorem Q2F (hl:FewL l) (hm:Mat l m) (hs:0<szM m):neL (offL l m)<neL l:=by
 obtain⟨i,c,hc,h0⟩:=Q3y hs
 have hi:i<l.length:=by rw [←hm.len];exact (List.getElem?_eq_some_iff.1 hc).1
 have hrow:c∈rowL l i:=by
  rcases hm.ok i c hc with e | e
  ·omega
  ·exact e.2.1
 unfold neL offL
 rw [List.countP_map]
 have e2:l=(List.range l.length).map fun j=>l.getD j []:=by
  refine List.ext_getElem? fun j=>?_
  by_cases hj:j<l.length
  ·rw [List.getElem?_map,List.getElem?_range hj,List.getElem?_eq_getElem hj]
   simp [List.getD_eq_getElem?_getD,List.getElem?_eq_getElem hj]
  ·rw [List.getElem?_eq_none (by omega),List.getElem?_eq_none (by simp;omega)]
 conv=>rhs;rw [e2,List.countP_map]
 have key:∀xs:List Nat,i∈xs→xs.countP ((fun r=>decide (r≠[])) ∘ fun i=>if 0≤m.getD i (-1) then [] else l.getD i [])<xs.countP ((fun r=>decide (r≠[])) ∘ fun j=>l.getD j []):=fun xs hx=>by
  induction xs with
  | nil=>cases hx
  | cons b xs ih=>
   have hm1:∀b,((fun r=>decide (r≠[])) ∘ fun i=>if 0≤m.getD i (-1) then ([]:List Int) else l.getD i []) b=true→((fun r=>decide (r≠[])) ∘ fun j=>l.getD j []) b=true:=fun b hb=>by
    simp only [Function.comp,decide_eq_true_eq] at hb ⊢
    split at hb
    ·exact absurd rfl hb
    ·exact hb
   have hm2:=List.countP_mono_left (l:=xs) (fun b _ hb=>hm1 b hb)
   rw [List.countP_cons,List.countP_cons]
   by_cases e:b=i
   ·subst e
    have h1:((fun r=>decide (r≠[])) ∘ fun i=>if 0≤m.getD i (-1) then ([]:List Int) else l.getD i []) b=false:=by
     exact decide_eq_false (fun h=>h (if_pos (by rw [List.getD_eq_getElem?_getD,hc];exact h0)))
    have h2:((fun r=>decide (r≠[])) ∘ fun j=>l.getD j []) b=true:=by
     simp only [Function.comp,decide_eq_true_eq]
     intro e
     unfold rowL at hrow
     rw [Int.toNat_natCast,e] at hrow;cases hrow
    rw [h1,h2]
    simp only [Bool.false_eq_true,if_false,if_true]
    omega
   ·have:=ih ((List.mem_cons.1 hx).resolve_left fun e'=>e e'.symm)
    have:(if ((fun r=>decide (r≠[])) ∘ fun i=>if 0≤m.getD i (-1) then ([]:List Int) else l.getD i []) b=true then 1 else 0)≤(if ((fun r=>decide (r≠[])) ∘ fun j=>l.getD j []) b=true then 1 else 0):=by
     split
     ·rename_i h;rw [if_pos (hm1 b h)];omega
     ·omega
    omega
 exact key _ (List.mem_range.2 hi)
theorem Q2Q:neL l≤l.length:=List.countP_le_length
theorem Q4j:(m.any fun c=>decide (c≥0))=decide (0<szM m):=by
 unfold szM
 rw [Bool.eq_iff_iff,List.any_eq_true,decide_eq_true_eq,List.countP_pos_iff]
theorem Q1y (hm:m.length≤1000) {post:Bool→Prop} (hp:post (decide (0<szM m))):Qc m post:=by
 unfold Qc Qh
 refine Q1P (by unfold maxLen;omega) (fun c:Int=>decide (c≥0)) (T:=fun x q=>Xo x q) (fun x _ q hq=>by unfold Xo;exact hq) ?_
 rw [Zm,Q4j];exact hp
theorem Q3f (hl:l.length≤1000) (hm:m.length=l.length) {K:List (List Int)→Prop} (hK:K (offL l m)):
  Jn (fun (J:(List (List Int))→Prop)=>Loop (fun (s:List (List Int)×Int) Y=>Ite (decide (s.2<(m.length:Int))) (∃x,idx m s.2=some x∧Jn (fun (J2:(List (List Int))→Prop)=>Ite (decide (x≥0)) (∃y,idx s.1 s.2=some y∧J2 (s.1.set (Int.toNat s.2) [])) (J2 s.1)) (fun (z:List (List Int))=>Y (z,w64 (s.2+1)))) (J s.1)) (l,0)) K:=by
 refine Jn.mk (fun a=>a=offL l m) (XP (xs:=m) (by unfold maxLen;omega) (fun t:List (List Int)×Int=>t.2) (fun i t=>t.1.length=l.length∧∀j,t.1[j]?=if j<i∧j<l.length∧0≤m.getD j (-1) then some [] else l[j]?) rfl ⟨rfl,fun j=>by rw [if_neg (by omega)]⟩ (fun i c t hc ht hI=>?_) (fun t hI=>?_)) (fun a ha=>by rw [ha];exact hK)
 ·have hi:=(List.getElem?_eq_some_iff.1 hc).1
  obtain⟨h1,h2⟩:=hI
  have hcd:m.getD i (-1)=c:=by rw [List.getD_eq_getElem?_getD,hc];rfl
  rw [ht]
  refine Jn.mk (fun a:List (List Int)=>a.length=l.length∧∀j,a[j]?=if j<i+1∧j<l.length∧0≤m.getD j (-1) then some [] else l[j]?) (Ite.mk (fun h=>?_) (fun h=>?_)) (fun a ha=>⟨rfl,ha⟩)
  ·have h0:0≤c:=of_decide_eq_true h
   have hy:=List.getElem?_eq_getElem (show i<t.1.length by omega)
   refine⟨_,Qe rfl hy,by rw [List.length_set];exact h1,fun j=>?_⟩
   rw [Int.toNat_natCast,List.getElem?_set]
   by_cases e:i=j
   ·subst e;rw [if_pos rfl,if_pos (by omega),if_pos ⟨by omega,by omega,by rw [hcd];exact h0⟩]
   ·rw [if_neg e,h2]
    by_cases hj:j<i
    ·simp [hj,show j<i+1 by omega]
    ·simp [hj,show ¬j<i+1 by omega]
  ·have h0:¬0≤c:=of_decide_eq_false h
   refine⟨h1,fun j=>?_⟩
   rw [h2]
   by_cases e:j=i
   ·subst e;rw [if_neg (by omega),if_neg (by rw [hcd];omega)]
   ·by_cases hj:j<i
    ·simp [hj,show j<i+1 by omega]
    ·simp [hj,show ¬j<i+1 by omega]
 ·obtain⟨h1,h2⟩:=hI
  refine List.ext_getElem? fun j=>?_
  rw [h2]
  by_cases hj:j<l.length
  ·rw [Q22 hj]
   by_cases h0:0≤m.getD j (-1)
   ·rw [if_pos ⟨by omega,hj,h0⟩,if_pos h0]
   ·rw [if_neg (fun h=>h0 h.2.2),if_neg h0,List.getD_eq_getElem?_getD,List.getElem?_eq_getElem hj];rfl
  ·rw [if_neg (by omega),List.getElem?_eq_none (by omega),List.getElem?_eq_none (by rw [Wx];omega)]
theorem Ys {α:Type} {a:List α} {x:α}:(a++[x]).set a.length x=a++[x]:=by
 rw [List.set_append_right _ _ (Nat.le_refl _)];simp
theorem Q2m {xs:List (List Int)} (hl:xs.length≤1000) {post:List (List Int)→Prop} (hp:post xs):QF xs post:=by
 unfold QF;exact S_clone (by omega) hp
theorem Wm (hl:FewL l) {post:List (List Int)→Prop} (hp:∀out,TR l out→post out):X9 l post:=by
 have hln:=hl.len
 unfold X9
 refine Q2m (by omega) ?_
 refine Loop.mk (fun t:List (List Int)×List (List Int)=>FewL t.1∧t.1.length=l.length∧t.2.length+neL t.1≤12∧∀rest,TR t.1 rest→TR l (t.2++rest)) (fun t=>neL t.1) ⟨hl,rfl,by have:=Q2Q (l:=l);simp;omega,fun rest h=>h⟩ ?_
 rintro⟨left,out⟩ ⟨h1,h2,h3,h4⟩
 simp only at h1 h2 h3 h4
 refine Jn.mk' (Gl h1 (fun w m hM hm hs _=>?_))
 have hml:m.length=left.length:=hm.len
 refine Q1y (by omega) (Ite.mk (fun h=>?_) (fun h=>?_))
 ·have h0:¬0<szM m:=by intro h';rw [decide_eq_true h'] at h;cases h
  have hw0:w=0:=by omega
  subst hw0
  have:=h4 [] (.stop hM)
  rw [List.append_nil] at this
  exact hp out this
 ·have h0:0<szM m:=by
   cases hd:decide (0<szM m) with
   | true=>exact of_decide_eq_true hd
   | false=>rw [hd] at h;cases h
  have hlt:=Q2F h1 hm h0
  refine Q3f (by omega) hml ⟨by show out.length+1≤_;omega,⟨Q0z h1,by show (offL left m).length=_;rw [Wx,h2],?_,fun rest hr=>?_⟩,?_⟩
  ·show ((out++[m]).set out.length m).length+neL (offL left m)≤12
   rw [Ys];simp;omega
  ·show TR l ((out++[m]).set out.length m++rest)
   rw [Ys,List.append_assoc]
   exact h4 (m :: rest) (.turn hM hm hs (by omega) hr)
  ·exact hlt
theorem Q0A (hl:FewL l) {post:List (List Int)→Prop} (hp:∀out,TR l out→post out):Kw l post:=by
 have hln:=hl.len
 unfold Kw
 refine⟨by simp;omega,?_⟩
 rw [List.nil_append]
 refine Jn.mk (fun _=>False) (Loop.mk (fun t:List (List Int)×List (List Int)×Int=>FewL t.1∧t.1.length=l.length∧t.2.2=(t.2.1.length:Int)∧t.2.1.length+neL t.1≤l.length∧∀rest,TR t.1 rest→TR l (t.2.1++rest)) (fun t=>neL t.1) ⟨hl,rfl,rfl,by have:=Q2Q (l:=l);simp;omega,fun rest h=>h⟩ ?_) (fun _ h=>h.elim)
 rintro⟨left,out,n⟩ ⟨h1,h2,hn,h3,h4⟩
 simp only at h1 h2 hn h3 h4
 subst hn
 refine Ite.t (decide_eq_true (by show (out.length:Int)≤_;omega)) (Jn.mk' (Yo h1 (fun w m hM hm hs=>?_)))
 have hml:m.length=left.length:=hm.len
 refine Jn.mk (fun t=>t=(offL left m,decide (0<szM m))) (XP (xs:=m) (by unfold maxLen;omega) (fun t:List (List Int)×Bool×Int=>t.2.2) (fun i t=>(t.1.length=left.length∧∀j,t.1[j]?=if j<i∧j<left.length∧0≤m.getD j (-1) then some [] else left[j]?)∧(t.2.1=true↔∃j c,j<i∧m[j]?=some c∧0≤c)) rfl ⟨⟨rfl,fun j=>by rw [if_neg (by omega)]⟩,by simp⟩ (fun i c t hc ht hI=>?_) (fun t hI=>?_)) (fun t ht=>?_)
 ·have hi:=(List.getElem?_eq_some_iff.1 hc).1
  obtain⟨⟨g1,g2⟩,g3⟩:=hI
  have hcd:m.getD i (-1)=c:=by rw [List.getD_eq_getElem?_getD,hc];rfl
  rw [ht]
  refine Jn.mk (fun a:List (List Int)×Bool=>(a.1.length=left.length∧∀j,a.1[j]?=if j<i+1∧j<left.length∧0≤m.getD j (-1) then some [] else left[j]?)∧(a.2=true↔∃j c,j<i+1∧m[j]?=some c∧0≤c)) (Ite.mk (fun h=>?_) (fun h=>?_)) (fun a ha=>⟨rfl,ha⟩)
  ·have h0:0≤c:=of_decide_eq_true h
   have hy:=List.getElem?_eq_getElem (show i<t.1.length by omega)
   refine⟨_,Qe rfl hy,⟨by rw [List.length_set];exact g1,fun j=>?_⟩,fun _=>⟨i,c,by omega,hc,h0⟩,fun _=>rfl⟩
   rw [Int.toNat_natCast,List.getElem?_set]
   by_cases e:i=j
   ·subst e;rw [if_pos rfl,if_pos (by omega),if_pos ⟨by omega,by omega,by rw [hcd];exact h0⟩]
   ·rw [if_neg e,g2]
    by_cases hj:j<i
    ·simp [hj,show j<i+1 by omega]
    ·simp [hj,show ¬j<i+1 by omega]
  ·have h0:¬0≤c:=of_decide_eq_false h
   refine⟨⟨g1,fun j=>?_⟩,?_⟩
   ·rw [g2]
    by_cases e:j=i
    ·subst e;rw [if_neg (by omega),if_neg (by rw [hcd];omega)]
    ·by_cases hj:j<i
     ·simp [hj,show j<i+1 by omega]
     ·simp [hj,show ¬j<i+1 by omega]
   ·rw [g3]
    constructor
    ·rintro⟨j,d,q1,q2,q3⟩;exact⟨j,d,by omega,q2,q3⟩
    ·rintro⟨j,d,q1,q2,q3⟩
     by_cases e:j=i
     ·subst e;rw [hc] at q2;cases q2;exact absurd q3 h0
     ·exact⟨j,d,by omega,q2,q3⟩
 ·obtain⟨⟨g1,g2⟩,g3⟩:=hI
  have e1:t.1=offL left m:=by
   refine List.ext_getElem? fun j=>?_
   rw [g2]
   by_cases hj:j<left.length
   ·rw [Q22 hj]
    by_cases h0:0≤m.getD j (-1)
    ·rw [if_pos ⟨by omega,hj,h0⟩,if_pos h0]
    ·rw [if_neg (fun h=>h0 h.2.2),if_neg h0,List.getD_eq_getElem?_getD,List.getElem?_eq_getElem hj];rfl
   ·rw [if_neg (by omega),List.getElem?_eq_none (by omega),List.getElem?_eq_none (by rw [Wx];omega)]
  have e2:t.2.1=decide (0<szM m):=by
   rw [Bool.eq_iff_iff,g3,decide_eq_true_eq]
   constructor
   ·rintro⟨j,c,_,q2,q3⟩
    rw [←Ww]
    exact List.length_pos_of_mem (Xp.2 ⟨j,c,rfl,q2,q3⟩)
   ·intro h
    obtain⟨j,c,q2,q3⟩:=Q3y h
    exact⟨j,c,(List.getElem?_eq_some_iff.1 q2).1,q2,q3⟩
  rw [←e1,←e2]
 ·subst ht
  refine Ite.mk (fun h=>?_) (fun h=>?_)
  ·have h0:¬0<szM m:=by
    intro h'
    have h2:(!decide (0<szM m))=true:=h
    rw [decide_eq_true h'] at h2;cases h2
   have hw0:w=0:=by omega
   subst hw0
   have:=h4 [] (.stop hM)
   rw [List.append_nil] at this
   exact hp out this
  ·have h0:0<szM m:=by
    cases hd:decide (0<szM m) with
    | true=>exact of_decide_eq_true hd
    | false=>have h2:(!decide (0<szM m))=false:=h;rw [hd] at h2;cases h2
   have hlt:=Q2F h1 hm h0
   refine⟨by show out.length+1≤_;omega,⟨Q0z h1,by show (offL left m).length=_;rw [Wx,h2],?_,?_,fun rest hr=>?_⟩,hlt⟩
   ·show w64 ((out.length:Int)+1)=(((out++[m]).set out.length m).length:Int)
    rw [Q6 (by omega) (by omega),Ys];simp
   ·show ((out++[m]).set out.length m).length+neL (offL left m)≤l.length
    rw [Ys];simp;omega
   ·show TR l ((out++[m]).set out.length m++rest)
    rw [Ys,List.append_assoc]
    exact h4 (m :: rest) (.turn hM hm hs (by omega) hr)
end
end Go.Taq
/- The mathematics, part DF: matchings told by the statements; the examples; DockTurns (chapter 34). -/
set_option linter.unusedVariables false
set_option linter.unusedSimpArgs false
namespace Go.Taq
open Go
/-! ## small lists, by trying all -/
def allM:List (List Int)→List (List Int)
 | []=>[[]]
 | r :: l=>((-1) :: r).flatMap fun c=>(allM l).map fun m=>c :: m
def matB (l:List (List Int)) (m:List Int):Bool:=m.length == l.length&&(List.range m.length).all fun i=>m.getD i (-1) == -1||(decide (0≤m.getD i (-1))&&(l.getD i []).contains (m.getD i (-1))&&(List.range i).all fun j=>m.getD j (-1) != m.getD i (-1))
def mxO:List Nat→Option Nat
 | []=>none
 | x :: xs=>match mxO xs with | none=>some x | some y=>some (if x≤y then y else x)
def Q2y (l:List (List Int)) (g:List Int):Option Nat:=mxO (((allM l).filter fun m=>matB l m&&m.take g.length == g).map szM)
def Q4h (l:List (List Int)) (w:Nat) (p row:List Int) (c:Int):Bool:=
 (c == -1&&row.all fun d=>p.contains d||Q2y l (p++[d]) != some w)||(row.contains c&&!p.contains c&&Q2y l (p++[c]) == some w&&row.all fun d=>p.contains d||Q2y l (p++[d]) != some w||decide (c≤d))
def mrB (l:List (List Int)) (w:Nat) (m:List Int):Bool:=Q2y l [] == some w&&m.length == l.length&&(List.range l.length).all fun i=>Q4h l w (m.take i) (l.getD i []) (m.getD i (-1))
theorem Q2l:∀{xs:List Nat} {v:Nat},mxO xs=some v→v∈xs∧∀x,x∈xs→x≤v
 | [],v,h=>by simp [mxO] at h
 | x :: xs,v,h=>by
  unfold mxO at h
  cases e:mxO xs with
  | none=>
   rw [e] at h
   have hv:=Option.some.inj h
   have hn:xs=[]:=by
    cases xs with
    | nil=>rfl
    | cons y ys=>unfold mxO at e;split at e <;> cases e
   subst hn;subst hv
   simp
  | some y=>
   rw [e] at h
   have hv:=Option.some.inj h
   obtain⟨h1,h2⟩:=Q2l e
   split at hv
   ·subst hv
    exact⟨List.mem_cons_of_mem _ h1,fun z hz=>(List.mem_cons.1 hz).elim (fun e=>by omega) (h2 z)⟩
   ·subst hv
    exact⟨List.mem_cons_self ..,fun z hz=>(List.mem_cons.1 hz).elim (fun e=>by omega) (fun hz=>by have:=h2 z hz;omega)⟩
theorem Q4D:∀{xs:List Nat} {x:Nat},x∈xs→∃v,mxO xs=some v
 | [],x,h=>by cases h
 | x :: xs,_,_=>by
  unfold mxO
  cases mxO xs with
  | none=>exact⟨_,rfl⟩
  | some y=>exact⟨_,rfl⟩
section
variable {l:List (List Int)} {m:List Int} {w:Nat}
theorem Q0t {m:List Int} {i:Nat} (h:i<m.length):m[i]?=some (m.getD i (-1)):=by rw [List.getD_eq_getElem?_getD,List.getElem?_eq_getElem h];rfl
theorem Q0H {l:List (List Int)} {i:Nat}:rowL l (i:Int)=l.getD i []:=by unfold rowL;rw [Int.toNat_natCast]
theorem Yn:matB l m=true↔Mat l m:=by
 unfold matB
 simp only [Bool.and_eq_true,beq_iff_eq,List.all_eq_true,List.mem_range,Bool.or_eq_true,decide_eq_true_eq,List.contains_iff_mem,bne_iff_ne]
 constructor
 ·rintro⟨h1,h2⟩
  refine⟨h1,fun i c hc=>?_⟩
  have hi:=(List.getElem?_eq_some_iff.1 hc).1
  have e:m.getD i (-1)=c:=by rw [List.getD_eq_getElem?_getD,hc];rfl
  have:=h2 i hi
  rw [e] at this
  rcases this with h | ⟨⟨h3,h4⟩,h5⟩
  ·exact .inl h
  ·refine .inr ⟨h3,by rw [Q0H];exact h4,fun j hj he=>h5 j hj ?_⟩
   rw [List.getD_eq_getElem?_getD,he];rfl
 ·rintro⟨h1,h2⟩
  refine⟨h1,fun i hi=>?_⟩
  rcases h2 i _ (Q0t hi) with h | ⟨h3,h4,h5⟩
  ·exact .inl h
  ·rw [Q0H] at h4
   exact .inr ⟨⟨h3,h4⟩,fun j hj he=>h5 j hj (by rw [Q0t (by omega),he])⟩
theorem Q2T:∀{l:List (List Int)} {m:List Int},m.length=l.length→(∀i,i<m.length→m.getD i (-1)=-1∨m.getD i (-1)∈l.getD i [])→m∈allM l
 | [],[],_,_=>by simp [allM]
 | [],c :: m,h,_=>by simp at h
 | r :: l,[],h,_=>by simp at h
 | r :: l,c :: m,h,h2=>by
  unfold allM
  rw [List.mem_flatMap]
  refine⟨c,?_,List.mem_map.2 ⟨m,Q2T (by simpa using h) (fun i hi=>?_),rfl⟩⟩
  ·have:=h2 0 (by simp)
   rw [List.mem_cons];exact this
  ·have:=h2 (i+1) (by simpa using hi)
   simpa using this
theorem Mat.all (h:Mat l m):m∈allM l:=Q2T h.len (fun i hi=>by
 rcases h.ok i _ (Q0t hi) with e | ⟨_,e,_⟩
 ·exact .inl e
 ·rw [Q0H] at e;exact .inr e)
theorem Zk {g:List Int}:Most l g w↔Q2y l g=some w:=by
 unfold Q2y
 have key:∀m,m∈((allM l).filter fun m=>matB l m&&m.take g.length == g)↔Mat l m∧m.take g.length=g:=fun m=>by
  rw [List.mem_filter,Bool.and_eq_true,Yn,beq_iff_eq]
  exact⟨fun h=>h.2,fun h=>⟨h.1.all,h⟩⟩
 have back:∀v,mxO (((allM l).filter fun m=>matB l m&&m.take g.length == g).map szM)=some v→Most l g v:=fun v hv=>by
  obtain⟨h1,h2⟩:=Q2l hv
  obtain⟨m,hm,e⟩:=List.mem_map.1 h1
  obtain⟨q1,q2⟩:=(key m).1 hm
  exact⟨⟨m,q1,q2,e⟩,fun m' hm' hg'=>h2 _ (List.mem_map.2 ⟨m',(key m').2 ⟨hm',hg'⟩,rfl⟩)⟩
 refine⟨fun h=>?_,back w⟩
 obtain⟨m,h1,h2,h3⟩:=h.is
 obtain⟨v,hv⟩:=Q4D (List.mem_map.2 ⟨m,(key m).2 ⟨h1,h2⟩,rfl⟩:szM m∈((allM l).filter fun m=>matB l m&&m.take g.length == g).map szM)
 rw [hv,h.uniq (back v hv)]
theorem Z5 (h:mrB l w m=true):MR l w m:=by
 unfold mrB at h
 simp only [Bool.and_eq_true,beq_iff_eq,List.all_eq_true,List.mem_range] at h
 obtain⟨⟨h1,h2⟩,h3⟩:=h
 refine⟨Zk.2 h1,h2,fun i c hc=>?_⟩
 have hi:=(List.getElem?_eq_some_iff.1 hc).1
 have e:m.getD i (-1)=c:=by rw [List.getD_eq_getElem?_getD,hc];rfl
 have:=h3 i (by omega)
 rw [e,←Q0H] at this
 unfold Q4h at this
 simp only [Bool.or_eq_true,Bool.and_eq_true,beq_iff_eq,List.all_eq_true,List.contains_iff_mem,bne_iff_ne,Bool.not_eq_true',←Bool.not_eq_true,decide_eq_true_eq] at this
 rcases this with ⟨g1,g2⟩ | ⟨⟨⟨g1,g2⟩,g3⟩,g4⟩
 ·exact .inl ⟨g1,fun d hd hn hm=>(g2 d hd).elim (fun h=>hn h) (fun h=>h (Zk.1 hm))⟩
 ·refine .inr ⟨g1,fun h=>by simp [h] at g2,Zk.2 g3,fun d hd hn hm=>?_⟩
  rcases g4 d hd with (h | h) | h
  ·exact absurd h hn
  ·exact absurd (Zk.1 hm) h
  ·exact h
end
theorem S_ref34_Few {l:List (List Int)} {post:Bool→Prop} (hF:post false) (hT:FewL l→post true):V_taquinref34_Few l 12 post:=by
 unfold V_taquinref34_Few
 refine Jn.mk (fun _=>(l.length≤12→FewL l)) (Loop.mk (fun t:Int=>∃i:Nat,t=(i:Int)∧i≤l.length∧i≤13∧∀(j:Nat) r,j<i→l[j]?=some r→r.length≤10∧∀c,c∈r→0≤c∧c≤63) (fun t=>l.length-t.toNat) ⟨0,rfl,by omega,by omega,fun j r hj=>by omega⟩ ?_) (fun _ h=>?_)
 ·rintro t ⟨i,e,hi,hi2,hI⟩
  subst e
  refine Jn.mk (fun b=>b=true↔(i<l.length∧i≤12)) (Ite.mk (fun h=>?_) (fun h=>?_)) (fun b hb=>Ite.mk (fun h=>?_) (fun h hl12=>?_))
  ·have h':(i:Int)<l.length:=of_decide_eq_true h
   show decide ((i:Int)≤12)=true↔_
   rw [decide_eq_true_iff];omega
  ·have h':¬(i:Int)<l.length:=of_decide_eq_false h
   exact⟨fun h=>(by cases h),fun h=>by omega⟩
  ·obtain⟨g1,g2⟩:=hb.1 h
   have hx:=List.getElem?_eq_getElem g1
   generalize l[i]=r at hx
   have ew:w64 ((i:Int)+1)=((i+1:Nat):Int):=by rw [Q6 (by omega) (by omega)];simp
   refine Jn.mk' (Jn.mk (fun _=>r.length≤10→∀c,c∈r→0≤c∧c≤63) (Loop.mk (fun u:Int=>∃k:Nat,u=(k:Int)∧k≤r.length∧k≤11∧∀c,c∈r.take k→0≤c∧c≤63) (fun u=>r.length-u.toNat) ⟨0,rfl,by omega,by omega,fun c hc=>by simp at hc⟩ ?_) (fun _ hall=>⟨r,Qe rfl hx,Ite.mk (fun _=>hF) (fun h2=>?_)⟩))
   ·rintro u ⟨k,e,hk,hk2,hK⟩
    subst e
    refine Jn.mk (fun b=>b=true↔(k<r.length∧k≤10)) ⟨r,Qe rfl hx,Ite.mk (fun h=>?_) (fun h=>?_)⟩ (fun b hb=>Ite.mk (fun h=>?_) (fun h h10=>?_))
    ·have h':(k:Int)<r.length:=of_decide_eq_true h
     show decide ((k:Int)≤10)=true↔_
     rw [decide_eq_true_iff];omega
    ·have h':¬(k:Int)<r.length:=of_decide_eq_false h
     exact⟨fun h=>(by cases h),fun h=>by omega⟩
    ·obtain⟨q1,q2⟩:=hb.1 h
     have hc:=List.getElem?_eq_getElem q1
     generalize r[k]=c at hc
     have ek:w64 ((k:Int)+1)=((k+1:Nat):Int):=by rw [Q6 (by omega) (by omega)];simp
     refine Jn.mk (fun b=>b=false→0≤c∧c≤63) ⟨r,Qe rfl hx,c,Qe rfl hc,Ite.mk (fun _ h=>by cases h) (fun h1 h2=>?_)⟩ (fun b hb=>Ite.mk (fun _=>hF) (fun h1=>⟨⟨k+1,ek,by omega,by omega,fun d hd=>?_⟩,by rw [ek];omega⟩))
     ·have h1':¬c<0:=of_decide_eq_false h1
      have h2':¬c>63:=of_decide_eq_false h2
      omega
     ·rcases (KY hc).1 hd with h3 | h3
      ·exact hK d h3
      ·subst h3;exact hb h1
    ·have hkl:k=r.length:=by
      rcases Nat.lt_or_ge k r.length with h3 | h3
      ·rw [hb.2 ⟨h3,by omega⟩] at h;cases h
      ·omega
     rw [hkl,List.take_length] at hK;exact hK
   ·have h2':¬(r.length:Int)>10:=of_decide_eq_false h2
    refine⟨⟨i+1,ew,by omega,by omega,fun j r' hj hr'=>?_⟩,by rw [ew];omega⟩
    by_cases e:j=i
    ·subst e;rw [hx] at hr';cases hr';exact⟨by omega,hall (by omega)⟩
    ·exact hI j r' (by omega) hr'
  ·have hil:i=l.length:=by
    rcases Nat.lt_or_ge i l.length with h3 | h3
    ·rw [hb.2 ⟨h3,by omega⟩] at h;cases h
    ·omega
   have key:∀r,r∈l→r.length≤10∧∀c,c∈r→0≤c∧c≤63:=fun r hr=>by
    obtain⟨j,hj⟩:=List.mem_iff_getElem?.1 hr
    exact hI j r (by rw [hil];exact (List.getElem?_eq_some_iff.1 hj).1) hj
   exact⟨hl12,fun r hr=>(key r hr).1,fun r hr=>(key r hr).2⟩
 ·cases hd:decide ((l.length:Int)≤12) with
  | false=>exact hF
  | true=>exact hT (h (by have:=of_decide_eq_true hd;omega))
/-! ## matchings as the statements tell them -/
/-! ## the examples -/
def e34a:List (List Int):=[[5,9],[5]]
def e34b:List (List Int):=[[5,9],[5],[9]]
def e34c:List (List Int):=[[5],[],[5]]
theorem Q0C {l:List (List Int)} (h:(decide (l.length≤12)&&l.all fun r=>decide (r.length≤10)&&r.all fun c=>decide (0≤c)&&decide (c≤63))=true):FewL l:=by
 simp only [Bool.and_eq_true,decide_eq_true_eq,List.all_eq_true] at h
 exact⟨h.1,fun r hr=>(h.2 r hr).1,fun r hr c hc=>(h.2 r hr).2 c hc⟩
theorem Q3L:TR e34b [[5,-1,9],[-1,5,-1]]:=
 .turn (w:=2) (Z5 (by decide)) (Yn.1 (by decide)) (by decide) (by decide) (.turn (w:=1) (Z5 (by decide)) (Yn.1 (by decide)) (by decide) (by decide) (.stop (m:=[-1,-1,-1]) (Z5 (by decide))))
theorem Q3Y:TR e34c [[5,-1,-1],[-1,-1,5]]:=
 .turn (w:=1) (Z5 (by decide)) (Yn.1 (by decide)) (by decide) (by decide) (.turn (w:=1) (Z5 (by decide)) (Yn.1 (by decide)) (by decide) (by decide) (.stop (m:=[-1,-1,-1]) (Z5 (by decide))))
theorem Q0Q {post:Bool→Prop} (hp:post true):Km post:=by
 have same:∀{a:List Int} {q:Bool→Prop},a.length≤10→q true→Q7 a a q:=fun {a q} ha hq=>XS (by unfold maxLen;omega) hq
 unfold Km
 refine Gl (l:=e34a) (Q0C (by decide)) (fun w m hM _ _ _=>?_)
 have em:m=[9,5]:=hM.uniq (Z5 (w:=2) (by decide))
 subst em
 refine Gl (l:=e34b) (Q0C (by decide)) (fun w m hM _ _ _=>?_)
 have em:m=[5,-1,9]:=hM.uniq (Z5 (w:=2) (by decide))
 subst em
 refine Wm (l:=e34b) (Q0C (by decide)) (fun o1 h1=>?_)
 have eo:=h1.uniq Q3L
 subst eo
 refine Wm (l:=e34c) (Q0C (by decide)) (fun o2 h2=>?_)
 have eo:=h2.uniq Q3Y
 subst eo
 refine Jn.mk (fun b=>b=false) (Ite.f rfl rfl) (fun b hb=>Ite.f hb (Jn.mk (fun b=>b=true) ?_ (fun b hb=>by rw [hb];exact hp)))
 refine same (by decide) (Ite.t rfl (same (by decide) (Ite.t rfl ⟨_,rfl,same (by decide) (Ite.t rfl ⟨_,rfl,by decide,same (by decide) (Ite.t rfl ⟨_,rfl,same (by decide) (Ite.t rfl ⟨_,rfl,by decide,same (by decide) rfl⟩)⟩)⟩)⟩)))
end Go.Taq
/- The mathematics, part DK: who can reach which chargers; DockTells (chapter 34). -/
set_option linter.unusedVariables false
set_option linter.unusedSimpArgs false
namespace Go.Taq
open Go
def chB (s:ApiSite) (f:List Int) (r:Qz) (c:Nat):Bool:=decide (kd s.Floor c=3)&&(decide (0≤fu f c)&&decide (fu f c+(r.Rest+r.Mute)*3≤r.Charge))
def chL (s:ApiSite) (f:List Int) (r:Qz) (n:Nat):List Int:=((List.range n).filter (chB s f r)).map fun (j:Nat)=>(j:Int)
theorem Zl (s:ApiSite) (f:List Int) (r:Qz) (n:Nat):chL s f r (n+1)=chL s f r n++if chB s f r n=true then [(n:Int)] else []:=by
 unfold chL
 rw [List.range_succ,List.filter_append,List.map_append]
 congr 1
 rw [List.filter_cons]
 split <;> simp
theorem Q1L (s:ApiSite) (f:List Int) (r:Qz) (n:Nat):(chL s f r n).length≤n:=by
 unfold chL;rw [List.length_map];exact Nat.le_trans (List.length_filter_le ..) (by simp)
structure RchR (s:ApiSite) (st:ApiState) (B:List Int) (out:List (List Int)):Prop where
 len:out.length=st.Robots.length
 row:∀(i:Nat) r,st.Robots[i]?=some r→(r.Dead=true∧out[i]?=some [])∨(r.Dead=false∧∃f,CoF s B r.Cell f∧out[i]?=some (chL s f r s.Floor.Kind.length))
theorem RchR.uniq {s:ApiSite} {st:ApiState} {B:List Int} {o o':List (List Int)} (hf:RF s.Floor) (h:RchR s st B o) (h':RchR s st B o'):o=o':=by
 refine List.ext_getElem? fun i=>?_
 by_cases hi:i<st.Robots.length
 ·have hr:=List.getElem?_eq_getElem hi
  rcases h.row i _ hr with ⟨a1,a2⟩ | ⟨a1,f,a2,a3⟩ <;> rcases h'.row i _ hr with ⟨b1,b2⟩ | ⟨b1,f',b2,b3⟩
  ·rw [a2,b2]
  ·rw [a1] at b1;cases b1
  ·rw [a1] at b1;cases b1
  ·rw [a3,b3,a2.uniq hf b2]
 ·rw [List.getElem?_eq_none (by rw [h.len];omega),List.getElem?_eq_none (by rw [h'.len];omega)]
section
variable {s:ApiSite} {st:ApiState} {B:List Int}
structure RowI (out0 out:List (List Int)) (i:Nat) (row:List Int):Prop where
 len:out.length=out0.length
 get:∀j,out[j]?=if j=i∧i<out0.length then some row else out0[j]?
theorem RowI.put {out0 out:List (List Int)} {i:Nat} {row:List Int} (h:RowI out0 out i row) (hi:i<out0.length) (row':List Int):RowI out0 (out.set i row') i row' where
 len:=by rw [List.length_set];exact h.len
 get:=fun j=>by
  rw [List.getElem?_set]
  by_cases e:i=j
  ·subst e;rw [if_pos rfl,if_pos (by rw [h.len];exact hi),if_pos ⟨rfl,hi⟩]
  ·rw [if_neg e,h.get,if_neg (fun h=>e h.1.symm),if_neg (fun h=>e h.1.symm)]
theorem Q1k (ks:OkApiSite s) (hf:RF s.Floor) (hs:RS s) (hn:s.Floor.Kind.length≤1000) (hz:Sz st) (hl:LS s st) (k:OkApiState st) (hbd:∀(i:Nat) r,st.Robots[i]?=some r→(0≤r.Charge∧r.Charge≤1000000)∧(0≤r.Rest∧r.Rest≤20000)∧(0≤r.Mute∧r.Mute≤20000)) (hB:Blk st B) {post:List (List Int)→Prop} (hp:∀o,RchR s st B o→post o):Xv s st post:=by
 have q1:=hz.rb
 unfold Xv
 refine⟨⟨by omega,by omega⟩,Zs hz (fun bl hbl hbl2=>?_)⟩
 rw [hbl.uniq hB] at *
 refine Jn.mk (fun o=>RchR s st B o) (GT (xs:=st.Robots) (by unfold maxLen;omega) (fun t:List (List Int)×Int=>t.2) (fun i t=>t.1.length=st.Robots.length∧(∀(j:Nat),i≤j→j<st.Robots.length→t.1[j]?=some [])∧∀(j:Nat) r,j<i→st.Robots[j]?=some r→(r.Dead=true∧t.1[j]?=some [])∨(r.Dead=false∧∃f,CoF s B r.Cell f∧t.1[j]?=some (chL s f r s.Floor.Kind.length))) rfl ⟨by simp,fun j _ hj=>by rw [List.getElem?_replicate,if_pos (by omega)],fun j r hj=>by omega⟩ (fun i r t hr ht hI=>?_) (fun t hI=>⟨hI.1,fun i r hr=>hI.2.2 i r (List.getElem?_eq_some_iff.1 hr).1 hr⟩)) (fun o ho=>hp o ho)
 obtain⟨g1,g2,g3⟩:=hI
 obtain⟨o,ii⟩:=t
 simp only at ht g1 g2 g3
 subst ht
 have hi:=(List.getElem?_eq_some_iff.1 hr).1
 obtain⟨b1,b2,b3⟩:=hbd i r hr
 have hcell:=(hl.rob i r hr).1
 have fin:∀o':List (List Int),((r.Dead=true∧o'=o)∨(r.Dead=false∧∃f,CoF s B r.Cell f∧RowI o o' i (chL s f r s.Floor.Kind.length)))→(o'.length=st.Robots.length∧(∀(j:Nat),i+1≤j→j<st.Robots.length→o'[j]?=some [])∧∀(j:Nat) r,j<i+1→st.Robots[j]?=some r→(r.Dead=true∧o'[j]?=some [])∨(r.Dead=false∧∃f,CoF s B r.Cell f∧o'[j]?=some (chL s f r s.Floor.Kind.length))):=fun o' h=>by
  rcases h with ⟨h1,h2⟩ | ⟨h1,f,h2,h3⟩
  ·subst h2
   refine⟨g1,fun j hj hj2=>g2 j (by omega) hj2,fun j r' hj hr'=>?_⟩
   by_cases e:j=i
   ·subst e;rw [hr] at hr';cases hr';exact .inl ⟨h1,g2 j (Nat.le_refl _) hi⟩
   ·exact g3 j r' (by omega) hr'
  ·refine⟨h3.len.trans g1,fun j hj hj2=>by rw [h3.get,if_neg (by omega)];exact g2 j (by omega) hj2,fun j r' hj hr'=>?_⟩
   by_cases e:j=i
   ·subst e
    rw [hr] at hr';cases hr'
    exact .inr ⟨h1,f,h2,by rw [h3.get,if_pos ⟨rfl,by omega⟩]⟩
   ·rw [h3.get,if_neg (by omega)]
    exact g3 j r' (by omega) hr'
 refine Jn.mk (fun o':List (List Int)=>(o'.length=st.Robots.length∧(∀(j:Nat),i+1≤j→j<st.Robots.length→o'[j]?=some [])∧∀(j:Nat) r,j<i+1→st.Robots[j]?=some r→(r.Dead=true∧o'[j]?=some [])∨(r.Dead=false∧∃f,CoF s B r.Cell f∧o'[j]?=some (chL s f r s.Floor.Kind.length)))) ⟨r,Qe rfl hr,Ite.mk (fun h=>fin o (.inl ⟨h,rfl⟩)) (fun h=>Wa (Wd ks hf hs hn (by unfold maxLen;omega) (fun f hfF=>?_)))⟩ (fun o' ho'=>⟨rfl,ho'⟩)
 have hfl:=hfF.len
 refine Jn.mk (fun o'=>RowI o o' i (chL s f r s.Floor.Kind.length)) (XP (xs:=f) (by unfold maxLen;omega) (fun t:List (List Int)×Int=>t.2) (fun c t=>RowI o t.1 i (chL s f r c)) rfl ⟨rfl,fun j=>?_⟩ (fun c v t hv ht2 hJ=>?_) (fun t hJ=>by rw [hfl] at hJ;exact hJ)) (fun o' ho'=>fin o' (.inr ⟨h,f,hfF,ho'⟩))
 ·by_cases e:j=i∧i<o.length
  ·rw [if_pos e]
   have:=g2 i (Nat.le_refl _) hi
   rw [e.1];exact this
  ·rw [if_neg e]
 ·have hcl:=(List.getElem?_eq_some_iff.1 hv).1
  have hcc:isC s.Floor (c:Int)=true:=Qp.2 ⟨by omega,by omega⟩
  have hfv:fu f c=v:=by unfold fu;rw [List.getD_eq_getElem?_getD,hv];rfl
  have hvb:=hfF.bd (c:=c) (by omega)
  rw [hfv] at hvb
  have hlen:=Q1L s f r c
  rw [ht2]
  refine Jn.mk (fun b=>b=chB s f r c) ⟨_,Xl hcc,Ite.mk (fun h3=>Ite.mk (fun h4=>?_) (fun h4=>?_)) (fun h3=>?_)⟩ (fun b hb=>?_)
  ·have h3':kd s.Floor c=3:=by simpa using h3
   have h4':v≥0:=of_decide_eq_true h4
   show decide _=chB s f r c
   unfold chB
   rw [hfv,decide_eq_true h3',decide_eq_true (show 0≤v from h4'),Q6 (x:=r.Rest+r.Mute) (by omega) (by omega),Q6 (x:=(r.Rest+r.Mute)*3) (by omega) (by omega),Q6 (by omega) (by omega),Bool.true_and,Bool.true_and]
   congr 1
   exact propext ⟨fun h=>by omega,fun h=>by omega⟩
  ·have h4':¬v≥0:=of_decide_eq_false h4
   unfold chB
   rw [hfv,decide_eq_false (show ¬0≤v from h4')];simp
  ·have h3':¬kd s.Floor c=3:=by simpa using h3
   unfold chB
   rw [decide_eq_false h3'];rfl
  ·refine Jn.mk (fun o'=>RowI o o' i (chL s f r (c+1))) (Ite.mk (fun h3=>?_) (fun h3=>?_)) (fun o' ho'=>⟨rfl,ho'⟩)
   ·have hx:t.1[i]?=some (chL s f r c):=by rw [hJ.get,if_pos ⟨rfl,by omega⟩]
    refine⟨_,Qe rfl hx,by simp;omega,?_⟩
    rw [Zl,if_pos (by rw [←hb];exact h3)]
    exact hJ.put (by omega) _
   ·rw [Zl,if_neg (by rw [←hb,h3];simp),List.append_nil];exact hJ
theorem Q0X (ks:OkApiSite s) (hR:Y6 s) (hn:s.Floor.Kind.length≤1000) (hz:Sz st) (hl:LS s st) (k:OkApiState st) (hbd:∀(i:Nat) r,st.Robots[i]?=some r→(0≤r.Charge∧r.Charge≤1000000)∧(0≤r.Rest∧r.Rest≤20000)∧(0≤r.Mute∧r.Mute≤20000)) (hB:Blk st B) {post:List (List Int)→Prop} (hp:∀o,RchR s st B o→post o):K2 s st post:=by
 have hf:=hR.fl
 have hs:=hR.rs
 have q1:=hz.rb
 unfold K2
 refine⟨⟨by omega,by omega⟩,ZD hz (fun bl hbl hbl2=>?_)⟩
 rw [hbl.uniq hB] at *
 refine Jn.mk (fun o=>RchR s st B o) (GT (xs:=st.Robots) (by unfold maxLen;omega) (fun t:List (List Int)×Int=>t.2) (fun i t=>t.1.length=st.Robots.length∧(∀(j:Nat),i≤j→j<st.Robots.length→t.1[j]?=some [])∧∀(j:Nat) r,j<i→st.Robots[j]?=some r→(r.Dead=true∧t.1[j]?=some [])∨(r.Dead=false∧∃f,CoF s B r.Cell f∧t.1[j]?=some (chL s f r s.Floor.Kind.length))) rfl ⟨by simp,fun j _ hj=>by rw [List.getElem?_replicate,if_pos (by omega)],fun j r hj=>by omega⟩ (fun i r t hr ht hI=>?_) (fun t hI=>⟨hI.1,fun i r hr=>hI.2.2 i r (List.getElem?_eq_some_iff.1 hr).1 hr⟩)) (fun o ho=>hp o ho)
 obtain⟨g1,g2,g3⟩:=hI
 obtain⟨o,ii⟩:=t
 simp only at ht g1 g2 g3
 subst ht
 have hi:=(List.getElem?_eq_some_iff.1 hr).1
 obtain⟨b1,b2,b3⟩:=hbd i r hr
 have hcell:=(hl.rob i r hr).1
 have fin:∀o':List (List Int),((r.Dead=true∧o'=o)∨(r.Dead=false∧∃f,CoF s B r.Cell f∧RowI o o' i (chL s f r s.Floor.Kind.length)))→(o'.length=st.Robots.length∧(∀(j:Nat),i+1≤j→j<st.Robots.length→o'[j]?=some [])∧∀(j:Nat) r,j<i+1→st.Robots[j]?=some r→(r.Dead=true∧o'[j]?=some [])∨(r.Dead=false∧∃f,CoF s B r.Cell f∧o'[j]?=some (chL s f r s.Floor.Kind.length))):=fun o' h=>by
  rcases h with ⟨h1,h2⟩ | ⟨h1,f,h2,h3⟩
  ·subst h2
   refine⟨g1,fun j hj hj2=>g2 j (by omega) hj2,fun j r' hj hr'=>?_⟩
   by_cases e:j=i
   ·subst e;rw [hr] at hr';cases hr';exact .inl ⟨h1,g2 j (Nat.le_refl _) hi⟩
   ·exact g3 j r' (by omega) hr'
  ·refine⟨h3.len.trans g1,fun j hj hj2=>by rw [h3.get,if_neg (by omega)];exact g2 j (by omega) hj2,fun j r' hj hr'=>?_⟩
   by_cases e:j=i
   ·subst e
    rw [hr] at hr';cases hr'
    exact .inr ⟨h1,f,h2,by rw [h3.get,if_pos ⟨rfl,by omega⟩]⟩
   ·rw [h3.get,if_neg (by omega)]
    exact g3 j r' (by omega) hr'
 refine Jn.mk (fun o':List (List Int)=>(o'.length=st.Robots.length∧(∀(j:Nat),i+1≤j→j<st.Robots.length→o'[j]?=some [])∧∀(j:Nat) r,j<i+1→st.Robots[j]?=some r→(r.Dead=true∧o'[j]?=some [])∨(r.Dead=false∧∃f,CoF s B r.Cell f∧o'[j]?=some (chL s f r s.Floor.Kind.length)))) ⟨r,Qe rfl hr,GV ks hR hn (by unfold maxLen;omega) (fun f hfF=>?_)⟩ (fun o' ho'=>⟨rfl,ho'⟩)
 have hfl:=hfF.len
 refine Jn.mk (fun o'=>(r.Dead=true∧o'=o)∨(r.Dead=false∧RowI o o' i (chL s f r s.Floor.Kind.length))) (Loop.mk (fun t:List (List Int)×Int=>∃c:Nat,t.2=(c:Int)∧c≤f.length∧((r.Dead=true∧t.1=o)∨(r.Dead=false∧RowI o t.1 i (chL s f r c)))) (fun t=>f.length-t.2.toNat) ⟨0,rfl,by omega,?_⟩ ?_) (fun o' ho'=>fin o' (ho'.imp id (fun h=>⟨h.1,f,hfF,h.2⟩)))
 ·cases hd:r.Dead with
  | true=>exact .inl ⟨rfl,rfl⟩
  | false=>
   refine .inr ⟨rfl,rfl,fun j=>?_⟩
   by_cases e:j=i∧i<o.length
   ·rw [if_pos e]
    have:=g2 i (Nat.le_refl _) hi
    rw [e.1];exact this
   ·rw [if_neg e]
 rintro⟨o1,cc⟩ ⟨c,e,hcl0,hJ⟩
 simp only at e hJ
 subst e
 refine Jn.mk (fun b=>b=true↔(c<f.length∧r.Dead=false)) (Ite.mk (fun h=>?_) (fun h=>?_)) (fun b hb=>Ite.mk (fun h=>?_) (fun h=>?_))
 ·have h':(c:Int)<(f.length:Int):=of_decide_eq_true h
  show (!r.Dead)=true↔_
  rw [Bool.not_eq_true']
  exact⟨fun h=>⟨by omega,h⟩,fun h=>h.2⟩
 ·have h':¬(c:Int)<(f.length:Int):=of_decide_eq_false h
  exact⟨fun h=>(by cases h),fun h=>by omega⟩
 ·obtain⟨hcl,hd⟩:=hb.1 h
  obtain⟨_,hJ⟩:=hJ.resolve_left (fun h=>by rw [hd] at h;cases h.1)
  have hcc:isC s.Floor (c:Int)=true:=Qp.2 ⟨by omega,by omega⟩
  have hvb:=hfF.bd (c:=c) (by omega)
  have hlen:=Q1L s f r c
  have ew:w64 ((c:Int)+1)=((c+1:Nat):Int):=by rw [Q6 (by omega) (by omega)];simp
  refine Jn.mk (fun b=>b=chB s f r c) ⟨_,Xl hcc,Ite.mk (fun h3=>⟨fu f c,Wi (f:=f) (by omega),Ite.mk (fun h4=>Wf ?_) (fun h4=>?_)⟩) (fun h3=>?_)⟩ (fun b hb=>?_)
  ·have h3':kd s.Floor c=3:=by simpa using h3
   have h4':fu f c≥0:=of_decide_eq_true h4
   show decide _=chB s f r c
   unfold chB
   rw [decide_eq_true h3',decide_eq_true (show 0≤fu f c from h4'),Q6 (x:=r.Rest+r.Mute) (by omega) (by omega),Q6 (x:=(r.Rest+r.Mute)*3) (by omega) (by omega),Q6 (by omega) (by omega),Bool.true_and,Bool.true_and]
  ·have h4':¬fu f c≥0:=of_decide_eq_false h4
   unfold chB
   rw [decide_eq_false (show ¬0≤fu f c from h4')];simp
  ·have h3':¬kd s.Floor c=3:=by simpa using h3
   unfold chB
   rw [decide_eq_false h3'];rfl
  ·refine Jn.mk (fun o'=>RowI o o' i (chL s f r (c+1))) (Ite.mk (fun h3=>?_) (fun h3=>?_)) (fun o' ho'=>⟨⟨c+1,ew,by omega,.inr ⟨hd,ho'⟩⟩,by show f.length-(w64 ((c:Int)+1)).toNat<f.length-((c:Int)).toNat;rw [ew];omega⟩)
   ·have hx:o1[i]?=some (chL s f r c):=by rw [hJ.get,if_pos ⟨rfl,by omega⟩]
    refine⟨_,Qe rfl hx,by simp;omega,?_⟩
    rw [Zl,if_pos (by rw [←hb];exact h3)]
    exact hJ.put (by omega) _
   ·rw [Zl,if_neg (by rw [←hb,h3];simp),List.append_nil];exact hJ
 ·rcases hJ with ⟨h1,h2⟩ | ⟨h1,h2⟩
  ·exact .inl ⟨h1,h2⟩
  ·have hcf:c=s.Floor.Kind.length:=by
    rcases Nat.lt_or_ge c f.length with h3 | h3
    ·rw [hb.2 ⟨h3,h1⟩] at h;cases h
    ·omega
   rw [hcf] at h2;exact .inr ⟨h1,h2⟩
theorem Z4 (ks:OkApiSite s) (hR:Y6 s) (hn:s.Floor.Kind.length≤1000) {L:List Int} (hL:L.length≤maxLen) {a b:Int} {post:Int→Prop} (h0:isC s.Floor b=false→post (-1)) (hp:∀f,CoF s L a f→isC s.Floor b=true→post (fu f b.toNat)):KD s L a b post:=by
 unfold KD
 refine GV ks hR hn hL (fun f hfF=>Xu hR.fl (Ite.mk (fun h=>h0 (by simpa using h)) (fun h=>?_)))
 have hc:isC s.Floor b=true:=by simpa using h
 have hbi:=Qp.1 hc
 refine⟨fu f b.toNat,?_,hp f hfF hc⟩
 obtain⟨n,rfl⟩:=Int.eq_ofNat_of_zero_le hbi.1
 rw [Int.toNat_natCast];exact Wi (by rw [hfF.len];omega)
theorem Z9 {a:List (List Int)} (ha:a.length≤1000) (hr:∀r,r∈a→r.length≤1000) {post:Bool→Prop} (hp:post true):QQ a a post:=by
 unfold QQ
 refine Ite.f (by simp) (Jn.mk (fun _=>True) (XP (xs:=a) (by unfold maxLen;omega) (fun t:Int=>t) (fun i t=>True) rfl trivial (fun i r t hri ht _=>?_) (fun t _=>trivial)) (fun _ _=>hp))
 have hrm:=hr r (List.mem_of_getElem? hri)
 exact⟨r,by rw [ht];exact Qe rfl hri,XS (by unfold maxLen;omega) (Ite.f rfl ⟨by rw [ht],trivial⟩)⟩
end
end Go.Taq
/- The mathematics, part DL: DockTells (chapter 34). -/
set_option linter.unusedVariables false
set_option linter.unusedSimpArgs false
namespace Go.Taq
open Go
section
variable {s:ApiSite} {st:ApiState}
structure Q3w (s:ApiSite) (st:ApiState):Prop where
 r:Y6 s
 few:FewS s 50 20
 f12:Q32 st
 rst:RSt s st
theorem Q1l (ks:OkApiSite s) (k:OkApiState st) {post:Bool→Prop} (hF:post false) (hT:Q3w s st→post true):Ky s st post:=by
 unfold Ky
 exact Jn.mk' (Q1X ks (by omega) (Ite.f rfl hF) (fun h1=>Ite.t rfl (Q0s ks (Ite.f rfl hF) (fun h2=>Ite.t rfl (Q1R (Ite.f rfl hF) (fun h3=>Ite.t rfl (Q0E k h3.sz hF (fun h4=>hT ⟨h2,h1,h3,h4⟩))))))))
end
theorem Said_taquinlaw34_DockTells (s:ApiSite) (ks:OkApiSite s) (st:ApiState) (k:OkApiState st) (L:List Int) (kL:(OkL I64) L) (a:Int) (ka:I64 a) (b:Int) (kb:I64 b) (l:List (List Int)) (kl:(OkL (OkL I64)) l):V_taquinlaw34_DockTells s st L a b l (fun y=>y=true):=by
 unfold V_taquinlaw34_DockTells
 refine Q0Q (Jn.mk (fun b=>b=false→Q3w s st∧L.length≤30∧FewL l) (Q1l ks k (Ite.f rfl fun h=>(by cases h)) (fun hF=>Ite.t rfl (Ite.mk (fun _ h=>(by cases h)) (fun h1=>S_ref34_Few (fun h=>(by cases h)) (fun hl h=>⟨hF,?_,hl⟩))))) (fun b hb=>Ite.mk (fun _=>rfl) (fun h=>?_)))
 ·have h':¬(L.length:Int)>30:=of_decide_eq_false h1
  omega
 obtain⟨hF,hL,hl⟩:=hb h
 have hR:=hF.r
 have hf:=hR.fl
 have hs:=hR.rs
 have hn:s.Floor.Kind.length≤1000:=by have:=hF.few.kind;omega
 have hz:=hF.f12.sz
 have hls:=Q4N hf hs hF.rst hz
 have hLm:L.length≤maxLen:=by unfold maxLen;omega
 have hbd:∀(i:Nat) r,st.Robots[i]?=some r→(0≤r.Charge∧r.Charge≤1000000)∧(0≤r.Rest∧r.Rest≤20000)∧(0≤r.Mute∧r.Mute≤20000):=fun i r hr=>⟨(hF.rst.rob i r hr).charge,(hF.rst.rob i r hr).rest,(hF.rst.rob i r hr).mute⟩
 obtain⟨B,hB,hBl⟩:=Q4e hz
 have hln:=hl.len
 refine Jn.mk (fun b=>b=false) ?_ (fun b hb2=>Ite.f hb2 (Jn.mk (fun b=>b=true) (Ite.t rfl ?_) (fun b hb=>hb)))
 ·-- costs,reach
  have rest:KP s L a (fun x20=>Qw s L a (fun x21=>Q7 x20 x21 (fun x22=>Ite x22 (Xv s st (fun x24=>K2 s st (fun x25=>QQ x24 x25 (fun x26=>(fun b=>b=false) (!x26))))) ((fun b=>b=false) true)))):=by
   refine Wd ks hf hs hn hLm (fun f h1=>GV ks hR hn hLm (fun f' h2=>?_))
   rw [←h1.uniq hf h2]
   refine XS (by rw [h1.len];unfold maxLen;omega) (Ite.t rfl (Q1k ks hf hs hn hz hls k hbd hB (fun o h3=>Q0X ks hR hn hz hls k hbd hB (fun o' h4=>?_))))
   rw [←h3.uniq hf h4]
   refine Z9 (by rw [h3.len];have:=hz.rb;omega) (fun r hr=>?_) rfl
   obtain⟨i,hi⟩:=List.mem_iff_getElem?.1 hr
   have hil:i<st.Robots.length:=by rw [←h3.len];exact (List.getElem?_eq_some_iff.1 hi).1
   rcases h3.row i _ (List.getElem?_eq_getElem hil) with ⟨_,e⟩ | ⟨_,f,_,e⟩
   ·rw [hi] at e;cases e;simp
   ·rw [hi] at e;cases e
    have:=Q1L s f (st.Robots[i]) s.Floor.Kind.length
    omega
  refine Q1K ks hf hs hn hLm (fun h1=>Z4 ks hR hn hLm (fun _=>Ite.f (by decide) rest) (fun f _ h2=>by rw [h1] at h2;cases h2)) (fun f h1 h2=>Z4 ks hR hn hLm (fun h3=>by rw [h2] at h3;cases h3) (fun f' h3 _=>?_))
  rw [←h1.uniq hf h3]
  exact Ite.f (by simp) rest
 ·refine Gl hl (fun w m hM hm _ _=>Yo hl (fun w' m' hM' _ _=>?_))
  rw [←hM.uniq hM']
  refine XS (by have:=hm.len;unfold maxLen;omega) (Ite.t rfl (Wm hl (fun o hO=>Q0A hl (fun o' hO'=>?_))))
  rw [←hO.uniq hO']
  have hol:o.length≤12:=by
   have key:∀{l out},TR l out→FewL l→out.length≤neL l:=fun {l out} h=>by
    induction h with
    | stop h=>intro _;simp
    | turn h hm hs hw ht ih=>
     intro hl
     have:=ih (Q0z hl)
     have:=Q2F hl hm (by omega)
     simp only [List.length_cons];omega
   have:=key hO hl
   have:=Q2Q (l:=l);omega
  have hmat:∀{l out},TR l out→∀m,m∈out→m.length=l.length:=fun {l out} h=>by
   induction h with
   | stop h=>intro m hm;cases hm
   | turn h hm hs hw ht ih=>
    intro m' hm'
    rcases List.mem_cons.1 hm' with e | h'
    ·subst e;exact hm.len
    ·have:=ih m' h';rw [Wx] at this;exact this
  exact Z9 (by omega) (fun r hr=>by have:=hmat hO r hr;omega) rfl
end Go.Taq
