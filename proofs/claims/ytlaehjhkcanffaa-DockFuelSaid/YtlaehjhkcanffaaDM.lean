/- The mathematics, several parts in one text. -/
import Derived.Test.YtlaehjhkcanffaaDA
import Derived.Test.YtlaehjhkcanffaaMS
import Derived.Test.YtlaehjhkcanffaaBF
import Derived.Test.YtlaehjhkcanffaaOG
import Derived.Test.YtlaehjhkcanffaaGI
/- The mathematics, part DB: the search for a charger, and the greatest size, by the code (chapter 34). -/
set_option linter.unusedVariables false
set_option linter.unusedSimpArgs false
namespace Go.Taq
open Go
structure FewL (l:List (List Int)):Prop where
 len:l.length≤12
 row:∀r,r∈l→r.length≤10
 num:∀r,r∈l→∀c,c∈r→0≤c∧c≤63
theorem Q1j {l:List (List Int)} {x:Int} (h0:0≤x) (h1:x<l.length):l[x.toNat]?=some (rowL l x)∧idx l x=some (rowL l x):=by
 have h:=List.getElem?_eq_getElem (show x.toNat<l.length by omega)
 have e:rowL l x=l[x.toNat]'(by omega):=by unfold rowL;rw [List.getD_eq_getElem?_getD,h];rfl
 rw [e]
 exact⟨h,QM (n:=x.toNat) (by omega) h⟩
theorem FewL.bd {l:List (List Int)} (h:FewL l) {r c:Int} (hc:c∈rowL l r):0≤c∧c≤63:=by
 unfold rowL at hc
 rw [List.getD_eq_getElem?_getD] at hc
 cases he:l[r.toNat]? with
 | none=>rw [he] at hc;simp at hc
 | some x=>rw [he] at hc;exact h.num x (List.mem_of_getElem? he) c hc
theorem FewL.rlen {l:List (List Int)} (h:FewL l) (r:Int):(rowL l r).length≤10:=by
 unfold rowL
 rw [List.getD_eq_getElem?_getD]
 cases he:l[r.toNat]? with
 | none=>simp
 | some x=>exact h.row x (List.mem_of_getElem? he)
def mu (S:Int→Bool):Nat:=((List.range 64).filter fun c:Nat=>!S c).length
theorem Q2V {S S':Int→Bool} (h:∀c,S c=true→S' c=true):mu S'≤mu S:=by
 unfold mu
 rw [←List.countP_eq_length_filter,←List.countP_eq_length_filter]
 refine List.countP_mono_left fun c _ hc=>?_
 cases hs:S c with
 | false=>rfl
 | true=>rw [h _ hs] at hc;cases hc
theorem Q2X {S S':Int→Bool} (h:∀c,S c=true→S' c=true) {c:Int} (hc:0≤c∧c≤63) (h1:S c=false) (h2:S' c=true):mu S'<mu S:=by
 unfold mu
 rw [←List.countP_eq_length_filter,←List.countP_eq_length_filter]
 have key:∀xs:List Nat,c.toNat∈xs→xs.countP (fun c:Nat=>!S' c)<xs.countP (fun c:Nat=>!S c):=fun xs hx=>by
  induction xs with
  | nil=>cases hx
  | cons b xs ih=>
   have hm:xs.countP (fun c:Nat=>!S' c)≤xs.countP (fun c:Nat=>!S c):=List.countP_mono_left fun d _ hd=>by
    cases hs:S d with
    | false=>rfl
    | true=>rw [h _ hs] at hd;cases hd
   rw [List.countP_cons,List.countP_cons]
   by_cases e:b=c.toNat
   ·subst e
    have ec:((c.toNat:Nat):Int)=c:=by omega
    rw [ec,h1,h2];simp;omega
   ·have:=ih ((List.mem_cons.1 hx).resolve_left fun e'=>e e'.symm)
    have hb:(if (!S' b)=true then 1 else 0)≤(if (!S b)=true then 1 else 0):=by
     cases hs:S b with
     | false=>simp;split <;> omega
     | true=>rw [h _ hs];simp
    omega
 exact key _ (List.mem_range.2 (by omega))
theorem Z7 {κ α:Type} [DecidableEq κ]:∀(xs:List (κ×α)) (k:κ) (y:α),(upd xs k y).length=if (lk xs k).isSome=true then xs.length else xs.length+1
 | [],k,y=>by simp [upd,lk]
 | p :: r,k,y=>by
  have ih:=Z7 r k y
  by_cases h:p.1=k
  ·have e1:lk (p :: r) k=some p.2:=by show (if p.1=k then some p.2 else lk r k)=_;rw [if_pos h]
   have e2:upd (p :: r) k y=(k,y) :: r:=by show (if p.1=k then _ else _)=_;rw [if_pos h]
   rw [e1,e2];simp
  ·have e1:lk (p :: r) k=lk r k:=by show (if p.1=k then some p.2 else lk r k)=_;rw [if_neg h]
   have e2:upd (p :: r) k y=p :: upd r k y:=by show (if p.1=k then _ else _)=_;rw [if_neg h]
   rw [e1,e2,List.length_cons,ih]
   split <;> simp
def sB (sn:List (Int×Bool)) (c:Int):Bool:=(lk sn c).getD false
theorem Q0H {sn:List (Int×Bool)} {c d:Int}:sB (upd sn c true) d=true↔sB sn d=true∨d=c:=by
 unfold sB
 rw [W0]
 by_cases h:c=d
 ·subst h;simp
 ·rw [if_neg h]
  exact⟨.inl,fun h2=>h2.elim id (fun e=>absurd e.symm h)⟩
section
variable {l:List (List Int)}
theorem Q0f (hl:FewL l) {X:(Int×Q4×List (Int×Bool)×Int)→((Bool×Q4×List (Int×Bool)×Int)→Prop)→Prop}
  (hX:∀s p,Qd X s.1 s.2.1 s.2.2.1 s.2.2.2 p→X s p) (k:Int):
  ∀(n:Nat) (x:Int) (ow:List (Int×Int)) (sn:List (Int×Bool)) (post:Bool×Q4×List (Int×Bool)×Int→Prop),mu (sB sn)<n→0≤x→x<l.length→(∀c r,lk ow c=some r→0≤r∧r<l.length) →
   (∀ow' sn' p,Aug l k (lk ow) x p→(∀c,lk ow' c=apO p (lk ow) c)→ow'.length=ow.length+1→(∀q,q∈p→sB sn q.1=false)→post (true,⟨l,ow'⟩,sn',k)) →
   (∀sn',Stk l k (lk ow) x (fun c=>sB sn c=true) (fun c=>sB sn' c=true)→post (false,⟨l,ow⟩,sn',k))→X (x,⟨l,ow⟩,sn,k) post
 | 0,_,_,_,_,h,_,_,_,_,_=>by omega
 | n+1,x,ow,sn,post,hmu,h0,h1,hval,hS,hF=>by
  refine hX _ _ ?_
  unfold Qd
  have hrl:=hl.rlen x
  refine⟨rowL l x,(Q1j h0 h1).2,Jn.mk (fun t=>∃sn',t=(l,ow,sn',k)∧Stk l k (lk ow) x (fun c=>sB sn c=true) (fun c=>sB sn' c=true)) (Loop.mk
   (fun t:List (List Int)×List (Int×Int)×List (Int×Bool)×Int×Int=>∃(j:Nat) (sn':List (Int×Bool)),t=(l,ow,sn',k,(j:Int))∧j≤(rowL l x).length∧(∀c,sB sn c=true→sB sn' c=true)∧(∀c,c∈(rowL l x).take j→sB sn' c=true)∧∀c,sB sn' c=true→sB sn c=true∨∃r,lk ow c=some r∧(r<k∨∀c2,c2∈rowL l r→sB sn' c2=true))
   (fun t=>(rowL l x).length-t.2.2.2.2.toNat) ⟨0,sn,rfl,by omega,fun _ h=>h,fun c hc=>by simp at hc,fun c hc=>.inl hc⟩ ?_) (fun t ht=>by obtain⟨sn',e,hs⟩:=ht;subst e;exact hF sn' hs)⟩
  rintro t ⟨j,sj,e,hj,s1,s2,s3⟩
  subst e
  refine Ite.mk (fun hlt=>?_) (fun hnlt=>?_)
  case refine_2=>
   have:¬((j:Int)<(rowL l x).length):=of_decide_eq_false hnlt
   have ej:j=(rowL l x).length:=by omega
   rw [ej,List.take_length] at s2
   exact⟨sj,rfl,s1,s2,s3⟩
  have hlt':j<(rowL l x).length:=by have h:(j:Int)<(rowL l x).length:=of_decide_eq_true hlt;omega
  have hc:=List.getElem?_eq_getElem hlt'
  generalize (rowL l x)[j]=c at hc
  have hcm:=List.mem_of_getElem? hc
  have hcb:=hl.bd hcm
  have ew:w64 ((j:Int)+1)=((j+1:Nat):Int):=by rw [Qn (by omega) (by omega)];simp
  have next:∀s':List (Int×Bool),(∀c,sB sn c=true→sB s' c=true)→(∀d,d∈(rowL l x).take j→sB s' d=true)→sB s' c=true→(∀c,sB s' c=true→sB sn c=true∨∃r,lk ow c=some r∧(r<k∨∀c2,c2∈rowL l r→sB s' c2=true)) →
    ((∃(j':Nat) (sn':List (Int×Bool)),(l,ow,s',k,w64 ((j:Int)+1))=(l,ow,sn',k,(j':Int))∧j'≤(rowL l x).length∧(∀c,sB sn c=true→sB sn' c=true)∧(∀c,c∈(rowL l x).take j'→sB sn' c=true)∧∀c,sB sn' c=true→sB sn c=true∨∃r,lk ow c=some r∧(r<k∨∀c2,c2∈rowL l r→sB sn' c2=true))∧(rowL l x).length-(w64 ((j:Int)+1)).toNat<(rowL l x).length-((j:Int)).toNat):=fun s' g1 g2 g3 g4=>by
   refine⟨⟨j+1,s',by rw [ew],by omega,g1,fun d hd=>?_,g4⟩,by rw [ew];omega⟩
   rw [Kd hc] at hd
   rcases List.mem_append.1 hd with h | h
   ·exact g2 d h
   ·simp at h;subst h;exact g3
  refine Jn.mk' ⟨c,QM rfl hc,Ite.mk (fun hs=>next sj s1 s2 hs s3) (fun hs=>?_)⟩
  have hs':sB sj c=false:=hs
  have u1:∀d,sB sj d=true→sB (upd sj c true) d=true:=fun d hd=>Q0H.2 (.inl hd)
  have u2:sB (upd sj c true) c=true:=Q0H.2 (.inr rfl)
  have hnew:∀(s':List (Int×Bool)),(∀d,sB (upd sj c true) d=true→sB s' d=true)→(∀d,sB s' d=true→sB (upd sj c true) d=true∨∃r,lk ow d=some r∧(r<k∨∀c2,c2∈rowL l r→sB s' c2=true))→(∃r,lk ow c=some r∧(r<k∨∀c2,c2∈rowL l r→sB s' c2=true)) →
    ∀d,sB s' d=true→sB sn d=true∨∃r,lk ow d=some r∧(r<k∨∀c2,c2∈rowL l r→sB s' c2=true):=fun s' g1 g2 g3 d hd=>by
   rcases g2 d hd with h | h
   ·rcases Q0H.1 h with h | h
    ·rcases s3 d h with h | ⟨r,h4,h5⟩
     ·exact .inl h
     ·exact .inr ⟨r,h4,h5.imp id (fun h c2 hc2=>g1 _ (u1 _ (h c2 hc2)))⟩
    ·subst h;exact .inr g3
   ·exact .inr h
  refine Jn.mk' (Ite.mk (fun ho=>?_) (fun ho=>?_))
  ·obtain⟨r,hr⟩:=Option.isSome_iff_exists.1 ho
   have e0:(lk ow c).getD 0=r:=by rw [hr];rfl
   have hv:=hval c r hr
   refine Ite.mk (fun hk=>?_) (fun hk=>?_)
   ·have hk':k≤r:=by
     have h:(lk ow c).getD 0≥k:=of_decide_eq_true hk
     rw [e0] at h;exact h
    show X ((lk ow c).getD 0,⟨l,ow⟩,upd sj c true,k) _
    rw [e0]
    have hm1:mu (sB (upd sj c true))<mu (sB sj):=Q2X u1 hcb hs' u2
    have hm2:=Q2V (S:=sB sn) (S':=sB sj) s1
    refine Q0f hl hX k n r ow (upd sj c true) _ (by omega) hv.1 hv.2 hval (fun ow' sn' p g1 g2 g3 g4=>?_) (fun sn' g=>?_)
    ·have hpc:∀q,q∈p→q.1≠c:=fun q hq e=>by
      have:=g4 q hq
      rw [e,u2] at this;cases this
     refine Ite.t rfl (hS (upd ow' c x) sn' ((c,x) :: p) (.step hcm hr hk' g1 hpc) (fun d=>?_) ?_ (fun q hq=>?_))
     ·rw [W0,g2]
      show _=if c=d then some x else apO p (lk ow) d
      rfl
     ·have:(lk ow' c).isSome=true:=by
       rw [g2]
       rcases KB (o:=lk ow) p c with ⟨q,h1,h2,_⟩ | ⟨_,h2⟩
       ·exact absurd h2 (hpc q h1)
       ·rw [h2,hr];rfl
      rw [Z7,if_pos this,g3]
     ·rcases List.mem_cons.1 hq with e | hq
      ·subst e
       cases hb:sB sn c with
       | false=>rfl
       | true=>rw [s1 _ hb] at hs';cases hs'
      ·cases hb:sB sn q.1 with
       | false=>rfl
       | true=>have:=g4 q hq;rw [u1 _ (s1 _ hb)] at this;cases this
    ·obtain⟨f1,f2,f3⟩:=g
     exact Ite.f rfl (next sn' (fun d hd=>f1 _ (u1 _ (s1 _ hd))) (fun d hd=>f1 _ (u1 _ (s2 d hd))) (f1 _ u2) (hnew sn' f1 f3 ⟨r,hr,.inr f2⟩))
   ·have hk':r<k:=by
     have h:¬(lk ow c).getD 0≥k:=of_decide_eq_false hk
     rw [e0] at h;omega
    exact Ite.f rfl (next (upd sj c true) (fun d hd=>u1 _ (s1 _ hd)) (fun d hd=>u1 _ (s2 d hd)) u2 (hnew _ (fun _ h=>h) (fun d hd=>.inl hd) ⟨r,hr,.inl hk'⟩))
  ·have hn:lk ow c=none:=Option.isNone_iff_eq_none.1 (by rw [←Option.not_isSome];simpa using ho)
   refine Ite.t rfl (hS (upd ow c x) (upd sj c true) [(c,x)] (.free hcm hn) (fun d=>by rw [W0];rfl) (by rw [Z7,if_neg (by rw [hn];simp)]) (fun q hq=>?_))
   simp at hq;subst hq
   cases hb:sB sn c with
   | false=>rfl
   | true=>rw [s1 _ hb] at hs';cases hs'
theorem ZI (hl:FewL l) {k x:Int} {ow:List (Int×Int)} {post:Bool×Q4→Prop} (h0:0≤x) (h1:x<l.length) (hval:∀c r,lk ow c=some r→0≤r∧r<l.length)
  (hS:∀ow' p,Aug l k (lk ow) x p→(∀c,lk ow' c=apO p (lk ow) c)→ow'.length=ow.length+1→post (true,⟨l,ow'⟩)) (hF:∀S',Stk l k (lk ow) x (fun _=>False) S'→post (false,⟨l,ow⟩)):Qz x k ⟨l,ow⟩ post:=by
 unfold Qz Qu
 intro X hX
 refine Q0f hl hX k _ x ow [] _ (Nat.lt_succ_self _) h0 h1 hval (fun ow' sn' p g1 g2 g3 _=>hS ow' p g1 g2 g3) (fun sn' g=>hF (fun c=>sB sn' c=true) ⟨fun _ h=>h.elim,g.2.1,fun c hc=>(g.2.2 c hc).imp (fun h=>?_) id⟩)
 simp [sB,lk] at h
/-! ## the greatest size -/
structure GivO (g:List Int) (i:Nat) (o:Int→Option Int):Prop where
 dom:∀c r,o c=some r→0≤r∧r<i∧g[r.toNat]?=some c∧0≤c
 giv:∀(j:Nat) c,j<i→g[j]?=some c→0≤c→o c=some (j:Int)
theorem GivO.inj {g:List Int} {i:Nat} {o:Int→Option Int} (h:GivO g i o) {c c' r:Int} (e:o c=some r) (e':o c'=some r):c=c':=by
 have h1:=(h.dom c r e).2.2.1
 have h2:=(h.dom c' r e').2.2.1
 rw [h1] at h2;exact Option.some.inj h2
theorem GivO.start {g:List Int} {o:Int→Option Int} {n:Nat} (h:GivO g g.length o) (hc:∃rs:List Int,rs.Nodup∧rs.length=n∧∀r,r∈rs↔∃c,o c=some r):KI l g g.length o n where
 dom:=fun c r e=>by
  obtain⟨d1,d2,d3,d4⟩:=h.dom c r e
  exact⟨d1,d2,fun _=>d3,fun hn=>absurd d2 hn⟩
 giv:=fun j c hj h0=>h.giv j c (List.getElem?_eq_some_iff.1 hj).1 hj h0
 inj:=fun c c' r e e'=>h.inj e e'
 shut:=⟨fun _=>False,fun r h=>h.elim,fun r h=>h.elim,fun r h1 h2=>by omega⟩
 cnt:=hc
structure Q0P (l:List (List Int)) (g:List Int) (v:Nat):Prop where
 ex:∃o,KI l g l.length o v∧∀c,o c≠none→0≤c
theorem Q0P.most {g:List Int} {v:Nat} (h:Q0P l g v) (hg:Beg l g):Most l g v:=by
 obtain⟨o,h1,h2⟩:=h.ex
 exact h1.most hg h2
theorem Q0P.tight {v:Nat} (h:Q0P l [] v) {m:List Int} (hm:Mat l m) (hs:szM m=v):Q1S l m:=by
 obtain⟨o,h1,h2⟩:=h.ex
 exact h1.tight hm hs
theorem Yj (hl:FewL l) {g:List Int} (hg:Beg l g) {post:Int→Prop} (hp:∀v:Nat,Q0P l g v→v≤24→post v):X0 l g post:=by
 have hln:=hl.len
 have hgl:=hg.len
 unfold X0
 refine Jn.mk (fun ow=>GivO g g.length (lk ow)∧∃rs:List Int,rs.Nodup∧rs.length=ow.length∧∀r,r∈rs↔∃c,lk ow c=some r) (Yk (xs:=g) (by unfold maxLen;omega) (fun t:List (Int×Int)×Int=>t.2) (fun i t=>GivO g i (lk t.1)∧∃rs:List Int,rs.Nodup∧rs.length=t.1.length∧∀r,r∈rs↔∃c,lk t.1 c=some r) rfl
  ⟨⟨fun c r e=>by simp [lk] at e,fun j c hj=>by omega⟩,[],.nil,rfl,fun r=>by simp [lk]⟩ (fun i c t hc ht hI=>?_) (fun t hI=>hI)) (fun ow how=>?_)
 ·obtain⟨⟨d,gv⟩,rs,r1,r2,r3⟩:=hI
  have hi:=(List.getElem?_eq_some_iff.1 hc).1
  rw [ht]
  refine Jn.mk (fun ow=>GivO g (i+1) (lk ow)∧∃rs:List Int,rs.Nodup∧rs.length=ow.length∧∀r,r∈rs↔∃c,lk ow c=some r) (Ite.mk (fun h=>?_) (fun h=>?_)) (fun ow how=>⟨rfl,how⟩)
  ·have h0:0≤c:=of_decide_eq_true h
   have hnc:lk t.1 c=none:=by
    cases he:lk t.1 c with
    | none=>rfl
    | some r=>
     obtain⟨d1,d2,d3,_⟩:=d c r he
     rcases hg.ok i c hc with e | ⟨_,_,e⟩
     ·omega
     ·exact absurd d3 (e r.toNat (by omega))
   refine⟨⟨fun c' r e=>?_,fun j c' hj hc' h0'=>?_⟩,(i:Int) :: rs,List.nodup_cons.2 ⟨fun hm=>?_,r1⟩,?_,fun r=>?_⟩
   ·rw [W0] at e
    split at e
    ·rename_i e2
     cases e;subst e2
     exact⟨by omega,by omega,by rw [Int.toNat_natCast];exact hc,h0⟩
    ·obtain⟨d1,d2,d3⟩:=d c' r e
     exact⟨d1,by omega,d3⟩
   ·rw [W0]
    by_cases e:j=i
    ·subst e;rw [hc] at hc';cases hc';rw [if_pos rfl]
    ·have:=gv j c' (by omega) hc' h0'
     rw [if_neg (fun e2=>by subst e2;rw [hnc] at this;cases this),this]
   ·obtain⟨c',hc'⟩:=(r3 _).1 hm
    have:=(d c' _ hc').2.1;omega
   ·rw [Z7,if_neg (by rw [hnc];simp),List.length_cons,r2]
   ·rw [List.mem_cons,r3]
    constructor
    ·rintro (e | ⟨c',hc'⟩)
     ·exact⟨c,by rw [W0,if_pos rfl,e]⟩
     ·exact⟨c',by rw [W0,if_neg (fun e2=>by subst e2;rw [hnc] at hc';cases hc')];exact hc'⟩
    ·rintro⟨c',hc'⟩
     rw [W0] at hc'
     split at hc'
     ·exact .inl (Option.some.inj hc').symm
     ·exact .inr ⟨c',hc'⟩
  ·have h0:¬0≤c:=of_decide_eq_false h
   refine⟨⟨fun c' r e=>?_,fun j c' hj hc' h0'=>?_⟩,rs,r1,r2,r3⟩
   ·obtain⟨d1,d2,d3⟩:=d c' r e
    exact⟨d1,by omega,d3⟩
   ·by_cases e:j=i
    ·subst e;rw [hc] at hc';cases hc';exact absurd h0' h0
    ·exact gv j c' (by omega) hc' h0'
 ·obtain⟨hG,hC⟩:=how
  have hK:KI l g g.length (lk ow) ow.length:=hG.start hC
  refine Jn.mk (fun t=>∃ow',t=(l,ow')∧KI l g l.length (lk ow') ow'.length∧∀c,lk ow' c≠none→0≤c) (Loop.mk (fun t:List (List Int)×List (Int×Int)×Int=>∃(i:Nat) (ow':List (Int×Int)),t=(l,ow',(i:Int))∧g.length≤i∧i≤l.length∧KI l g i (lk ow') ow'.length∧∀c,lk ow' c≠none→0≤c) (fun t=>l.length-t.2.2.toNat) ⟨g.length,ow,rfl,Nat.le_refl _,hgl,hK,fun c hc=>?_⟩ ?_) (fun t ht=>?_)
  ·cases he:lk ow c with
   | none=>exact absurd he hc
   | some r=>exact (hG.dom c r he).2.2.2
  ·rintro t ⟨i,ow',e,h1,h2,hI,hn⟩
   subst e
   refine Ite.mk (fun hlt=>?_) (fun hnlt=>?_)
   ·have hlt':i<l.length:=by have h:(i:Int)<l.length:=of_decide_eq_true hlt;omega
    have ew:w64 ((i:Int)+1)=((i+1:Nat):Int):=by rw [Qn (by omega) (by omega)];simp
    refine ZI hl (by show (0:Int)≤(i:Int);omega) (by show (i:Int)<(l.length:Int);omega) (fun c r e=>?_) (fun ow2 p g1 g2 g3=>?_) (fun S' g1=>?_)
    ·have:=hI.dom c r e;omega
    ·refine⟨⟨i+1,ow2,by rw [←ew],by omega,by omega,?_,fun c hc=>?_⟩,by show l.length-(w64 ((i:Int)+1)).toNat<l.length-((i:Int)).toNat;rw [ew];omega⟩
     ·have:=hI.grow h1 g1
      rw [g3]
      have e:lk ow2=apO p (lk ow'):=funext g2
      rw [e];exact this
     ·rw [g2] at hc
      rcases KB (o:=lk ow') p c with ⟨q,q1,q2,_⟩ | ⟨_,q2⟩
      ·have:=hl.bd (g1.row q q1);omega
      ·rw [q2] at hc;exact hn c hc
    ·refine⟨⟨i+1,ow',by rw [←ew],by omega,by omega,hI.stuck h1 g1,hn⟩,by show l.length-(w64 ((i:Int)+1)).toNat<l.length-((i:Int)).toNat;rw [ew];omega⟩
   ·have ei:i=l.length:=by have h:¬(i:Int)<l.length:=of_decide_eq_false hnlt;omega
    subst ei
    exact⟨ow',rfl,hI,hn⟩
  ·obtain⟨ow',e,hI,hn⟩:=ht
   subst e
   refine hp ow'.length ⟨⟨_,hI,hn⟩⟩ ?_
   obtain⟨rs,r1,r2,r3⟩:=hI.cnt
   have hsub:=Xy (a:=rs) (b:=(List.range l.length).map fun (j:Nat)=>(j:Int)) r1 (fun r hr=>by
    obtain⟨c,hc⟩:=(r3 r).1 hr
    obtain⟨d1,d2,_⟩:=hI.dom c r hc
    exact List.mem_map.2 ⟨r.toNat,List.mem_range.2 (by omega),by omega⟩)
   simp at hsub;omega
end
end Go.Taq
/- The mathematics, part DC: the reference's search, and its greatest size (chapter 34). -/
set_option linter.unusedVariables false
set_option linter.unusedSimpArgs false
namespace Go.Taq
open Go
section
end
end Go.Taq
/- The mathematics, part DD: the first of the greatest matchings, and the turns, of both (chapter 34). -/
set_option linter.unusedVariables false
set_option linter.unusedSimpArgs false
namespace Go.Taq
open Go
def ZW (l:List (List Int)) (w:Nat) (p:List Int) (row:List Int) (c:Int):Prop:=
 (c=-1∧∀d,d∈row→d∉p→¬Most l (p++[d]) w)∨(c∈row∧c∉p∧Most l (p++[c]) w∧∀d,d∈row→d∉p→Most l (p++[d]) w→c≤d)
theorem ZW.uniq {l:List (List Int)} {w:Nat} {p row:List Int} {c d:Int} (h:ZW l w p row c) (h':ZW l w p row d):c=d:=by
 rcases h with ⟨e,h1⟩ | ⟨h1,h2,h3,h4⟩ <;> rcases h' with ⟨e',h1'⟩ | ⟨h1',h2',h3',h4'⟩
 ·rw [e,e']
 ·exact absurd h3' (h1 d h1' h2')
 ·exact absurd h3 (h1' c h1 h2)
 ·have:=h4 d h1' h2' h3';have:=h4' c h1 h2 h3;omega
structure MR (l:List (List Int)) (w:Nat) (m:List Int):Prop where
 most:Most l [] w
 len:m.length=l.length
 best:∀(i:Nat) c,m[i]?=some c→ZW l w (m.take i) (rowL l i) c
theorem MR.uniq {l:List (List Int)} {w w':Nat} {m m':List Int} (h:MR l w m) (h':MR l w' m'):m=m':=by
 have ew:=h.most.uniq h'.most
 subst ew
 have key:∀i,i≤l.length→m.take i=m'.take i:=fun i=>by
  induction i with
  | zero=>intro _;simp
  | succ i ih=>
   intro hi
   have ih:=ih (by omega)
   have h1:=List.getElem?_eq_getElem (show i<m.length by rw [h.len];omega)
   have h2:=List.getElem?_eq_getElem (show i<m'.length by rw [h'.len];omega)
   have b1:=h.best i _ h1
   have b2:=h'.best i _ h2
   rw [ih] at b1
   rw [Kd h1,Kd h2,ih,b1.uniq b2]
 have:=key l.length (Nat.le_refl _)
 rwa [←h.len,List.take_length,h.len,←h'.len,List.take_length] at this
structure Pre (l:List (List Int)) (w:Nat) (i:Nat) (p:List Int):Prop where
 len:p.length=i
 beg:Beg l p
 ext:Most l p w
 best:∀(j:Nat) c,p[j]?=some c→ZW l w (p.take j) (rowL l j) c
section
variable {l:List (List Int)} {w:Nat}
theorem Beg.snoc {p:List Int} {c:Int} (hp:Beg l p) (hl:p.length<l.length) (hc:c=-1∨(0≤c∧c∈rowL l p.length∧c∉p)):Beg l (p++[c]) where
 len:=by simp;omega
 ok:=fun i d hd=>by
  by_cases hi:i<p.length
  ·rw [List.getElem?_append_left hi] at hd
   rcases hp.ok i d hd with e | ⟨h1,h2,h3⟩
   ·exact .inl e
   ·exact .inr ⟨h1,h2,fun j hj=>by rw [List.getElem?_append_left (by omega)];exact h3 j hj⟩
  ·have hlt:=(List.getElem?_eq_some_iff.1 hd).1
   simp at hlt
   have ei:i=p.length:=by omega
   subst ei
   rw [List.getElem?_append_right (Nat.le_refl _)] at hd
   simp at hd;subst hd
   rcases hc with e | ⟨h1,h2,h3⟩
   ·exact .inl e
   ·exact .inr ⟨h1,h2,fun j hj he=>by
     rw [List.getElem?_append_left hj] at he
     exact h3 (List.mem_of_getElem? he)⟩
theorem Pre.snoc {i:Nat} {p:List Int} {c:Int} (hl:FewL l) (h:Pre l w i p) (hi:i<l.length) (hb:ZW l w p (rowL l i) c):Pre l w (i+1) (p++[c]):=by
 have hpl:=h.len
 have hbeg:Beg l (p++[c]):=h.beg.snoc (by omega) (by
  rcases hb with ⟨e,_⟩ | ⟨h1,h2,_⟩
  ·exact .inl e
  ·exact .inr ⟨(hl.bd h1).1,by rw [hpl];exact h1,h2⟩)
 have htk:∀{m:List Int} {c:Int},m.take p.length=p→m[p.length]?=some c→m.take (p++[c]).length=p++[c]:=fun {m c} h1 h2=>by
  rw [List.length_append,List.length_singleton,Kd h2,h1]
 have hmost:Most l (p++[c]) w:=by
  rcases hb with ⟨e,h1⟩ | ⟨_,_,h3,_⟩
  ·obtain⟨m,m1,m2,m3⟩:=h.ext.is
   have hlt:p.length<m.length:=by rw [m1.len];omega
   have hx:=List.getElem?_eq_getElem hlt
   have hle:∀d,∀m',Mat l m'→m'.take (p++[d]).length=p++[d]→szM m'≤w:=fun d m' hm' hd=>h.ext.le m' hm' (by
    have:=congrArg (List.take p.length) hd
    rw [List.take_take,List.length_append,List.length_singleton,Nat.min_eq_left (by omega),List.take_left] at this
    exact this)
   have hm1:m[p.length]'hlt=-1:=by
    rcases m1.ok p.length _ hx with e | ⟨e1,e2,e3⟩
    ·exact e
    ·exfalso
     refine h1 _ (by rw [←hpl];exact e2) (fun hin=>?_) ⟨⟨m,m1,htk m2 hx,m3⟩,hle _⟩
     obtain⟨j,hj⟩:=List.mem_iff_getElem?.1 hin
     have hjl:=(List.getElem?_eq_some_iff.1 hj).1
     have ej:p[j]?=m[j]?:=by
      conv=>lhs;rw [←m2]
      exact List.getElem?_take_of_lt hjl
     exact e3 j hjl (ej▸hj)
   rw [hm1] at hx
   rw [e]
   exact⟨⟨m,m1,htk m2 hx,m3⟩,hle _⟩
  ·exact h3
 refine⟨by simp;omega,hbeg,hmost,fun j d hd=>?_⟩
 by_cases hj:j<p.length
 ·rw [List.getElem?_append_left hj] at hd
  rw [List.take_append_of_le_length (by omega)]
  exact h.best j d hd
 ·have hlt:=(List.getElem?_eq_some_iff.1 hd).1
  simp at hlt
  have ej:j=p.length:=by omega
  subst ej
  rw [List.getElem?_append_right (Nat.le_refl _)] at hd
  simp at hd;subst hd
  rw [List.take_left,hpl];exact hb
theorem Pre.start (h:Most l [] w):Pre l w 0 []:=⟨rfl,⟨Nat.zero_le _,fun i c h=>by simp at h⟩,h,fun j c h=>by simp at h⟩
theorem Pre.done {m:List Int} (h:Pre l w l.length m) (h0:Most l [] w):MR l w m:=⟨h0,h.len,h.best⟩
theorem Pre.mat {m:List Int} (h:Pre l w l.length m):Mat l m∧szM m=w:=by
 have hm:Mat l m:=⟨h.len,h.beg.ok⟩
 refine⟨hm,?_⟩
 obtain⟨m',m1,m2,m3⟩:=h.ext.is
 have e:m'=m:=by rw [←m2,h.len,←m1.len,List.take_length]
 rw [←e];exact m3
theorem Q0Y:Beg l []:=⟨Nat.zero_le _,fun i c h=>by simp at h⟩
theorem Q1p {p:List Int} {d:Int} {v:Nat} (hv:Most l (p++[d]) v):((v:Int) == (w:Int))=true↔Most l (p++[d]) w:=by
 rw [beq_iff_eq]
 constructor
 ·intro e
  have:v=w:=by omega
  rw [←this];exact hv
 ·intro h;rw [hv.uniq h]
theorem Pre.try {i:Nat} {p:List Int} {d:Int} (hl:FewL l) (h:Pre l w i p) (hi:i<l.length) (hd:d∈rowL l i) (hn:d∉p):Beg l (p++[d]):=
 h.beg.snoc (by rw [h.len];exact hi) (.inr ⟨(hl.bd hd).1,by rw [h.len];exact hd,hn⟩)
theorem ZE {xs:List Int} (hl:xs.length≤1000) {K:List Int→Prop} (hK:∀m:List Int,m.length≤xs.length→m.Pairwise (· < ·)→(∀a,a∈m↔a∈xs)→K m):
  QC xs (fun y=>Q6 y (fun z=>V_slices_Compact_int_int__o0 z K)):=by
 unfold QC Q6 Qa Q5
 refine⟨by omega,?_⟩
 refine Each.inv xs (fun i t=>t=xs.take i) rfl (fun i x t hx ht Y hY=>?_) (fun t ht=>?_)
 ·have:=(List.getElem?_eq_some_iff.1 hx).1
  refine⟨by rw [ht];simp;omega,hY _ ?_⟩
  rw [ht,Kd hx]
 rw [List.take_length] at ht;subst ht
 unfold QI
 refine⟨by omega,?_⟩
 have hperm:=List.mergeSort_perm t (fun x y=>decide (x≤y))
 have hsort:(t.mergeSort fun x y=>decide (x≤y)).Pairwise (fun x y=>x<y∨x=y):=by
  have:=List.pairwise_mergeSort (le:=fun x y:Int=>decide (x≤y)) (fun a b c h1 h2=>by simp at *;omega) (fun a b=>by simp;omega) t
  exact this.imp (fun h=>by simp at h;omega)
 have hlen:=hperm.length_eq
 generalize t.mergeSort (fun x y=>decide (x≤y))=m at *
 refine S_CompactI (by omega) (hK _ (by have:=Q0Q (xs:=m) m.length;omega) (Q1A (lt:=(· < ·)) (fun x y z h1 h2=>by omega) hsort m.length (Nat.le_refl _)) (fun a=>?_))
 rw [ZN m.length (Nat.le_refl _),List.take_length,hperm.mem_iff]
theorem G5 (hl:FewL l) {post:List Int→Prop} (hp:∀w m,MR l w m→Mat l m→szM m=w→(∀m',Mat l m'→szM m'=w→Q1S l m')→post m):KC l post:=by
 have hln:=hl.len
 unfold KC
 refine Yj hl Q0Y (fun w hw hw24=>?_)
 have h0:=hw.most Q0Y
 refine Jn.mk (fun m=>Pre l w l.length m) (ZP (xs:=l) (by unfold maxLen;omega) (fun t:List Int×Int=>t.2) (fun i t=>Pre l w i t.1) rfl (Pre.start h0) (fun i row t hrow ht hI=>?_) (fun t hI=>hI)) (fun m hm=>hp w m (hm.done h0) hm.mat.1 hm.mat.2 (fun m' h1 h2=>hw.tight h1 h2))
 have hi:=(List.getElem?_eq_some_iff.1 hrow).1
 have er:rowL l (i:Int)=row:=by unfold rowL;rw [Int.toNat_natCast,List.getD_eq_getElem?_getD,hrow];rfl
 have hrl:=hl.rlen (i:Int)
 rw [er] at hrl
 have hpl:=hI.len
 refine Jn.mk' ⟨row,by rw [ht];exact QM rfl hrow,ZE (by omega) (fun s hs1 hs2 hs3=>?_)⟩
 refine Jn.mk (fun c=>ZW l w t.1 row c) (Loop.mk (fun k:Int=>∃j:Nat,k=(j:Int)∧j≤s.length∧∀d,d∈s.take j→d∉t.1→¬Most l (t.1++[d]) w) (fun k=>s.length-k.toNat) ⟨0,rfl,by omega,fun d hd=>by simp at hd⟩ ?_) (fun c hc=>⟨by simp;omega,by rw [ht],?_⟩)
 ·rintro k ⟨j,e,hj,hn⟩
  subst e
  refine Ite.mk (fun h=>?_) (fun h=>?_)
  ·have hlt:j<s.length:=by have h':(j:Int)<s.length:=of_decide_eq_true h;omega
   have hd:=List.getElem?_eq_getElem hlt
   generalize s[j]=d at hd
   have hdr:d∈row:=(hs3 d).1 (List.mem_of_getElem? hd)
   have ew:w64 ((j:Int)+1)=((j+1:Nat):Int):=by rw [Qn (by omega) (by omega)];simp
   refine⟨d,QM rfl hd,Jn.mk (fun b=>b=true↔(d∉t.1∧Most l (t.1++[d]) w)) (KZ (by unfold maxLen;omega) (Ite.mk (fun hc=>?_) (fun hc=>Q0K (by omega) ⟨by simp;omega,?_⟩))) (fun b hb=>Ite.mk (fun h2=>?_) (fun h2=>?_))⟩
   ·have:d∈t.1:=List.contains_iff_mem.1 hc
    exact⟨fun h=>(by cases h),fun h=>absurd this h.1⟩
   ·have hdn:d∉t.1:=fun h=>by rw [List.contains_iff_mem.2 h] at hc;cases hc
    have hbg:=hI.try hl hi (by rw [er];exact hdr) hdn
    refine Yj hl hbg (fun v hv _=>?_)
    have:=Q1p (w:=w) (hv.most hbg)
    exact⟨fun h=>⟨hdn,this.1 h⟩,fun h=>this.2 h.2⟩
   ·obtain⟨g1,g2⟩:=hb.1 h2
    refine .inr ⟨hdr,g1,g2,fun d' hd' hn' hm'=>?_⟩
    obtain⟨j',hj'⟩:=List.mem_iff_getElem?.1 ((hs3 d').2 hd')
    rcases Nat.lt_or_ge j' j with hlt' | hge
    ·exact absurd hm' (hn d' (List.mem_of_getElem? (by rw [List.getElem?_take_of_lt hlt'];exact hj')) hn')
    ·by_cases e:j'=j
     ·subst e;rw [hd] at hj';cases hj';exact Int.le_refl _
     ·have h1:=(List.getElem?_eq_some_iff.1 hd)
      have h3:=(List.getElem?_eq_some_iff.1 hj')
      obtain⟨a1,b1⟩:=h1
      obtain⟨a2,b2⟩:=h3
      have:=List.pairwise_iff_getElem.1 hs2 j j' a1 a2 (by omega)
      rw [b1,b2] at this;omega
   ·refine⟨⟨j+1,ew,by omega,fun d' hd' hn' hm'=>?_⟩,by show s.length-(w64 ((j:Int)+1)).toNat<s.length-((j:Int)).toNat;rw [ew];omega⟩
    rw [Kd hd] at hd'
    rcases List.mem_append.1 hd' with h3 | h3
    ·exact hn d' h3 hn' hm'
    ·simp at h3;subst h3
     rw [hb.2 ⟨hn',hm'⟩] at h2;cases h2
  ·have hje:j=s.length:=by have h':¬(j:Int)<s.length:=of_decide_eq_false h;omega
   rw [hje,List.take_length] at hn
   exact .inl ⟨rfl,fun d hd=>hn d ((hs3 d).2 hd)⟩
 ·exact hI.snoc hl hi (by rw [er];exact hc)
end
end Go.Taq
/- The mathematics, part DE: turns; matchings as the statements tell them; the examples (chapter 34). -/
set_option linter.unusedVariables false
set_option linter.unusedSimpArgs false
namespace Go.Taq
open Go
def offL (l:List (List Int)) (m:List Int):List (List Int):=(List.range l.length).map fun i=>if 0≤m.getD i (-1) then [] else l.getD i []
def neL (l:List (List Int)):Nat:=l.countP fun r=>decide (r≠[])
inductive TR:List (List Int)→List (List Int)→Prop where
 | stop {l:List (List Int)} {m:List Int} (h:MR l 0 m):TR l []
 | turn {l:List (List Int)} {w:Nat} {m:List Int} {out:List (List Int)} (h:MR l w m) (hm:Mat l m) (hs:szM m=w) (hw:0<w) (ht:TR (offL l m) out):TR l (m :: out)
section
variable {l:List (List Int)} {m:List Int} {w:Nat}
theorem YU:(offL l m).length=l.length:=by simp [offL]
theorem Q1k {i:Nat} (h:i<l.length):(offL l m)[i]?=some (if 0≤m.getD i (-1) then [] else l.getD i []):=by
 unfold offL
 rw [List.getElem?_map,List.getElem?_range h];rfl
theorem Q1h (hl:FewL l):FewL (offL l m):=by
 have hmem:∀r,r∈offL l m→r=[]∨r∈l:=fun r hr=>by
  unfold offL at hr
  obtain⟨i,hi,e⟩:=List.mem_map.1 hr
  rw [List.mem_range] at hi
  split at e
  ·exact .inl e.symm
  ·right
   rw [←e,List.getD_eq_getElem?_getD,List.getElem?_eq_getElem hi]
   exact List.getElem_mem hi
 refine⟨by rw [YU];exact hl.len,fun r hr=>?_,fun r hr c hc=>?_⟩
 ·rcases hmem r hr with e | h
  ·rw [e];simp
  ·exact hl.row r h
 ·rcases hmem r hr with e | h
  ·rw [e] at hc;cases hc
  ·exact hl.num r h c hc
theorem ZK {m:List Int}:m.take ([]:List Int).length=[]:=by simp
theorem Q1Y {i:Nat} {c:Int} (hi:i<l.length) (hc:c∈rowL l i) (h0:0≤c):∃m',Mat l m'∧szM m'=1:=by
 refine⟨(List.replicate l.length (-1)).set i c,⟨by simp,fun j d hd=>?_⟩,?_⟩
 ·rw [List.getElem?_set] at hd
  split at hd
  ·rename_i e
   subst e
   split at hd
   ·cases hd
    refine .inr ⟨h0,hc,fun k hk he=>?_⟩
    rw [List.getElem?_set_ne (by omega),List.getElem?_replicate] at he
    split at he <;> simp at he;omega
   ·cases hd
  ·rw [List.getElem?_replicate] at hd
   split at hd <;> simp at hd
   exact .inl hd.symm
 ·rw [←W8]
  have:(hasM ((List.replicate l.length (-1)).set i c)).length=[(i:Int)].length:=by
   refine Q08 (Gj _) (by simp) fun r=>?_
   rw [KR,List.mem_singleton]
   constructor
   ·rintro⟨j,d,e,e2,e3⟩
    rw [List.getElem?_set] at e2
    split at e2
    ·rename_i e4;omega
    ·rw [List.getElem?_replicate] at e2
     split at e2 <;> simp at e2;omega
   ·intro e
    exact⟨i,c,e,by rw [List.getElem?_set_self (by simpa using hi)],h0⟩
  rw [this];rfl
theorem MR.empty (hl:FewL l) (h:MR l 0 m) {i:Nat} (hi:i<l.length):rowL l i=[]:=by
 cases he:rowL l i with
 | nil=>rfl
 | cons c r=>
  have hc:c∈rowL l i:=by rw [he];exact List.mem_cons_self ..
  obtain⟨m',h1,h2⟩:=Q1Y hi hc (hl.bd hc).1
  have:=h.most.le m' h1 ZK
  omega
theorem TR.uniq {a b:List (List Int)} (h:TR l a):TR l b→a=b:=by
 induction h generalizing b with
 | stop h=>
  intro h'
  cases h' with
  | stop _=>rfl
  | turn h2 _ _ hw _=>have:=h.most.uniq h2.most;omega
 | turn h hm hs hw ht ih=>
  intro h'
  cases h' with
  | stop h2=>have:=h.most.uniq h2.most;omega
  | turn h2 _ _ hw2 ht2=>
   have e:=h.uniq h2
   subst e
   rw [ih ht2]
theorem Q2f (hs:0<szM m):∃(i:Nat) (c:Int),m[i]?=some c∧0≤c:=by
 rw [←W8] at hs
 obtain⟨r,hr⟩:=List.exists_mem_of_length_pos hs
 obtain⟨j,c,_,h1,h2⟩:=KR.1 hr
 exact⟨j,c,h1,h2⟩
theorem Q25 (hl:FewL l) (hm:Mat l m) (hs:0<szM m):neL (offL l m)<neL l:=by
 obtain⟨i,c,hc,h0⟩:=Q2f hs
 have hi:i<l.length:=by rw [←hm.len];exact (List.getElem?_eq_some_iff.1 hc).1
 have hrow:c∈rowL l i:=by
  rcases hm.ok i c hc with e | e
  ·omega
  ·exact e.2.1
 unfold neL offL
 rw [List.countP_map]
 have e2:l=(List.range l.length).map fun j=>l.getD j []:=by
  refine List.ext_getElem? fun j=>?_
  by_cases hj:j<l.length
  ·rw [List.getElem?_map,List.getElem?_range hj,List.getElem?_eq_getElem hj]
   simp [List.getD_eq_getElem?_getD,List.getElem?_eq_getElem hj]
  ·rw [List.getElem?_eq_none (by omega),List.getElem?_eq_none (by simp;omega)]
 conv=>rhs;rw [e2,List.countP_map]
 have key:∀xs:List Nat,i∈xs→xs.countP ((fun r=>decide (r≠[])) ∘ fun i=>if 0≤m.getD i (-1) then [] else l.getD i [])<xs.countP ((fun r=>decide (r≠[])) ∘ fun j=>l.getD j []):=fun xs hx=>by
  induction xs with
  | nil=>cases hx
  | cons b xs ih=>
   have hm1:∀b,((fun r=>decide (r≠[])) ∘ fun i=>if 0≤m.getD i (-1) then ([]:List Int) else l.getD i []) b=true→((fun r=>decide (r≠[])) ∘ fun j=>l.getD j []) b=true:=fun b hb=>by
    simp only [Function.comp,decide_eq_true_eq] at hb ⊢
    split at hb
    ·exact absurd rfl hb
    ·exact hb
   have hm2:=List.countP_mono_left (l:=xs) (fun b _ hb=>hm1 b hb)
   rw [List.countP_cons,List.countP_cons]
   by_cases e:b=i
   ·subst e
    have h1:((fun r=>decide (r≠[])) ∘ fun i=>if 0≤m.getD i (-1) then ([]:List Int) else l.getD i []) b=false:=by
     exact decide_eq_false (fun h=>h (if_pos (by rw [List.getD_eq_getElem?_getD,hc];exact h0)))
    have h2:((fun r=>decide (r≠[])) ∘ fun j=>l.getD j []) b=true:=by
     simp only [Function.comp,decide_eq_true_eq]
     intro e
     unfold rowL at hrow
     rw [Int.toNat_natCast,e] at hrow;cases hrow
    rw [h1,h2]
    simp only [Bool.false_eq_true,if_false,if_true]
    omega
   ·have:=ih ((List.mem_cons.1 hx).resolve_left fun e'=>e e'.symm)
    have:(if ((fun r=>decide (r≠[])) ∘ fun i=>if 0≤m.getD i (-1) then ([]:List Int) else l.getD i []) b=true then 1 else 0)≤(if ((fun r=>decide (r≠[])) ∘ fun j=>l.getD j []) b=true then 1 else 0):=by
     split
     ·rename_i h;rw [if_pos (hm1 b h)];omega
     ·omega
    omega
 exact key _ (List.mem_range.2 hi)
theorem Q2y:neL l≤l.length:=List.countP_le_length
theorem Q2x:(m.any fun c=>decide (c≥0))=decide (0<szM m):=by
 unfold szM
 rw [Bool.eq_iff_iff,List.any_eq_true,decide_eq_true_eq,List.countP_pos_iff]
theorem Q04 (hm:m.length≤1000) {post:Bool→Prop} (hp:post (decide (0<szM m))):Q8 m post:=by
 unfold Q8 Qf
 refine Q0O (by unfold maxLen;omega) (fun c:Int=>decide (c≥0)) (T:=fun x q=>KH x q) (fun x _ q hq=>by unfold KH;exact hq) ?_
 rw [Zf,Q2x];exact hp
theorem Q1v (hl:l.length≤1000) (hm:m.length=l.length) {K:List (List Int)→Prop} (hK:K (offL l m)):
  Jn (fun (J:(List (List Int))→Prop)=>Loop (fun (s:List (List Int)×Int) Y=>Ite (decide (s.2<(m.length:Int))) (∃x,idx m s.2=some x∧Jn (fun (J2:(List (List Int))→Prop)=>Ite (decide (x≥0)) (∃y,idx s.1 s.2=some y∧J2 (s.1.set (Int.toNat s.2) [])) (J2 s.1)) (fun (z:List (List Int))=>Y (z,w64 (s.2+1)))) (J s.1)) (l,0)) K:=by
 refine Jn.mk (fun a=>a=offL l m) (Yk (xs:=m) (by unfold maxLen;omega) (fun t:List (List Int)×Int=>t.2) (fun i t=>t.1.length=l.length∧∀j,t.1[j]?=if j<i∧j<l.length∧0≤m.getD j (-1) then some [] else l[j]?) rfl ⟨rfl,fun j=>by rw [if_neg (by omega)]⟩ (fun i c t hc ht hI=>?_) (fun t hI=>?_)) (fun a ha=>by rw [ha];exact hK)
 ·have hi:=(List.getElem?_eq_some_iff.1 hc).1
  obtain⟨h1,h2⟩:=hI
  have hcd:m.getD i (-1)=c:=by rw [List.getD_eq_getElem?_getD,hc];rfl
  rw [ht]
  refine Jn.mk (fun a:List (List Int)=>a.length=l.length∧∀j,a[j]?=if j<i+1∧j<l.length∧0≤m.getD j (-1) then some [] else l[j]?) (Ite.mk (fun h=>?_) (fun h=>?_)) (fun a ha=>⟨rfl,ha⟩)
  ·have h0:0≤c:=of_decide_eq_true h
   have hy:=List.getElem?_eq_getElem (show i<t.1.length by omega)
   refine⟨_,QM rfl hy,by rw [List.length_set];exact h1,fun j=>?_⟩
   rw [Int.toNat_natCast,List.getElem?_set]
   by_cases e:i=j
   ·subst e;rw [if_pos rfl,if_pos (by omega),if_pos ⟨by omega,by omega,by rw [hcd];exact h0⟩]
   ·rw [if_neg e,h2]
    by_cases hj:j<i
    ·simp [hj,show j<i+1 by omega]
    ·simp [hj,show ¬j<i+1 by omega]
  ·have h0:¬0≤c:=of_decide_eq_false h
   refine⟨h1,fun j=>?_⟩
   rw [h2]
   by_cases e:j=i
   ·subst e;rw [if_neg (by omega),if_neg (by rw [hcd];omega)]
   ·by_cases hj:j<i
    ·simp [hj,show j<i+1 by omega]
    ·simp [hj,show ¬j<i+1 by omega]
 ·obtain⟨h1,h2⟩:=hI
  refine List.ext_getElem? fun j=>?_
  rw [h2]
  by_cases hj:j<l.length
  ·rw [Q1k hj]
   by_cases h0:0≤m.getD j (-1)
   ·rw [if_pos ⟨by omega,hj,h0⟩,if_pos h0]
   ·rw [if_neg (fun h=>h0 h.2.2),if_neg h0,List.getD_eq_getElem?_getD,List.getElem?_eq_getElem hj];rfl
  ·rw [if_neg (by omega),List.getElem?_eq_none (by omega),List.getElem?_eq_none (by rw [YU];omega)]
theorem Q0j {α:Type} {a:List α} {x:α}:(a++[x]).set a.length x=a++[x]:=by
 rw [List.set_append_right _ _ (Nat.le_refl _)];simp
theorem Q0w {xs:List (List Int)} (hl:xs.length≤1000) {post:List (List Int)→Prop} (hp:post xs):Qs xs post:=by
 unfold Qs;exact S_clone (by omega) hp
theorem WD (hl:FewL l) {post:List (List Int)→Prop} (hp:∀out,TR l out→post out):KP l post:=by
 have hln:=hl.len
 unfold KP
 refine Q0w (by omega) ?_
 refine Loop.mk (fun t:List (List Int)×List (List Int)=>FewL t.1∧t.1.length=l.length∧t.2.length+neL t.1≤12∧∀rest,TR t.1 rest→TR l (t.2++rest)) (fun t=>neL t.1) ⟨hl,rfl,by have:=Q2y (l:=l);simp;omega,fun rest h=>h⟩ ?_
 rintro⟨left,out⟩ ⟨h1,h2,h3,h4⟩
 simp only at h1 h2 h3 h4
 refine Jn.mk' (G5 h1 (fun w m hM hm hs _=>?_))
 have hml:m.length=left.length:=hm.len
 refine Q04 (by omega) (Ite.mk (fun h=>?_) (fun h=>?_))
 ·have h0:¬0<szM m:=by intro h';rw [decide_eq_true h'] at h;cases h
  have hw0:w=0:=by omega
  subst hw0
  have:=h4 [] (.stop hM)
  rw [List.append_nil] at this
  exact hp out this
 ·have h0:0<szM m:=by
   cases hd:decide (0<szM m) with
   | true=>exact of_decide_eq_true hd
   | false=>rw [hd] at h;cases h
  have hlt:=Q25 h1 hm h0
  refine Q1v (by omega) hml ⟨by show out.length+1≤_;omega,⟨Q1h h1,by show (offL left m).length=_;rw [YU,h2],?_,fun rest hr=>?_⟩,?_⟩
  ·show ((out++[m]).set out.length m).length+neL (offL left m)≤12
   rw [Q0j];simp;omega
  ·show TR l ((out++[m]).set out.length m++rest)
   rw [Q0j,List.append_assoc]
   exact h4 (m :: rest) (.turn hM hm hs (by omega) hr)
  ·exact hlt
end
end Go.Taq
/- The mathematics, part DF: matchings told by the statements; the examples; DockTurns (chapter 34). -/
set_option linter.unusedVariables false
set_option linter.unusedSimpArgs false
namespace Go.Taq
open Go
/-! ## small lists, by trying all -/
def allM:List (List Int)→List (List Int)
 | []=>[[]]
 | r :: l=>((-1) :: r).flatMap fun c=>(allM l).map fun m=>c :: m
def matB (l:List (List Int)) (m:List Int):Bool:=m.length == l.length&&(List.range m.length).all fun i=>m.getD i (-1) == -1||(decide (0≤m.getD i (-1))&&(l.getD i []).contains (m.getD i (-1))&&(List.range i).all fun j=>m.getD j (-1) != m.getD i (-1))
def mxO:List Nat→Option Nat
 | []=>none
 | x :: xs=>match mxO xs with | none=>some x | some y=>some (if x≤y then y else x)
def Q0D (l:List (List Int)) (g:List Int):Option Nat:=mxO (((allM l).filter fun m=>matB l m&&m.take g.length == g).map szM)
def Q2u (l:List (List Int)) (w:Nat) (p row:List Int) (c:Int):Bool:=
 (c == -1&&row.all fun d=>p.contains d||Q0D l (p++[d]) != some w)||(row.contains c&&!p.contains c&&Q0D l (p++[c]) == some w&&row.all fun d=>p.contains d||Q0D l (p++[d]) != some w||decide (c≤d))
def mrB (l:List (List Int)) (w:Nat) (m:List Int):Bool:=Q0D l [] == some w&&m.length == l.length&&(List.range l.length).all fun i=>Q2u l w (m.take i) (l.getD i []) (m.getD i (-1))
theorem Q07:∀{xs:List Nat} {v:Nat},mxO xs=some v→v∈xs∧∀x,x∈xs→x≤v
 | [],v,h=>by simp [mxO] at h
 | x :: xs,v,h=>by
  unfold mxO at h
  cases e:mxO xs with
  | none=>
   rw [e] at h
   have hv:=Option.some.inj h
   have hn:xs=[]:=by
    cases xs with
    | nil=>rfl
    | cons y ys=>unfold mxO at e;split at e <;> cases e
   subst hn;subst hv
   simp
  | some y=>
   rw [e] at h
   have hv:=Option.some.inj h
   obtain⟨h1,h2⟩:=Q07 e
   split at hv
   ·subst hv
    exact⟨List.mem_cons_of_mem _ h1,fun z hz=>(List.mem_cons.1 hz).elim (fun e=>by omega) (h2 z)⟩
   ·subst hv
    exact⟨List.mem_cons_self ..,fun z hz=>(List.mem_cons.1 hz).elim (fun e=>by omega) (fun hz=>by have:=h2 z hz;omega)⟩
theorem Q26:∀{xs:List Nat} {x:Nat},x∈xs→∃v,mxO xs=some v
 | [],x,h=>by cases h
 | x :: xs,_,_=>by
  unfold mxO
  cases mxO xs with
  | none=>exact⟨_,rfl⟩
  | some y=>exact⟨_,rfl⟩
section
variable {l:List (List Int)} {m:List Int} {w:Nat}
theorem Ze {m:List Int} {i:Nat} (h:i<m.length):m[i]?=some (m.getD i (-1)):=by rw [List.getD_eq_getElem?_getD,List.getElem?_eq_getElem h];rfl
theorem Z5 {l:List (List Int)} {i:Nat}:rowL l (i:Int)=l.getD i []:=by unfold rowL;rw [Int.toNat_natCast]
theorem GY:matB l m=true↔Mat l m:=by
 unfold matB
 simp only [Bool.and_eq_true,beq_iff_eq,List.all_eq_true,List.mem_range,Bool.or_eq_true,decide_eq_true_eq,List.contains_iff_mem,bne_iff_ne]
 constructor
 ·rintro⟨h1,h2⟩
  refine⟨h1,fun i c hc=>?_⟩
  have hi:=(List.getElem?_eq_some_iff.1 hc).1
  have e:m.getD i (-1)=c:=by rw [List.getD_eq_getElem?_getD,hc];rfl
  have:=h2 i hi
  rw [e] at this
  rcases this with h | ⟨⟨h3,h4⟩,h5⟩
  ·exact .inl h
  ·refine .inr ⟨h3,by rw [Z5];exact h4,fun j hj he=>h5 j hj ?_⟩
   rw [List.getD_eq_getElem?_getD,he];rfl
 ·rintro⟨h1,h2⟩
  refine⟨h1,fun i hi=>?_⟩
  rcases h2 i _ (Ze hi) with h | ⟨h3,h4,h5⟩
  ·exact .inl h
  ·rw [Z5] at h4
   exact .inr ⟨⟨h3,h4⟩,fun j hj he=>h5 j hj (by rw [Ze (by omega),he])⟩
theorem Q0T:∀{l:List (List Int)} {m:List Int},m.length=l.length→(∀i,i<m.length→m.getD i (-1)=-1∨m.getD i (-1)∈l.getD i [])→m∈allM l
 | [],[],_,_=>by simp [allM]
 | [],c :: m,h,_=>by simp at h
 | r :: l,[],h,_=>by simp at h
 | r :: l,c :: m,h,h2=>by
  unfold allM
  rw [List.mem_flatMap]
  refine⟨c,?_,List.mem_map.2 ⟨m,Q0T (by simpa using h) (fun i hi=>?_),rfl⟩⟩
  ·have:=h2 0 (by simp)
   rw [List.mem_cons];exact this
  ·have:=h2 (i+1) (by simpa using hi)
   simpa using this
theorem Mat.all (h:Mat l m):m∈allM l:=Q0T h.len (fun i hi=>by
 rcases h.ok i _ (Ze hi) with e | ⟨_,e,_⟩
 ·exact .inl e
 ·rw [Z5] at e;exact .inr e)
theorem WV {g:List Int}:Most l g w↔Q0D l g=some w:=by
 unfold Q0D
 have key:∀m,m∈((allM l).filter fun m=>matB l m&&m.take g.length == g)↔Mat l m∧m.take g.length=g:=fun m=>by
  rw [List.mem_filter,Bool.and_eq_true,GY,beq_iff_eq]
  exact⟨fun h=>h.2,fun h=>⟨h.1.all,h⟩⟩
 have back:∀v,mxO (((allM l).filter fun m=>matB l m&&m.take g.length == g).map szM)=some v→Most l g v:=fun v hv=>by
  obtain⟨h1,h2⟩:=Q07 hv
  obtain⟨m,hm,e⟩:=List.mem_map.1 h1
  obtain⟨q1,q2⟩:=(key m).1 hm
  exact⟨⟨m,q1,q2,e⟩,fun m' hm' hg'=>h2 _ (List.mem_map.2 ⟨m',(key m').2 ⟨hm',hg'⟩,rfl⟩)⟩
 refine⟨fun h=>?_,back w⟩
 obtain⟨m,h1,h2,h3⟩:=h.is
 obtain⟨v,hv⟩:=Q26 (List.mem_map.2 ⟨m,(key m).2 ⟨h1,h2⟩,rfl⟩:szM m∈((allM l).filter fun m=>matB l m&&m.take g.length == g).map szM)
 rw [hv,h.uniq (back v hv)]
theorem WM (h:mrB l w m=true):MR l w m:=by
 unfold mrB at h
 simp only [Bool.and_eq_true,beq_iff_eq,List.all_eq_true,List.mem_range] at h
 obtain⟨⟨h1,h2⟩,h3⟩:=h
 refine⟨WV.2 h1,h2,fun i c hc=>?_⟩
 have hi:=(List.getElem?_eq_some_iff.1 hc).1
 have e:m.getD i (-1)=c:=by rw [List.getD_eq_getElem?_getD,hc];rfl
 have:=h3 i (by omega)
 rw [e,←Z5] at this
 unfold Q2u at this
 simp only [Bool.or_eq_true,Bool.and_eq_true,beq_iff_eq,List.all_eq_true,List.contains_iff_mem,bne_iff_ne,Bool.not_eq_true',←Bool.not_eq_true,decide_eq_true_eq] at this
 rcases this with ⟨g1,g2⟩ | ⟨⟨⟨g1,g2⟩,g3⟩,g4⟩
 ·exact .inl ⟨g1,fun d hd hn hm=>(g2 d hd).elim (fun h=>hn h) (fun h=>h (WV.1 hm))⟩
 ·refine .inr ⟨g1,fun h=>by simp [h] at g2,WV.2 g3,fun d hd hn hm=>?_⟩
  rcases g4 d hd with (h | h) | h
  ·exact absurd h hn
  ·exact absurd (WV.1 hm) h
  ·exact h
end
/-! ## matchings as the statements tell them -/
/-! ## the examples -/
def e34a:List (List Int):=[[5,9],[5]]
def e34b:List (List Int):=[[5,9],[5],[9]]
def e34c:List (List Int):=[[5],[],[5]]
theorem Z8 {l:List (List Int)} (h:(decide (l.length≤12)&&l.all fun r=>decide (r.length≤10)&&r.all fun c=>decide (0≤c)&&decide (c≤63))=true):FewL l:=by
 simp only [Bool.and_eq_true,decide_eq_true_eq,List.all_eq_true] at h
 exact⟨h.1,fun r hr=>(h.2 r hr).1,fun r hr c hc=>(h.2 r hr).2 c hc⟩
theorem Q1K:TR e34b [[5,-1,9],[-1,5,-1]]:=
 .turn (w:=2) (WM (by decide)) (GY.1 (by decide)) (by decide) (by decide) (.turn (w:=1) (WM (by decide)) (GY.1 (by decide)) (by decide) (by decide) (.stop (m:=[-1,-1,-1]) (WM (by decide))))
theorem Q1O:TR e34c [[5,-1,-1],[-1,-1,5]]:=
 .turn (w:=1) (WM (by decide)) (GY.1 (by decide)) (by decide) (by decide) (.turn (w:=1) (WM (by decide)) (GY.1 (by decide)) (by decide) (by decide) (.stop (m:=[-1,-1,-1]) (WM (by decide))))
theorem Zd {post:Bool→Prop} (hp:post true):K5 post:=by
 have same:∀{a:List Int} {q:Bool→Prop},a.length≤10→q true→Qc a a q:=fun {a q} ha hq=>Zb (by unfold maxLen;omega) hq
 unfold K5
 refine G5 (l:=e34a) (Z8 (by decide)) (fun w m hM _ _ _=>?_)
 have em:m=[9,5]:=hM.uniq (WM (w:=2) (by decide))
 subst em
 refine G5 (l:=e34b) (Z8 (by decide)) (fun w m hM _ _ _=>?_)
 have em:m=[5,-1,9]:=hM.uniq (WM (w:=2) (by decide))
 subst em
 refine WD (l:=e34b) (Z8 (by decide)) (fun o1 h1=>?_)
 have eo:=h1.uniq Q1K
 subst eo
 refine WD (l:=e34c) (Z8 (by decide)) (fun o2 h2=>?_)
 have eo:=h2.uniq Q1O
 subst eo
 refine Jn.mk (fun b=>b=false) (Ite.f rfl rfl) (fun b hb=>Ite.f hb (Jn.mk (fun b=>b=true) ?_ (fun b hb=>by rw [hb];exact hp)))
 refine same (by decide) (Ite.t rfl (same (by decide) (Ite.t rfl ⟨_,rfl,same (by decide) (Ite.t rfl ⟨_,rfl,by decide,same (by decide) (Ite.t rfl ⟨_,rfl,same (by decide) (Ite.t rfl ⟨_,rfl,by decide,same (by decide) rfl⟩)⟩)⟩)⟩)))
end Go.Taq
/- The mathematics, part DM: DockFuel (chapter 34). -/
set_option linter.unusedVariables false
set_option linter.unusedSimpArgs false
namespace Go.Taq
open Go
section
variable {s:ApiSite} {L:List Int} {a:Nat} {f g:List Int}
theorem CoL.rel (hf:RF s.Floor) (hs:RS s) (h:CoL s L a f) {c d:Nat} (hc:c<s.Floor.Kind.length) (h0:0≤fu f c) (hd:d<6):RlC s L a f c d:=fun y hy hyL=>by
 have:=h.least y _ (.step (h.sound c hc h0) hd hy hyL)
 have e:((fu f c).toNat:Int)=fu f c:=by omega
 rw [e] at this
 have hg:=(Q0u (a:=a) hs c (fu f c)).1
 have hok:=Xt hf (c:=(c:Int)) (d:=(d:Int)) (by rw [hy])
 rw [hy] at hok
 have hp:1≤prS s (d:Int) (y:Int):=(Xz (s:=s) hs (by omega) (by omega) hok.2.1).1
 omega
theorem Q2T (hs:RS s) {x m2:Nat} (h:WL s L x m2):∀m1,WC s L a x m1→∃(c m':Nat),kd s.Floor (c:Int)=3∧WC s L a c m'∧m'≤m1+m2:=by
 induction h with
 | home hc hh=>exact fun m1 h1=>⟨_,m1,hh,h1,by omega⟩
 | step hc hh hd hn hL hm ih=>
  rename_i c d y m
  intro m1 h1
  have h2:=WC.step h1 hd hn hL
  have e:goC s a c m1=m1:=by unfold goC rstC;rw [if_neg hh];simp
  rw [e,Int.toNat_natCast] at h2
  obtain⟨c',m',q1,q2,q3⟩:=ih _ h2
  exact⟨c',m',q1,q2,by omega⟩
theorem Q30 (hf:RF s.Floor) (hs:RS s) {c m:Nat} (h:WC s L a c m):∀k,WL s L c k→∃m',WL s L a m'∧m'≤m+k:=by
 induction h with
 | start=>exact fun k hk=>⟨k,hk,by omega⟩
 | step hm hd hn hL ih=>
  rename_i c d y m
  intro k hk
  have hg:=(Q0u (a:=a) hs c (m:Int)).1
  have hok:=Xt hf (c:=(c:Int)) (d:=(d:Int)) (by rw [hn])
  rw [hn] at hok
  have hci:=Qo.1 hok.1
  by_cases h3:kd s.Floor (c:Int)=3
  ·obtain⟨m',q1,q2⟩:=ih 0 (.home (by omega) h3)
   exact⟨m',q1,by omega⟩
  ·obtain⟨m',q1,q2⟩:=ih _ (.step (by omega) h3 hd hn hL hk)
   exact⟨m',q1,by omega⟩
structure LstC (s:ApiSite) (f:List Int) (i:Nat) (v:Int):Prop where
 is:v=-1∨∃c:Nat,c<i∧kd s.Floor (c:Int)=3∧0≤fu f c∧v=fu f c
 le:∀c:Nat,c<i→kd s.Floor (c:Int)=3→0≤fu f c→0≤v∧v≤fu f c
theorem Q0o (hf:RF s.Floor) (hs:RS s) (ha:a<s.Floor.Kind.length) (h:CoL s L a f) (hg:FuL s L g) {v:Int} (hv:LstC s f s.Floor.Kind.length v):fu g a=v:=by
 have hlo:=hg.lo a ha
 have up:∀m,WL s L a m→0≤v∧v≤m:=fun m hm=>by
  obtain⟨c,m',q1,q2,q3⟩:=Q2T hs hm 0 .start
  have h1:=h.least c m' q2
  have h2:=hv.le c (q2.lt hf ha) q1 h1.1
  omega
 rcases hv.is with e | ⟨c,hc,h3,h0,e⟩
 ·by_cases hp:0≤fu g a
  ·have:=up _ (hg.sound a ha hp);omega
  ·omega
 ·obtain⟨m',q1,q2⟩:=Q30 hf hs (h.sound c hc h0) 0 (.home hc h3)
  have h1:=hg.least a m' q1
  have h2:=up _ (hg.sound a ha h1.1)
  omega
theorem Zw (ks:OkApiSite s) (hs:RS s) {c:Int} (hc:isC s.Floor c=true) {post:Int→Prop} (hp:post (rstC s c)):Kt s c post:=Y0 ks hs hc hp
end
theorem Said_taquinlaw34_DockFuel (s:ApiSite) (ks:OkApiSite s) (L:List Int) (kL:(OkL I64) L) (a:Int) (ka:I64 a):V_taquinlaw34_DockFuel s L a (fun y=>y=true):=by
 unfold V_taquinlaw34_DockFuel
 refine Zd (Jn.mk (fun b=>b=false→Q0B s∧FewS s 50 20∧L.length≤30) (ZX ks (by omega) (Ite.f rfl fun h=>(by cases h)) (fun h1=>Ite.t rfl (YV ks (Ite.f rfl fun h=>(by cases h)) (fun h2=>Ite.t rfl (fun h=>⟨h2,h1,?_⟩))))) (fun b hb=>Ite.mk (fun _=>rfl) (fun h=>?_)))
 ·have h':¬(L.length:Int)>30:=of_decide_eq_false h
  omega
 obtain⟨hR,hFew,hL⟩:=hb h
 have hf:=hR.fl
 have hs:=hR.rs
 have hn:s.Floor.Kind.length≤1000:=by have:=hFew.kind;omega
 have hLm:L.length≤maxLen:=by unfold maxLen;omega
 refine WE ks hf hs hn hLm (fun f hF=>Zy ks hf hs hn hLm (fun g hG=>?_))
 have hfl:=hF.len
 have hgl:=hG.len
 refine Jn.mk (fun b=>b=false) (Ite.f (by rw [hfl];simp) (by show ((g.length:Int) != (f.length:Int))=false;rw [hfl,hgl];simp)) (fun b hb=>Ite.f hb ?_)
 -- what is there: costs from a cell that is no wall,or none
 have hcase:(∃an:Nat,a=(an:Int)∧an<s.Floor.Kind.length∧kd s.Floor a≠0∧CoL s L an f)∨(¬(isC s.Floor a=true∧kd s.Floor a≠0)∧∀c,fu f c=-1):=by
  unfold CoF at hF
  split at hF
  ·rename_i hc
   have:=Qo.1 hc.1
   exact .inl ⟨a.toNat,by omega,by omega,hc.2,hF⟩
  ·rename_i hc
   refine .inr ⟨hc,fun c=>?_⟩
   rw [hF]
   unfold fu
   rw [List.getD_eq_getElem?_getD,List.getElem?_replicate];split <;> rfl
 have hbd:=fun c hc=>hF.bd (c:=c) hc
 refine Jn.mk (fun v=>LstC s f s.Floor.Kind.length v) (ZP (xs:=f) (by unfold maxLen;omega) (fun t:Int×Int=>t.2) (fun i t=>LstC s f i t.1) rfl ⟨.inl rfl,fun c hc=>by omega⟩ (fun i v t hv ht hI=>?_) (fun t hI=>by rw [hfl] at hI;exact hI)) (fun v hv=>?_)
 ·have hil:=(List.getElem?_eq_some_iff.1 hv).1
  obtain⟨le,ii⟩:=t
  simp only at ht hI
  subst ht
  have hic:isC s.Floor (i:Int)=true:=Qo.2 ⟨by omega,by omega⟩
  have hix:idx f (i:Int)=some (fu f i):=G6 (by omega)
  have hb1:=hbd i (by omega)
  refine Jn.mk' (Jn.mk (fun b=>b=true↔(kd s.Floor (i:Int)=3∧0≤fu f i∧(le<0∨fu f i<le))) ⟨_,Xo hic,Ite.mk (fun h3=>⟨_,hix,Ite.mk (fun h4=>Ite.mk (fun h5=>?_) (fun h5=>?_)) (fun h4=>?_)⟩) (fun h3=>?_)⟩ (fun b hb=>?_))
  ·exact⟨fun _=>⟨by simpa using h3,of_decide_eq_true h4,.inl (of_decide_eq_true h5)⟩,fun _=>rfl⟩
  ·have h5':¬le<0:=of_decide_eq_false h5
   show decide _=true↔_
   rw [decide_eq_true_iff]
   exact⟨fun h=>⟨by simpa using h3,of_decide_eq_true h4,.inr h⟩,fun h=>h.2.2.resolve_left h5'⟩
  ·have h4':¬fu f i≥0:=of_decide_eq_false h4
   exact⟨fun h=>(by cases h),fun h=>absurd h.2.1 h4'⟩
  ·have h3':¬kd s.Floor (i:Int)=3:=by simpa using h3
   exact⟨fun h=>(by cases h),fun h=>absurd h.1 h3'⟩
  refine Jn.mk (fun v=>LstC s f (i+1) v) (Ite.mk (fun h3=>⟨_,hix,?_⟩) (fun h3=>?_)) (fun v' hv'=>?_)
  ·obtain⟨g1,g2,g3⟩:=hb.1 h3
   refine⟨.inr ⟨i,by omega,g1,g2,rfl⟩,fun c hc h3 h0=>?_⟩
   by_cases e:c=i
   ·subst e;exact⟨h0,Int.le_refl _⟩
   ·have:=hI.le c (by omega) h3 h0;omega
  ·refine⟨hI.is.imp id (fun ⟨c,q1,q2⟩=>⟨c,by omega,q2⟩),fun c hc h4 h0=>?_⟩
   by_cases e:c=i
   ·subst e
    have hno:¬(le<0∨fu f c<le):=fun hh=>by rw [hb.2 ⟨h4,h0,hh⟩] at h3;cases h3
    show 0≤le∧le≤fu f c
    omega
   ·exact hI.le c (by omega) h4 h0
  refine Jn.mk (fun b=>b=false) ⟨_,hix,Yd ks hf hs hn hLm (fun h0=>by rw [hic] at h0;cases h0) (fun f' hf' _=>?_)⟩ (fun b hb2=>Ite.f hb2 ?_)
  ·rw [←hF.uniq hf hf',Int.toNat_natCast]
   refine Ite.f (by simp) ?_
   exact decide_eq_false (by omega)
  refine Jn.mk (fun _=>True) (Loop.mk (fun u:Int=>∃d:Nat,u=(d:Int)∧d≤6) (fun u=>6-u.toNat) ⟨0,rfl,by omega⟩ ?_) (fun _ _=>⟨rfl,hv'⟩)
  rintro u ⟨d,e,hd⟩
  subst e
  refine Jn.mk (fun b=>b=true→d<6∧0≤fu f i) (Ite.mk (fun h3=>⟨_,hix,fun h4=>⟨?_,of_decide_eq_true h4⟩⟩) (fun h3 h4=>by cases h4)) (fun b hb3=>Ite.mk (fun h3=>?_) (fun _=>trivial))
  ·have h3':(d:Int)<6:=of_decide_eq_true h3
   omega
  obtain⟨hd6,h0⟩:=hb3 h3
  have ew:w64 ((d:Int)+1)=((d+1:Nat):Int):=by rw [Qn (by omega) (by omega)];simp
  rcases hcase with ⟨an,ea,hal,hak,hC⟩ | ⟨_,hall⟩
  ·refine Ga hf ⟨_,hix,?_⟩
   have hgb:=Q0u (a:=an) hs i (fu f i)
   have hrb:=Q0X hs (i:Int)
   refine Jn.mk (fun v=>v=goC s an i (fu f i)) (Ite.mk (fun h4=>Zw ks hs hic ?_) (fun h4=>?_)) (fun v hvv=>?_)
   ·have h4':¬i=an:=by have:¬(i:Int)=a:=by simpa using h4
                       omega
    unfold goC;rw [if_neg h4',Qn (by omega) (by omega)]
   ·have h4':i=an:=by have:(i:Int)=a:=by simpa using h4
                      omega
    unfold goC;rw [if_pos h4']
   subst hvv
   refine Jn.mk (fun b=>b=false) (Ite.mk (fun h4=>GV hLm (Ite.mk (fun h5=>rfl) (fun h5=>?_))) (fun _=>rfl)) (fun b hb4=>Ite.f hb4 ⟨⟨d+1,ew,by omega⟩,by rw [ew];omega⟩)
   have hok:=Xt hf h4
   have hyi:=Qo.1 hok.2.1
   obtain⟨y,hy⟩:=Int.eq_ofNat_of_zero_le hyi.1
   have hnx:nx s.Floor i d=((y:Int),true):=by rw [←hy,←h4]
   rw [hnx] at h5 hok hyi ⊢
   simp only at h5 hok hyi ⊢
   have hyL:(y:Int)∉L:=fun hm=>by rw [List.contains_iff_mem.2 hm] at h5;cases h5
   have hyl:y<s.Floor.Kind.length:=by omega
   obtain⟨r1,r2⟩:=hC.rel hf hs (c:=i) (by omega) h0 hd6 y hnx hyL
   have hp:=Xz (s:=s) hs (d:=(d:Int)) (by omega) (by omega) hok.2.1
   have hp':1≤prS s (d:Int) (y:Int)∧prS s (d:Int) (y:Int)≤400:=hp
   refine⟨fu f y,G6 (f:=f) (by omega),Ite.f (decide_eq_false (by omega)) (XP ks hs ?_)⟩
   rw [Qn (by omega) (by omega)]
   exact decide_eq_false (by omega)
  ·rw [hall] at h0;omega
 ·-- the end
  have hnone:(∀c,fu f c=-1)→v=-1:=fun hall=>by
   rcases hv.is with e | ⟨c,_,_,h0,_⟩
   ·exact e
   ·rw [hall] at h0;omega
  refine Jn.mk (fun b=>b=true↔isC s.Floor a=false) (Ite.mk (fun h1=>?_) (fun h1=>?_)) (fun b hb=>Ite.mk (fun h1=>?_) (fun h1=>?_))
  ·have h':a<0:=of_decide_eq_true h1
   exact⟨fun _=>Y5.2 (by omega),fun _=>rfl⟩
  ·have h':¬a<0:=of_decide_eq_false h1
   show decide _=true↔_
   rw [decide_eq_true_iff,Y5,hfl];omega
  ·have hca:=hb.1 h1
   rcases hcase with ⟨an,ea,hal,_,_⟩ | ⟨_,hall⟩
   ·rw [Y5] at hca;omega
   ·have e:=hnone hall
    refine Jn.mk (fun b=>b=true) (Ite.t rfl (Ite.t (by rw [e];rfl) (Yd ks hf hs hn hLm (fun _=>rfl) (fun f' hf' _=>?_)))) (fun b hb=>hb)
    rw [←hF.uniq hf hf',hall];rfl
  ·have hca:isC s.Floor a=true:=by
    cases hc:isC s.Floor a with
    | true=>rfl
    | false=>rw [hb.2 hc] at h1;cases h1
   have hai:=Qo.1 hca
   obtain⟨an,rfl⟩:=Int.eq_ofNat_of_zero_le hai.1
   have hal:an<s.Floor.Kind.length:=by omega
   refine Jn.mk (fun b=>b=true) (Ite.t rfl ⟨fu g an,G6 (f:=g) (by omega),Ite.t ?_ ⟨fu f an,G6 (f:=f) (by omega),_,Xo hca,?_⟩⟩) (fun b hb=>hb)
   ·rw [beq_iff_eq]
    rcases hcase with ⟨an',ea,_,_,hC⟩ | ⟨hno,hall⟩
    ·have:an'=an:=by omega
     subst this
     exact Q0o hf hs hal hC hG hv
    ·rw [hnone hall]
     have hlo:=hG.lo an hal
     by_cases h0:0≤fu g an
     ·exfalso
      have hw:=hG.sound an hal h0
      have hk0:kd s.Floor (an:Int)=0:=Classical.byContradiction fun h=>hno ⟨hca,h⟩
      generalize (fu g an).toNat=m at hw
      cases hw with
      | home _ h3=>rw [hk0] at h3;cases h3
      | step _ _ _ hnx _ _=>exact (Xt hf (by rw [hnx])).2.2.2.2.2 hk0
     ·omega
   ·rcases hcase with ⟨an',ea,_,hk,hC⟩ | ⟨hno,hall⟩
    ·have:an'=an:=by omega
     subst this
     have h0:=hC.least an' 0 .start
     have e:fu f an'=0:=by omega
     show ((fu f an' == 0) == (kd s.Floor (an':Int) != 0))=true
     rw [e]
     have:(kd s.Floor (an':Int) != 0)=true:=by simpa using hk
     rw [this];rfl
    ·have hk0:kd s.Floor (an:Int)=0:=Classical.byContradiction fun h=>hno ⟨hca,h⟩
     show ((fu f an == 0) == (kd s.Floor (an:Int) != 0))=true
     rw [hall,hk0];rfl
end Go.Taq
