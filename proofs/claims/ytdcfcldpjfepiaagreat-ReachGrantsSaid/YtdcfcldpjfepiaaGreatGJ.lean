/- The mathematics, several parts in one text. -/
import Derived.Test.YtdcfcldpjfepiaaGreatGF
/- The mathematics, part GG: the needs (chapter 33). -/
set_option linter.unusedVariables false
set_option linter.unusedSimpArgs false
namespace Go.Taq
open Go
def IsFu (s:ApiSite) (L:List Int) (c:Nat) (v:Int):Prop:=(v=-1∧∀m,¬WL s L c m)∨(0≤v∧WL s L c v.toNat∧∀m,WL s L c m→v≤m)
theorem Q3V {p:Nat→Prop}:∀n,p n→∃m,p m∧∀k,p k→m≤k:=by
 intro n
 induction n using Nat.strongRecOn with
 | _ n ih=>
  intro hn
  by_cases h:∃m,m<n∧p m
  ·obtain⟨m,h1,h2⟩:=h
   exact ih m h1 h2
  ·exact⟨n,hn,fun k hk=>by
    by_cases hlt:k<n
    ·exact absurd ⟨k,hlt,hk⟩ h
    ·omega⟩
theorem Q3m (s:ApiSite) (L:List Int) (c:Nat):∃v,IsFu s L c v:=by
 by_cases h:∃m,WL s L c m
 ·obtain⟨m,hm⟩:=h
  obtain⟨k,h1,h2⟩:=Q3V (p:=fun m=>WL s L c m) m hm
  exact⟨(k:Int),.inr ⟨by omega,by simpa using h1,fun m hm=>by have:=h2 m hm;omega⟩⟩
 ·exact⟨-1,.inl ⟨rfl,fun m hm=>h ⟨m,hm⟩⟩⟩
noncomputable def fuV (s:ApiSite) (L:List Int) (c:Nat):Int:=Classical.choose (Q3m s L c)
theorem Q47 (s:ApiSite) (L:List Int) (c:Nat):IsFu s L c (fuV s L c):=Classical.choose_spec (Q3m s L c)
theorem IsFu.uniq {s:ApiSite} {L:List Int} {c:Nat} {v w:Int} (h:IsFu s L c v) (h':IsFu s L c w):v=w:=by
 rcases h with ⟨h1,h2⟩ | ⟨h1,h2,h3⟩ <;> rcases h' with ⟨g1,g2⟩ | ⟨g1,g2,g3⟩
 ·omega
 ·exact absurd g2 (h2 _)
 ·exact absurd h2 (g2 _)
 ·have:=h3 _ g2;have:=g3 _ h2;omega
theorem FuL.eq {s:ApiSite} {L f:List Int} (h:FuL s L f) {c:Nat} (hc:c<s.Floor.Kind.length):fu f c=fuV s L c:=by
 refine IsFu.uniq (s:=s) (L:=L) (c:=c) ?_ (Q47 s L c)
 by_cases h0:0≤fu f c
 ·exact .inr ⟨h0,h.sound c hc h0,fun m hm=>(h.least c m hm).2⟩
 ·have:=h.lo c hc
  exact .inl ⟨by omega,fun m hm=>h0 (h.least c m hm).1⟩
noncomputable def nd (s:ApiSite) (L:List Int) (D:Int):Nat→Nat→Int
 | 0,c=>if fuV s L c<0 then -1 else fuV s L c+D*3
 | x+1,c=>if c=x∨(x:Int)∈L then nd s L D x c else if nd s L D x c<0∨fuV s ((x:Int) :: L) c<0 then -1 else imax (nd s L D x c) (fuV s ((x:Int) :: L) c)
theorem Q3d {a b:Int}:a≤imax a b∧b≤imax a b∧(imax a b=a∨imax a b=b):=by unfold imax;split <;> omega
theorem Q4l {s:ApiSite} {L:List Int} {D:Int} (hD:0≤D) (c:Nat):∀x,(nd s L D x c=-1∨0≤nd s L D x c)∧(0≤nd s L D x c→0≤fuV s L c∧fuV s L c+D*3≤nd s L D x c)
 | 0=>by
  unfold nd
  split
  ·exact⟨.inl rfl,fun h=>by omega⟩
  ·exact⟨.inr (by omega),fun h=>by omega⟩
 | x+1=>by
  have ih:=Q4l (s:=s) (L:=L) hD c x
  unfold nd
  split
  ·exact ih
  ·split
   ·exact⟨.inl rfl,fun h=>by omega⟩
   ·rename_i hn
    have h1:=Q3d (a:=nd s L D x c) (b:=fuV s ((x:Int) :: L) c)
    have h2:0≤nd s L D x c:=by
     rcases ih.1 with h | h
     ·exact absurd (.inl (by omega)) hn
     ·exact h
    have h3:=ih.2 h2
    exact⟨.inr (by omega),fun _=>⟨h3.1,by omega⟩⟩
section
variable {g:ReachGraph} {n:Nat} {P:Int} {f:List Int} {ch:List (List Int)} {x:Nat}
theorem ChOk.skip {i:Nat} (h:ChOk g n f i ch) (hn:g.home[i]?=some false→0≤fu f i→False):ChOk g n f (i+1) ch where
 len:=h.len
 mem:=fun y l hl=>⟨(h.mem y l hl).1,fun a ha=>by
  obtain⟨c,e,h1,h2⟩:=(h.mem y l hl).2 a ha
  exact⟨c,e,by omega,h2⟩⟩
 uniq:=h.uniq
 all:=fun c hc hh h0=>by
  by_cases e:c=i
  ·subst e;exact absurd (hn hh h0) id
  ·exact h.all c (by omega) hh h0
theorem ChOk.put {i y:Nat} {l:List Int} (h:ChOk g n f i ch) (hl:ch[y]?=some l) (hp:Par g f i y):ChOk g n f (i+1) (ch.set y (l++[(i:Int)])):=by
 have hyl:=(List.getElem?_eq_some_iff.1 hl).1
 have hget:∀z,(ch.set y (l++[(i:Int)]))[z]?=if z=y then some (l++[(i:Int)]) else ch[z]?:=fun z=>by
  rw [List.getElem?_set]
  by_cases e:y=z
  ·subst e;simp [hyl]
  ·rw [if_neg e,if_neg (fun h=>e h.symm)]
 have hnew:∀(z:Nat) m,ch[z]?=some m→(i:Int)∉m:=fun z m hm hi=>by
  obtain⟨c,e,h1,_⟩:=(h.mem z m hm).2 _ hi
  omega
 refine⟨by rw [List.length_set];exact h.len,fun z m hm=>?_,fun z z' m m' a hm hm' ha ha'=>?_,fun c hc hh h0=>?_⟩
 ·rw [hget] at hm
  by_cases e:z=y
  ·rw [if_pos e] at hm
   cases hm
   subst e
   have hm0:=h.mem z l hl
   refine⟨List.nodup_append.2 ⟨hm0.1,by simp,fun a ha b hb e=>?_⟩,fun a ha=>?_⟩
   ·simp at hb;subst hb;subst e;exact hnew z l hl ha
   ·rcases List.mem_append.1 ha with ha | ha
    ·obtain⟨c,e,h1,h2⟩:=hm0.2 a ha
     exact⟨c,e,by omega,h2⟩
    ·simp at ha;exact⟨i,ha,by omega,hp⟩
  ·rw [if_neg e] at hm
   exact⟨(h.mem z m hm).1,fun a ha=>by
    obtain⟨c,e,h1,h2⟩:=(h.mem z m hm).2 a ha
    exact⟨c,e,by omega,h2⟩⟩
 ·have hs:∀(z:Nat) m,(ch.set y (l++[(i:Int)]))[z]?=some m→a∈m→(a=(i:Int)∧z=y)∨(a≠(i:Int)∧∃m0,ch[z]?=some m0∧a∈m0):=fun z m hm ha=>by
   rw [hget] at hm
   by_cases e:z=y
   ·rw [if_pos e] at hm
    cases hm
    rcases List.mem_append.1 ha with ha | ha
    ·exact .inr ⟨fun e2=>hnew y l hl (e2▸ha),l,by rw [e];exact hl,ha⟩
    ·simp at ha;exact .inl ⟨ha,e⟩
   ·rw [if_neg e] at hm
    exact .inr ⟨fun e2=>hnew z m hm (e2▸ha),m,hm,ha⟩
  rcases hs z m hm ha with ⟨e1,e2⟩ | ⟨e1,m0,k1,k2⟩ <;> rcases hs z' m' hm' ha' with ⟨g1,g2⟩ | ⟨g1,m1,j1,j2⟩
  ·rw [e2,g2]
  ·exact absurd e1 g1
  ·exact absurd g1 e1
  ·exact h.uniq z z' m0 m1 a k1 j1 k2 j2
 ·by_cases e:c=i
  ·subst e
   exact⟨y,l++[(c:Int)],by rw [hget,if_pos rfl],by simp⟩
  ·obtain⟨z,m,h1,h2⟩:=h.all c (by omega) hh h0
   by_cases ez:z=y
   ·subst ez
    rw [hl] at h1;cases h1
    exact⟨z,l++[(i:Int)],by rw [hget,if_pos rfl],List.mem_append_left _ h2⟩
   ·exact⟨z,m,by rw [hget,if_neg ez];exact h1,h2⟩
theorem Q3D (hg:GOk n P g) (hF:FOk g (-1) n f) {c:Nat} {l:List ReachStep} {r:Int×Int} (hc:c<n) (hh:g.home[c]?=some false) (h0:0≤fu f c) (hl:g.out[c]?=some l) (hr:Best f l (-1) r):∃y:Nat,r.2=(y:Int)∧y<n∧Par g f c y:=by
 have hs:=hF.sound c hc h0
 generalize hm:(fu f c).toNat=m at hs
 cases hs with
 | home h=>rw [hh] at h;cases h
 | step h hl' hz hb hw=>
  rename_i l' z m'
  rw [hl] at hl';cases hl'
  obtain⟨⟨t0,t1⟩,p1,p2⟩:=hg.to_ c l z hl hz
  have h1:=hF.least z.to_.toNat (by omega) _ hw
  have h2:=hr.le z hz hb h1.1
  rcases hr.is with e | ⟨y,hy,hyb,hy0,e⟩
  ·rw [e] at h2;exact absurd h2.1 (by decide)
  ·obtain⟨⟨s0,s1⟩,q1,q2⟩:=hg.to_ c l y hl hy
   have hyn:y.to_.toNat<n:=by omega
   have h3:=hF.least c hc _ (.step hh hl hy hyb (hF.sound _ hyn hy0))
   have e1:r.1=fu f y.to_.toNat+y.price:=by rw [e]
   exact⟨y.to_.toNat,by rw [e];show y.to_=_;omega,hyn,hh,h0,hy0,l,y,hl,hy,by omega,by omega⟩
theorem Q3G (hg:GOk n P g) (hF:FOk g (-1) n f) (h:ChOk g n f n ch) (hu:∀c,¬Und ch x c):FOk g x n f where
 len:=hF.len
 lo:=hF.lo
 sound:=fun c hc h0=>Q2r (x:=x) hg hF h (fun c hc hh=>hF.home hc hh) _ c hc rfl (hu c) h0
 least:=fun c hc m hm=>hF.least c hc m (Wg.weak hg hm)
end
theorem S_reach_Needs {s:ApiSite} {L:List Int} {D:Int} (ks:OkApiSite s) (hf:RF s.Floor) (hs:RS s) (hn:s.Floor.Kind.length≤1000) (hL:L.length≤maxLen) (hD:0≤D∧D≤100000) {post:List Int→Prop} (hp:∀v,v.length=s.Floor.Kind.length→(∀c,c<s.Floor.Kind.length→fu v c=nd s L D s.Floor.Kind.length c)→post v):V_reach_Needs s L D post:=by
 unfold V_reach_Needs
 refine Ws ks hf hs hn hL (fun g hG=>?_)
 have hg:=hG.ok hf hs hn
 generalize hnn:s.Floor.Kind.length=n at *
 refine Zo hg (fun f hF hB=>?_)
 have hlen:=hF.len
 have hPn:=Q1B (g:=g) (K:=0) hg (by omega)
 have hFL:FuL s L f:=.of hf hG (by rw [hnn];exact hF) (fun y=>by simp)
 have hfv:∀c,c<n→fu f c=fuV s L c:=fun c hc=>hFL.eq (by omega)
 refine Gl (by omega) ⟨by omega,?_⟩
 -- the tree of best moves
 refine Jn.mk (fun t:List Int×List (List Int)=>(t.1.length=n∧∀c,c<n→fu t.1 c=nd s L D 0 c)∧ChOk g n f n t.2)
  (Z8 (xs:=f) (by unfold maxLen;omega) (fun t:List Int×List (List Int)×Int=>t.2.2) (fun i t=>(t.1.length=n∧∀c,c<n→fu t.1 c=if c<i then nd s L D 0 c else fu f c)∧ChOk g n f i t.2.1) rfl ⟨⟨hlen,fun c hc=>by simp⟩,?_⟩ (fun i v t hv ht hI=>?_) (fun t hI=>?_)) (fun t ht=>?_)
 ·have hr:∀(y:Nat) (l:List Int),(List.replicate (Int.toNat (f.length:Int)) ([]:List Int))[y]?=some l→l=[]:=fun y l hl=>by
   rw [List.getElem?_replicate] at hl
   split at hl
   ·exact (Option.some.inj hl).symm
   ·cases hl
  refine⟨by simp [hlen],fun y l hl=>?_,fun y y' l l' a hl _ ha=>?_,fun c hc=>by omega⟩
  ·rw [hr y l hl];exact⟨List.nodup_nil,fun a ha=>by cases ha⟩
  ·rw [hr y l hl] at ha;cases ha
 ·obtain⟨⟨i1,i2⟩,i3⟩:=hI
  have hi:i<n:=by have:=(List.getElem?_eq_some_iff.1 hv).1;omega
  have hvf:v=fu f i:=by
   have:=Q0v (f:=f) (c:=i) (by omega)
   rw [hv] at this;exact Option.some.inj this
  rw [ht]
  refine Jn.mk (fun u:List Int×List (List Int)=>(u.1.length=n∧∀c,c<n→fu u.1 c=if c<i+1 then nd s L D 0 c else fu f c)∧ChOk g n f (i+1) u.2) ⟨v,QG rfl hv,Ite.mk (fun h0=>?_) (fun h0=>?_)⟩ (fun u hu=>⟨rfl,hu⟩)
  ·have h0':v<0:=of_decide_eq_true h0
   refine⟨⟨i1,fun c hc=>?_⟩,i3.skip (fun _ h=>by omega)⟩
   show fu t.1 c=_
   rw [i2 c hc]
   by_cases e:c=i
   ·subst e
    rw [if_neg (Nat.lt_irrefl _),if_pos (Nat.lt_succ_self _)]
    have:=hF.lo c hc
    unfold nd
    rw [if_pos (by rw [←hfv c hc];omega)];omega
   ·by_cases e2:c<i
    ·rw [if_pos e2,if_pos (by omega)]
    ·rw [if_neg e2,if_neg (by omega)]
  ·have h0':0≤fu f i:=by have:¬v<0:=of_decide_eq_false h0;omega
   have hbi:=hB i hi
   refine GR ⟨_,Yr (by omega),WS hg hlen (fun d hd=>by have:=hB d hd;omega) hi (fun l r hl hr=>?_)⟩
   have hho:=List.getElem?_eq_getElem (show i<g.home.length by rw [hg.lh];exact hi)
   generalize g.home[i]'_=ho at hho
   have hval:w64 (v+w64 (D*3))=nd s L D 0 i:=by
    rw [QH (x:=D*3) (by omega) (by omega),QH (by omega) (by omega)]
    unfold nd
    rw [if_neg (by rw [←hfv i hi];omega),←hfv i hi,hvf]
   have hne:(t.1.set i (nd s L D 0 i)).length=n∧∀c,c<n→fu (t.1.set i (nd s L D 0 i)) c=if c<i+1 then nd s L D 0 c else fu f c:=by
    refine⟨by rw [List.length_set];exact i1,fun c hc=>?_⟩
    rw [YU (by omega),i2 c hc]
    by_cases e:c=i
    ·subst e;rw [if_pos rfl,if_pos (Nat.lt_succ_self _)]
    ·rw [if_neg e]
     by_cases e2:c<i
     ·rw [if_pos e2,if_pos (by omega)]
     ·rw [if_neg e2,if_neg (by omega)]
   have hin:Int.toNat (i:Int)=i:=by simp
   refine⟨ho,QG rfl hho,Jn.mk (fun ch=>ChOk g n f (i+1) ch) (Ite.mk (fun hh=>?_) (fun hh=>?_)) (fun ch hch=>by
    show (_∧_)∧_
    rw [hval,hin];exact⟨hne,hch⟩)⟩
   ·have hof:ho=false:=by simpa using hh
    subst hof
    obtain⟨y,hy,hyn,hpar⟩:=Q3D hg hF hi hho h0' hl hr
    obtain⟨row,hrow⟩:=i3.row hyn
    have hrl:row.length≤n:=Wc n row (i3.mem y row hrow).1 (fun a ha=>by
     obtain⟨c,e,h1,_⟩:=(i3.mem y row hrow).2 a ha
     omega)
    rw [hy]
    refine⟨row,QG rfl hrow,by simp;omega,?_⟩
    have:=i3.put hrow hpar
    simpa using this
   ·have hof:ho=true:=by simpa using hh
    subst hof
    exact i3.skip (fun h _=>by rw [hho] at h;cases h)
 ·obtain⟨⟨i1,i2⟩,i3⟩:=hI
  rw [hlen] at i2 i3
  exact⟨⟨i1,fun c hc=>by show fu t.1 c=_;rw [i2 c hc,if_pos hc]⟩,i3⟩
 obtain⟨ne0,ch⟩:=t
 obtain⟨hne0,hch⟩:=ht
 simp only at hne0 hch
 -- the cells,one after the other
 refine Jn.mk (fun v:List Int=>v.length=n∧∀c,c<n→fu v c=nd s L D n c)
  (Z8 (xs:=f) (by unfold maxLen;omega) (fun t:List Int×Int=>t.2) (fun i t=>t.1.length=n∧∀c,c<n→fu t.1 c=nd s L D i c) rfl hne0 (fun x v0 t hv ht hI=>?_) (fun t hI=>by rw [hlen] at hI;exact hI)) (fun v hv=>hp v hv.1 hv.2)
 obtain⟨needs,tx⟩:=t
 simp only at ht hI
 subst ht
 obtain⟨i1,i2⟩:=hI
 have hx:x<n:=by have:=(List.getElem?_eq_some_iff.1 hv).1;omega
 -- a cell that is not below Gw its need
 have hsame:∀f':List Int,FOk g x n f'→(∀c,c<n→¬Und ch x c→fu f' c=fu f c)→(∀c,c<n→fu f' c=fuV s ((x:Int) :: L) c)∧∀c,c<n→¬Und ch x c→nd s L D (x+1) c=nd s L D x c:=fun f' hF' hk=>by
  have hFL':FuL s ((x:Int) :: L) f':=.of hf hG (by rw [hnn];exact hF') (fun y=>Iff.rfl)
  have hv':∀c,c<n→fu f' c=fuV s ((x:Int) :: L) c:=fun c hc=>hFL'.eq (by omega)
  refine⟨hv',fun c hc hu=>?_⟩
  have e:fuV s ((x:Int) :: L) c=fuV s L c:=by rw [←hv' c hc,hk c hc hu,hfv c hc]
  have h1:=Q4l (s:=s) (L:=L) hD.1 c x
  conv=>lhs;unfold nd
  rw [e]
  split
  ·rfl
  ·split
   ·rename_i h
    rcases h1.1 with h2 | h2
    ·exact h2.symm
    ·have:=h1.2 h2;omega
   ·rename_i h
    have h2:0≤nd s L D x c:=by
     rcases h1.1 with h2 | h2
     ·exact absurd (.inl (by omega)) h
     ·exact h2
    have h3:=h1.2 h2
    unfold imax;rw [if_neg (by omega)]
 refine Jn.mk (fun v:List Int=>v.length=n∧∀c,c<n→fu v c=nd s L D (x+1) c) ?_ (fun v hv=>⟨rfl,hv⟩)
 refine Q3o hg hF hB hch hx (fun hno=>?_) (fun mp f' hF' htop hkeep hmp=>?_)
 ·simp only [Sum.elim_inl]
  have hk:=(hsame f (Q3G hg hF hch hno) (fun c hc _=>rfl)).2
  refine Jn.mk (fun v=>v=needs) (Loop.step rfl) (fun v hv=>?_)
  rw [hv]
  exact⟨i1,fun c hc=>by rw [i2 c hc,hk c hc (hno c)]⟩
 ·simp only [Sum.elim_inr]
  obtain⟨hv',hk⟩:=hsame f' hF' hkeep
  have hxL:∀c,Und ch x c→(x:Int)∉L:=fun c hu=>by
   have key:∀c,Und ch x c→∃l a,ch[x]?=some l∧a∈l:=fun c hu=>by
    induction hu with
    | one h hc=>exact⟨_,_,h,hc⟩
    | step _ _ _ ih=>exact ih
   obtain⟨l,a,hl,ha⟩:=key c hu
   obtain⟨d,e,hd,hpar⟩:=(hch.mem x l hl).2 a ha
   obtain⟨_,_,_,lo,z,hlo,hz,hzt,_⟩:=hpar
   obtain⟨l',e1,_,e3⟩:=hG.out d (by omega)
   rw [hlo] at e1;cases e1
   obtain⟨dd,_,_,hnL,_⟩:=(e3 z).1 hz
   rw [←hzt];exact hnL
  refine Jn.mk (fun v:List Int=>v.length=n∧∀c,c<n→fu v c=nd s L D (x+1) c)
   (Loop.mk (fun t:List Int×List Int=>t.1.length=n∧(∀c:Nat,c<n→fu t.1 c=if (c:Int)∈t.2 then nd s L D (x+1) c else nd s L D x c)∧∀c:Nat,(c:Int)∈t.2→Und ch x c) (fun t=>left mp t.2) ⟨i1,fun c hc=>by simp [i2 c hc],fun c hc=>by simp at hc⟩ ?_) (fun v hv=>hv)
  rintro⟨v1,seen⟩ ⟨j1,j2,j3⟩
  simp only at j1 j2 j3
  refine⟨fun a v ⟨hav,hns⟩=>?_,fun hall=>?_⟩
  ·obtain⟨c,rfl,hu,rfl⟩:=(hmp a v).1 hav
   have hc:c<n:=(Q1u hg hch hu).2.1
   have hcx:c≠x:=fun e=>by have:=(Q1u hg hch hu).1;rw [e] at this;omega
   have hidx:=Yr (f:=v1) (c:=c) (by omega)
   have hcur:fu v1 c=nd s L D x c:=by rw [j2 c hc,if_neg hns]
   have hset:∀w d,fu (v1.set c w) d=if d=c then w else fu v1 d:=fun w d=>YU (by omega)
   have hin:Int.toNat (c:Int)=c:=by simp
   have hstep:nd s L D (x+1) c=if nd s L D x c<0∨fu f' c<0 then -1 else imax (nd s L D x c) (fu f' c):=by
    conv=>lhs;unfold nd
    rw [if_neg (fun h=>h.elim hcx (hxL c hu)),hv' c hc]
   have fin:∀w,w=nd s L D (x+1) c→(v1.set c w).length=n∧(∀d:Nat,d<n→fu (v1.set c w) d=if (d:Int)∈(c:Int) :: seen then nd s L D (x+1) d else nd s L D x d)∧∀d:Nat,(d:Int)∈(c:Int) :: seen→Und ch x d:=fun w hw=>by
    refine⟨by rw [List.length_set];exact j1,fun d hd=>?_,fun d hd=>?_⟩
    ·rw [hset,j2 d hd]
     by_cases e:d=c
     ·subst e;rw [if_pos rfl,if_pos (List.mem_cons_self ..)];exact hw
     ·rw [if_neg e]
      by_cases e2:(d:Int)∈seen
      ·rw [if_pos e2,if_pos (List.mem_cons_of_mem _ e2)]
      ·rw [if_neg e2,if_neg (fun h=>(List.mem_cons.1 h).elim (fun h=>e (by omega)) e2)]
    ·rcases List.mem_cons.1 hd with hd | hd
     ·have:d=c:=by omega
      rw [this];exact hu
     ·exact j3 d hd
   refine Jn.mk (fun b=>b=true↔(nd s L D x c<0∨fu f' c<0)) (Ite.mk (fun h1=>?_) (fun h1=>⟨_,hidx,?_⟩)) (fun b hb=>?_)
   ·exact⟨fun _=>.inr (of_decide_eq_true h1),fun _=>rfl⟩
   ·have h1':¬fu f' c<0:=of_decide_eq_false h1
    show decide (fu v1 c<0)=true↔_
    rw [hcur,decide_eq_true_iff]
    exact⟨.inl,fun h=>h.resolve_right h1'⟩
   ·refine Jn.mk (fun w=>w=v1.set c (nd s L D (x+1) c)) (Ite.mk (fun h1=>⟨_,hidx,?_⟩) (fun h1=>⟨_,hidx,?_⟩)) (fun w hw=>?_)
    ·rw [hin,hstep,if_pos (hb.1 h1)]
    ·have hno:¬(nd s L D x c<0∨fu f' c<0):=fun h=>by rw [hb.2 h] at h1;cases h1
     rw [hin,hstep,if_neg hno,hcur]
    ·subst hw
     exact⟨fin _ rfl,Q36 mp hav hns⟩
  ·refine⟨j1,fun c hc=>?_⟩
   show fu v1 c=_
   rw [j2 c hc]
   by_cases e:(c:Int)∈seen
   ·rw [if_pos e]
   ·rw [if_neg e]
    refine (hk c hc (fun hu=>e (hall _ ?_))).symm
    rw [(hmp (c:Int) _).2 ⟨c,rfl,hu,rfl⟩];simp
end Go.Taq
/- The mathematics, part GH: tables are checked; the examples of chapter 33; ReachFuel. -/
set_option linter.unusedVariables false
set_option linter.unusedSimpArgs false
namespace Go.Taq
open Go
def okC (s:ApiSite) (L f:List Int) (c:Nat):Bool:=
 decide (-1≤fu f c)&&(if kd s.Floor c=3 then decide (fu f c=0) else
  (List.range 6).all (fun d=>let r:=nx s.Floor c d;!(r.2&&!L.contains r.1&&decide (0≤fu f r.1.toNat))||(decide (0≤fu f c)&&decide (fu f c≤fu f r.1.toNat+prS s d r.1))) &&
  (decide (fu f c<0)||(List.range 6).any (fun d=>let r:=nx s.Floor c d;r.2&&!L.contains r.1&&decide (0≤fu f r.1.toNat)&&decide (fu f c=fu f r.1.toNat+prS s d r.1))))
theorem FuL.chk {s:ApiSite} {L f:List Int} (hf:RF s.Floor) (hs:RS s) (hl:f.length=s.Floor.Kind.length) (h:(List.range s.Floor.Kind.length).all (okC s L f)=true):FuL s L f:=by
 have hc:∀c,c<s.Floor.Kind.length→okC s L f c=true:=fun c hc=>List.all_eq_true.1 h c (List.mem_range.2 hc)
 have hlo:∀c,c<s.Floor.Kind.length→-1≤fu f c:=fun c h=>by
  have:=hc c h
  unfold okC at this
  rw [Bool.and_eq_true] at this
  exact of_decide_eq_true this.1
 have hhome:∀c:Nat,c<s.Floor.Kind.length→kd s.Floor c=3→fu f c=0:=fun c h h3=>by
  have:=hc c h
  unfold okC at this
  rw [if_pos h3,Bool.and_eq_true] at this
  exact of_decide_eq_true this.2
 have hother:∀c:Nat,c<s.Floor.Kind.length→kd s.Floor c≠3→(∀d:Nat,d<6→(nx s.Floor c d).2=true→(nx s.Floor c d).1∉L→0≤fu f (nx s.Floor c d).1.toNat→0≤fu f c∧fu f c≤fu f (nx s.Floor c d).1.toNat+prS s d (nx s.Floor c d).1) ∧
   (0≤fu f c→∃d:Nat,d<6∧(nx s.Floor c d).2=true∧(nx s.Floor c d).1∉L∧0≤fu f (nx s.Floor c d).1.toNat∧fu f c=fu f (nx s.Floor c d).1.toNat+prS s d (nx s.Floor c d).1):=fun c h h3=>by
  have:=hc c h
  unfold okC at this
  rw [if_neg h3,Bool.and_eq_true,Bool.and_eq_true] at this
  obtain⟨_,h1,h2⟩:=this
  refine⟨fun d hd g1 g2 g3=>?_,fun h0=>?_⟩
  ·have:=List.all_eq_true.1 h1 d (List.mem_range.2 hd)
   simp only at this
   rw [g1,decide_eq_true g3] at this
   simpa [g2] using this
  ·rw [Bool.or_eq_true] at h2
   rcases h2 with h2 | h2
   ·have:=of_decide_eq_true h2;omega
   ·obtain⟨d,hd,h2⟩:=List.any_eq_true.1 h2
    simp at h2
    exact⟨d,List.mem_range.1 hd,h2.1.1.1,h2.1.1.2,h2.1.2,h2.2⟩
 refine⟨hl,hlo,?_,?_⟩
 ·have key:∀(k c:Nat),c<s.Floor.Kind.length→(fu f c).toNat=k→0≤fu f c→WL s L c (fu f c).toNat:=by
   intro k
   induction k using Nat.strongRecOn with
   | _ k ih=>
    intro c hcl hk h0
    by_cases h3:kd s.Floor c=3
    ·rw [hhome c hcl h3];exact .home hcl h3
    ·obtain⟨d,hd,g1,g2,g3,g4⟩:=(hother c hcl h3).2 h0
     have hok:=Zy hf (c:=(c:Int)) (d:=(d:Int)) g1
     have ht:=K0.1 hok.2.1
     have hp:=Q0H (s:=s) hs (d:=(d:Int)) (by omega) (by omega) hok.2.1
     obtain⟨y,hy⟩:=Int.eq_ofNat_of_zero_le ht.1
     have hnx:nx s.Floor c d=((y:Int),true):=by rw [←hy,←g1]
     rw [hy] at g2 g3 g4 hp ht
     simp only [Int.toNat_natCast] at g3 g4
     have hw:=ih (fu f y).toNat (by omega) y (by omega) rfl g3
     have:=WL.step hcl h3 hd hnx g2 hw
     rw [show (fu f c).toNat=(fu f y).toNat+(prS s d y).toNat by omega];exact this
  exact fun c hcl h0=>key _ c hcl rfl h0
 ·intro c m hm
  induction hm with
  | home hcl h3=>rw [hhome _ hcl h3];omega
  | step hcl h3 hd hn hL hm ih=>
   rename_i c d y m
   have e1:(nx s.Floor c d).1=(y:Int):=by rw [hn]
   have e2:(nx s.Floor c d).2=true:=by rw [hn]
   have hok:=Zy hf (c:=(c:Int)) (d:=(d:Int)) e2
   have hp:=Q0H (s:=s) hs (d:=(d:Int)) (by omega) (by omega) hok.2.1
   have:=(hother c hcl h3).1 d hd e2 (by rw [e1];exact hL) (by rw [e1];simpa using ih.1)
   rw [e1] at this hp
   simp only [Int.toNat_natCast] at this
   omega
/-! ## the examples -/
def e33F:ApiFloor:={W:=4,H:=1,D:=1,Kind:=[3,1,1,3],Out:=[5,5,5,5]}
def e33S:ApiSite:={Floor:=e33F,Zones:=[],Aparts:=[],Shelves:=[],Robots:=[]}
theorem Q0V:RF e33F:=by
 refine⟨by decide,by decide,by decide,by decide,by decide,by decide,by decide,by decide,by decide,fun i x y hx hy=>?_⟩
 match i,hx,hy with
 | 0,hx,hy=>simp [e33F] at hx hy;omega
 | 1,hx,hy=>simp [e33F] at hx hy;omega
 | 2,hx,hy=>simp [e33F] at hx hy;omega
 | 3,hx,hy=>simp [e33F] at hx hy;omega
 | n+4,hx,hy=>simp [e33F] at hx
theorem Q3N:OkApiSite e33S where
 Floor:=⟨YL (by decide),YL (by decide),YL (by decide),Q2R (by decide) (fun x hx=>YL (by simp [e33S,e33F] at hx;omega)),Q2R (by decide) (fun x hx=>YL (by simp [e33S,e33F] at hx;omega))⟩
 Zones:=Q2R (by decide) (fun z hz=>by simp [e33S] at hz)
 Aparts:=Q2R (by decide) (fun x hx=>by simp [e33S] at hx)
 Shelves:=Q2R (by decide) (fun x hx=>by simp [e33S] at hx)
 Robots:=Q2R (by decide) (fun x hx=>by simp [e33S] at hx)
theorem Q10:RS e33S:=⟨Q0V,fun z hz=>by simp [e33S] at hz,fun z hz=>by simp [e33S] at hz,fun z hz=>by simp [e33S] at hz⟩
theorem e33a:FuL e33S [] [0,12,12,0]:=.chk Q0V Q10 rfl (by decide)
theorem e33b:FuL e33S [0] [0,24,12,0]:=.chk Q0V Q10 rfl (by decide)
theorem e33c:FuL e33S [2] [0,12,12,0]:=.chk Q0V Q10 rfl (by decide)
theorem e33d:FuL e33S [3] [0,12,24,0]:=.chk Q0V Q10 rfl (by decide)
theorem e33e:FuL e33S [2,0] [0,-1,12,0]:=.chk Q0V Q10 rfl (by decide)
theorem Q6s:nd e33S [] 0 4 1=24:=by
 have a:=e33a.eq (c:=1) (by decide)
 have b:=e33b.eq (c:=1) (by decide)
 have c:=e33c.eq (c:=1) (by decide)
 have d:=e33d.eq (c:=1) (by decide)
 have a':fuV e33S [] 1=12:=a.symm
 have b':fuV e33S [0] 1=24:=b.symm
 have c':fuV e33S [2] 1=12:=c.symm
 have d':fuV e33S [3] 1=12:=d.symm
 simp [nd,a',b',c',d',imax]
theorem Q6t:nd e33S [0] 0 4 1=-1:=by
 have b':fuV e33S [0] 1=24:=(e33b.eq (c:=1) (by decide)).symm
 have c':fuV e33S [2,0] 1=-1:=(e33e.eq (c:=1) (by decide)).symm
 simp [nd,b',c']
theorem Zr {s:ApiSite} {L:List Int} {D c:Int} (ks:OkApiSite s) (hf:RF s.Floor) (hs:RS s) (hn:s.Floor.Kind.length≤1000) (hL:L.length≤maxLen) (hD:0≤D∧D≤100000) {post:Int→Prop} (hp:post (if isC s.Floor c=true then nd s L D s.Floor.Kind.length c.toNat else -1)):X0 s L c D post:=by
 unfold X0 Xa
 refine Jn.mk (fun b=>b=isC s.Floor c) (Ite.mk (fun h=>?_) (fun h=>?_)) (fun b hb=>?_)
 ·have:isC s.Floor c=decide (c<(s.Floor.Kind.length:Int)):=by unfold isC;rw [decide_eq_true (show 0≤c from of_decide_eq_true h)];rfl
  exact this.symm
 ·have:isC s.Floor c=false:=by unfold isC;rw [decide_eq_false (show ¬0≤c from of_decide_eq_false h)];rfl
  exact this.symm
 ·subst hb
  refine Ite.mk (fun h=>?_) (fun h=>S_reach_Needs ks hf hs hn hL hD (fun v hv hval=>?_))
  ·have h':isC s.Floor c=false:=by simpa using h
   rw [if_neg (by rw [h'];simp)] at hp;exact hp
  ·have h':isC s.Floor c=true:=by simpa using h
   rw [if_pos h'] at hp
   have ht:=K0.1 h'
   obtain⟨y,hy⟩:=Int.eq_ofNat_of_zero_le ht.1
   subst hy
   refine⟨_,Yr (by omega),?_⟩
   rw [hval y (by omega)]
   simpa using hp
theorem Q0I {post:Bool→Prop} (hp:post true):Ko post:=by
 unfold Ko KK
 show Jn _ _
 have k:∀l:List Int,l.length≤5→l.length≤maxLen:=fun l h=>Nat.le_trans h (by decide)
 refine Jn.mk (fun b=>b=true) (GR (Ite.t rfl ?_)) (fun b hb=>hb▸hp)
 show X1 e33S 2 1 _
 refine YP Q3N Q10 (Ite.t (by decide) ?_)
 show Xz e33S [] _
 refine Q1w Q3N Q0V Q10 (by decide) (k _ (by decide)) (fun f hF=>?_)
 rw [hF.uniq e33a (fun y=>Iff.rfl)]
 refine Q0Q (k _ (by decide)) (Ite.t rfl ?_)
 show X0 e33S [] 1 0 _
 refine Zr Q3N Q0V Q10 (by decide) (k _ (by decide)) (by omega) ?_
 have e1:(if isC e33S.Floor 1=true then nd e33S [] 0 e33S.Floor.Kind.length (Int.toNat 1) else -1)=24:=by
  rw [if_pos (by decide)];exact Q6s
 rw [e1]
 refine Ite.t rfl ?_
 show X0 e33S [0] 1 0 _
 refine Zr Q3N Q0V Q10 (by decide) (k _ (by decide)) (by omega) ?_
 have e2:(if isC e33S.Floor 1=true then nd e33S [0] 0 e33S.Floor.Kind.length (Int.toNat 1) else -1)=-1:=by
  rw [if_pos (by decide)];exact Q6t
 rw [e2];rfl
theorem Q1H {s:ApiSite} {n:Int} (ks:OkApiSite s) {post:Bool→Prop} (hF:post false) (hT:ZO s→FewS s n 20→post true):Ky s n post:=by
 unfold Ky
 exact Jn.mk' (Q1V ks (by omega) (Ite.f rfl hF) (fun h1=>Ite.t rfl (Q0f ks h1 (by omega) hF (fun h2=>hT h2 h1))))
/-! ## ReachFuel -/
theorem FuL.zero {s:ApiSite} {L f:List Int} (hf:RF s.Floor) (hs:RS s) (h:FuL s L f) {c:Nat} (hc:c<s.Floor.Kind.length):fu f c=0↔kd s.Floor c=3:=by
 constructor
 ·intro e
  have hw:=h.sound c hc (by omega)
  rw [e] at hw
  generalize hm:Int.toNat 0=m at hw
  cases hw with
  | home _ hh=>exact hh
  | step hcl hnh hd hn hL hw=>
   rename_i d y m
   have hok:=Zy hf (c:=(c:Int)) (d:=(d:Int)) (by rw [hn])
   rw [hn] at hok
   have hp:=(Q0H (s:=s) hs (d:=(d:Int)) (by omega) (by omega) hok.2.1).1
   have hp1:1≤prS s (d:Int) (y:Int):=hp
   simp at hm;omega
 ·intro e
  have:=h.least c 0 (.home hc e);omega
end Go.Taq
/- The mathematics, part GI: ReachNeeds (chapter 33). -/
set_option linter.unusedVariables false
set_option linter.unusedSimpArgs false
namespace Go.Taq
open Go
end Go.Taq
/- The mathematics, part GJ: the reference's prices and fuel (chapter 33). -/
set_option linter.unusedVariables false
set_option linter.unusedSimpArgs false
namespace Go.Taq
open Go
structure RInv (s:ApiSite) (L f:List Int):Prop where
 len:f.length=s.Floor.Kind.length
 lo:∀c,c<s.Floor.Kind.length→-1≤fu f c
 hi:∀c,c<s.Floor.Kind.length→fu f c≤400*nn f
 sound:∀c,c<s.Floor.Kind.length→0≤fu f c→WL s L c (fu f c).toNat
 home:∀c:Nat,c<s.Floor.Kind.length→kd s.Floor c=3→fu f c=0
section
variable {s:ApiSite} {L f:List Int}
theorem Q44 (f:List Int):nn f≤f.length:=List.countP_le_length
theorem RInv.top (hn:s.Floor.Kind.length≤1000) (h:RInv s L f) {c:Nat} (hc:c<s.Floor.Kind.length):fu f c≤400000:=by
 have h1:=h.hi c hc
 have h2:=Q44 f
 have h3:=h.len
 omega
theorem RInv.put (hf:RF s.Floor) (hs:RS s) (hn:s.Floor.Kind.length≤1000) (h:RInv s L f) {c d y:Nat} (hc:c<s.Floor.Kind.length) (h3:kd s.Floor c≠3) (hd:d<6) (hnx:nx s.Floor c d=((y:Int),true)) (hL:(y:Int)∉L) (h0:0≤fu f y) (hlt:fu f c<0∨fu f y+prS s d y<fu f c):
  RInv s L (f.set c (fu f y+prS s d y))∧WF 400000 (f.set c (fu f y+prS s d y))<WF 400000 f:=by
 have hlen:=h.len
 have hcl:c<f.length:=by omega
 have hfc:=Q0v hcl
 have hok:=Zy hf (c:=(c:Int)) (d:=(d:Int)) (by rw [hnx])
 rw [hnx] at hok
 have hty:=K0.1 hok.2.1
 have hp:1≤prS s (d:Int) (y:Int)∧prS s (d:Int) (y:Int)≤400:=Q0H (s:=s) hs (by omega) (by omega) hok.2.1
 have hyn:y<s.Floor.Kind.length:=by have:((y:Int))<(s.Floor.Kind.length:Int):=hty.2;omega
 have hhy:=h.hi y hyn
 generalize hr:fu f y+prS s d y=r at *
 have hcnt:=Q2Z (fun v:Int=>decide (0≤v)) (y:=r) hfc
 have hset:∀e,fu (f.set c r) e=if e=c then r else fu f e:=fun e=>YU hcl
 have hr0:0≤r:=by omega
 have hnn:(nn (f.set c r):Int)=nn f+(if fu f c<0 then 1 else 0):=by
  unfold nn
  rw [if_pos (decide_eq_true hr0)] at hcnt
  split
  ·rename_i hneg
   rw [if_neg (by simp;omega)] at hcnt;omega
  ·rename_i hneg
   rw [if_pos (by simp;omega)] at hcnt;omega
 refine⟨⟨by rw [List.length_set];exact hlen,fun e he=>?_,fun e he=>?_,fun e he he0=>?_,fun e he heh=>?_⟩,?_⟩
 ·rw [hset];split
  ·omega
  ·exact h.lo e he
 ·rw [hset,hnn]
  have h1:=h.hi e he
  have h2:=h.hi c hc
  split <;> split <;> omega
 ·rw [hset] at he0 ⊢
  split
  ·rename_i e2
   subst e2
   have:=WL.step hc h3 hd hnx hL (h.sound y hyn h0)
   rw [show r.toNat=(fu f y).toNat+(prS s d y).toNat by omega];exact this
  ·rename_i e2
   rw [if_neg e2] at he0
   exact h.sound e he he0
 ·rw [hset,if_neg (fun e2=>h3 (by rw [←e2];exact heh))];exact h.home e he heh
 ·have hs2:=Q0Z (wtF 400000) (y:=r) hfc
  have htop:=h.top hn hc
  have hytop:=h.top hn hyn
  have hrtop:r≤400000:=by
   rcases hlt with h4 | h4
   ·have h5:=Q44 (f.set c r)
    rw [List.length_set] at h5
    rw [if_pos h4] at hnn
    omega
   ·omega
  have:wtF 400000 r<wtF 400000 (fu f c):=by
   unfold wtF
   rw [if_neg (by omega)]
   split <;> omega
  unfold WF;omega
end
end Go.Taq
