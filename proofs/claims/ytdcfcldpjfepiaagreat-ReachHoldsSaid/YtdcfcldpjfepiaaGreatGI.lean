/- The mathematics, several parts in one text. -/
import Derived.Test.YtdcfcldpjfepiaaGreatBF
import Derived.Test.YtdcfcldpjfepiaaGreatMZ
/- The mathematics, part BG: BankFinds. -/
set_option linter.unusedVariables false
set_option linter.unusedSimpArgs false
namespace Go.Taq
open Go
section
end
end Go.Taq
/- The mathematics, part GE: the cells whose best ways lead over a cell, and their fuel without it (chapter 33). -/
set_option linter.unusedVariables false
set_option linter.unusedSimpArgs false
namespace Go.Taq
open Go
theorem Q3g {α:Type} {l:List α} (h:l.Nodup) {i j:Nat} {a:α} (hi:l[i]?=some a) (hj:l[j]?=some a):i=j:=by
 obtain⟨h1,e1⟩:=List.getElem?_eq_some_iff.1 hi
 obtain⟨h2,e2⟩:=List.getElem?_eq_some_iff.1 hj
 have hp:=List.pairwise_iff_getElem.1 h
 rcases Nat.lt_trichotomy i j with hlt | he | hlt
 ·exact absurd (e1.trans e2.symm) (hp i j h1 h2 hlt)
 ·exact he
 ·exact absurd (e2.trans e1.symm) (hp j i h2 h1 hlt)
def Par (g:ReachGraph) (f:List Int) (c y:Nat):Prop:=g.home[c]?=some false∧0≤fu f c∧0≤fu f y∧∃l x,g.out[c]?=some l∧x∈l∧x.to_=(y:Int)∧fu f c=fu f y+x.price
structure ChOk (g:ReachGraph) (n:Nat) (f:List Int) (i:Nat) (ch:List (List Int)):Prop where
 len:ch.length=n
 mem:∀(y:Nat) (l:List Int),ch[y]?=some l→l.Nodup∧∀a,a∈l→∃c:Nat,a=(c:Int)∧c<i∧Par g f c y
 uniq:∀(y y':Nat) (l l':List Int) (a:Int),ch[y]?=some l→ch[y']?=some l'→a∈l→a∈l'→y=y'
 all:∀c,c<i→g.home[c]?=some false→0≤fu f c→∃(y:Nat) (l:List Int),ch[y]?=some l∧(c:Int)∈l
inductive Und (ch:List (List Int)) (x:Nat):Nat→Prop where
 | one {c:Nat} {l:List Int} (h:ch[x]?=some l) (hc:(c:Int)∈l):Und ch x c
 | step {c y:Nat} {l:List Int} (hy:Und ch x y) (h:ch[y]?=some l) (hc:(c:Int)∈l):Und ch x c
section
variable {g:ReachGraph} {n:Nat} {P:Int} {f:List Int} {ch:List (List Int)} {x:Nat}
theorem Par.lt (hg:GOk n P g) {c y:Nat} (h:Par g f c y):fu f y<fu f c:=by
 obtain⟨_,_,_,l,z,hl,hz,_,he⟩:=h
 have:=(hg.to_ c l z hl hz).2.1
 omega
theorem ChOk.par {i:Nat} (h:ChOk g n f i ch) {y c:Nat} {l:List Int} (hl:ch[y]?=some l) (hc:(c:Int)∈l):c<i∧Par g f c y:=by
 obtain⟨c',e,h1,h2⟩:=(h.mem y l hl).2 _ hc
 have:c=c':=by omega
 subst this;exact⟨h1,h2⟩
theorem Q3M (hg:GOk n P g) (h:ChOk g n f n ch) {c:Nat} (hu:Und ch x c):fu f x<fu f c∧c<n∧g.home[c]?=some false∧0≤fu f x:=by
 induction hu with
 | one hl hc=>have:=h.par hl hc;exact⟨this.2.lt hg,this.1,this.2.1,this.2.2.2.1⟩
 | step hy hl hc ih=>have:=h.par hl hc;have h2:=this.2.lt hg;exact⟨by omega,this.1,this.2.1,ih.2.2.2⟩
theorem ChOk.row {i:Nat} (h:ChOk g n f i ch) {y:Nat} (hy:y<n):∃l,ch[y]?=some l:=⟨_,List.getElem?_eq_getElem (by rw [h.len];exact hy)⟩
theorem ChOk.rlen (h:ChOk g n f n ch) {y:Nat} {l:List Int} (hl:ch[y]?=some l):l.length≤n:=Y0 n l (h.mem y l hl).1 (fun a ha=>by
 obtain⟨c,e,h1,_⟩:=(h.mem y l hl).2 a ha
 omega)
structure Blw (ch:List (List Int)) (x n:Nat) (bl:List Int):Prop where
 nd:bl.Nodup
 mem:∀c:Nat,(c:Int)∈bl↔Und ch x c
 rng:∀a,a∈bl→0≤a∧a<n
theorem Q5f (hg:GOk n P g) (h:ChOk g n f n ch) {row:List Int} (hx:ch[x]?=some row) {K:List Int→Prop} (hK:∀bl,Blw ch x n bl→K bl):
  Jn (fun (J10:(List Int)→Prop)=>Loop (fun (s11:List Int×Int) Y12=>Ite (decide (s11.2<(s11.1.length:Int))) (∃x18,idx s11.1 s11.2=some x18∧∃x19,idx ch x18=some x19∧(s11.1.length+x19.length≤1099511627776)∧Y12 ((s11.1++x19),w64 (s11.2+1))) (J10 s11.1)) (row,0)) (fun (x9:List Int)=>K x9):=by
 have hn4:=hg.n4
 have hrow:=h.mem x row hx
 refine Jn.mk (fun bl=>Blw ch x n bl) (Loop.mk (fun t:List Int×Int=>∃i:Nat,t.2=(i:Int)∧i≤t.1.length∧t.1.Nodup∧(∀a,a∈t.1→0≤a∧a<n)∧(∀c:Nat,(c:Int)∈t.1→Und ch x c)∧(∀a,a∈row→a∈t.1)∧(∀(j y:Nat) (l:List Int),j<i→t.1[j]?=some (y:Int)→ch[y]?=some l→∀a,a∈l→a∈t.1) ∧
   (∀a,a∈t.1→a∈row∨∃(j y:Nat) (l:List Int),j<i∧t.1[j]?=some (y:Int)∧ch[y]?=some l∧a∈l)) (fun t=>n-t.2.toNat) ⟨0,rfl,by omega,hrow.1,fun a ha=>?_,fun c hc=>.one hx hc,fun a ha=>ha,fun j y l hj=>by omega,fun a ha=>.inl ha⟩ ?_) (fun bl hbl=>hK bl hbl)
 ·obtain⟨c,e,h1,_⟩:=hrow.2 a ha;omega
 ·rintro⟨bl,ii⟩ ⟨i,e,hi,hnd,hrg,hund,hrw,hcl,hsrc⟩
  simp only at e hi hnd hrg hund hrw hcl hsrc
  subst e
  have hbn:=Y0 n bl hnd hrg
  refine Ite.mk (fun hlt=>?_) (fun hlt=>?_)
  ·have hlt':i<bl.length:=by have:=of_decide_eq_true hlt;simp at this;exact this
   have ha:=List.getElem?_eq_getElem hlt'
   generalize bl[i]=a at ha
   have ham:=List.mem_of_getElem? ha
   have har:=hrg a ham
   obtain⟨y,hy⟩:=Int.eq_ofNat_of_zero_le har.1
   subst hy
   obtain⟨l,hl⟩:=h.row (show y<n by omega)
   have hll:=h.rlen hl
   have hlm:=h.mem y l hl
   have huy:=hund y ham
   have hyx:=(Q3M hg h huy).1
   have hdis:∀a,a∈bl→a∈l→False:=fun a hab hal=>by
    rcases hsrc a hab with hr | ⟨j,z,l',hj,hz,hl',hal'⟩
    ·have:=h.uniq x y row l a hx hl hr hal
     subst this;omega
    ·have:=h.uniq z y l' l a hl' hl hal' hal
     subst this
     have hjn:j=i:=Q3g hnd hz ha
     omega
   refine⟨(y:Int),QD rfl ha,l,QD rfl hl,by show bl.length+l.length≤_;omega,⟨i+1,by show w64 _=_;rw [QF (by omega) (by omega)];simp,by show i+1≤(bl++l).length;rw [List.length_append];omega,?_,fun a ha=>?_,fun c hc=>?_,fun a ha=>List.mem_append_left _ (hrw a ha),fun j z l' hj hz hl' a ha'=>?_,fun a ha'=>?_⟩,?_⟩
   ·show (bl++l).Nodup
    exact List.nodup_append.2 ⟨hnd,hlm.1,fun a ha b hb e=>hdis a ha (e▸hb)⟩
   ·rcases List.mem_append.1 ha with ha | ha
    ·exact hrg a ha
    ·obtain⟨c,e,h1,_⟩:=hlm.2 a ha;omega
   ·rcases List.mem_append.1 hc with hc | hc
    ·exact hund c hc
    ·exact .step huy hl hc
   ·have hjl:j<bl.length:=by omega
    have hz':(bl++l)[j]?=some (z:Int):=hz
    rw [List.getElem?_append_left hjl] at hz'
    by_cases ej:j=i
    ·subst ej
     rw [ha] at hz'
     have:y=z:=by have:=Option.some.inj hz';omega
     subst this
     rw [hl] at hl';cases hl'
     exact List.mem_append_right _ ha'
    ·exact List.mem_append_left _ (hcl j z l' (by omega) hz' hl' a ha')
   ·rcases List.mem_append.1 ha' with ha' | ha'
    ·rcases hsrc a ha' with hr | ⟨j,z,l',hj,hz,hl',hal'⟩
     ·exact .inl hr
     ·exact .inr ⟨j,z,l',by omega,by show (bl++l)[j]?=_;rw [List.getElem?_append_left (by omega)];exact hz,hl',hal'⟩
    ·exact .inr ⟨i,y,l,by omega,by show (bl++l)[i]?=_;rw [List.getElem?_append_left hlt'];exact ha,hl,ha'⟩
   ·show n-(w64 ((i:Int)+1)).toNat<n-((i:Int)).toNat
    rw [QF (by omega) (by omega)];omega
  ·have hlt':¬i<bl.length:=by have:=of_decide_eq_false hlt;simp at this;omega
   have hie:i=bl.length:=by omega
   refine⟨hnd,fun c=>⟨hund c,fun hu=>?_⟩,hrg⟩
   show (c:Int)∈bl
   induction hu with
   | one hl hc=>rw [hx] at hl;cases hl;exact hrw _ hc
   | step hy hl hc ih=>
    obtain⟨j,hj⟩:=List.getElem?_of_mem ih
    exact hcl j _ _ (by have:=(List.getElem?_eq_some_iff.1 hj).1;omega) hj hl _ hc
theorem Q4v (hg:GOk n P g) (hF:FOk g (-1) n f) (h:ChOk g n f n ch) (hh:∀c,c<n→g.home[c]?=some true→fu f c=0):∀(k c:Nat),c<n→(fu f c).toNat=k→¬Und ch x c→0≤fu f c→Wg g x c (fu f c).toNat:=by
 intro k
 induction k using Nat.strongRecOn with
 | _ k ih=>
  intro c hc hk hu h0
  have hho:=List.getElem?_eq_getElem (show c<g.home.length by rw [hg.lh];exact hc)
  cases hb:g.home[c]'(by rw [hg.lh];exact hc) with
  | true=>
   rw [hb] at hho
   rw [hh c hc hho];exact .home hho
  | false=>
   rw [hb] at hho
   obtain⟨y,l,hl,hcl⟩:=h.all c hc hho h0
   obtain⟨_,hpar⟩:=h.par hl hcl
   have hlt:=hpar.lt hg
   obtain⟨_,_,y0,m,z,hm,hz,hzt,he⟩:=hpar
   have hyn:y<n:=by rw [←h.len];exact (List.getElem?_eq_some_iff.1 hl).1
   have hyx:y≠x:=fun e=>by subst e;exact hu (.one hl hcl)
   have hyu:¬Und ch x y:=fun h2=>hu (.step h2 hl hcl)
   have hw:=ih (fu f y).toNat (by omega) y hyn rfl hyu y0
   have hp:=(hg.to_ c m z hm hz).2
   have e1:z.to_.toNat=y:=by omega
   have:=Wg.step (b:=(x:Int)) hho hm hz (by omega) (by rw [e1];exact hw)
   rw [show (fu f c).toNat=(fu f y).toNat+z.price.toNat by omega]
   exact this
theorem Wg.weak (hg:GOk n P g) {b:Int} {c m:Nat} (h:Wg g b c m):Wg g (-1) c m:=by
 induction h with
 | home h=>exact .home h
 | step h hl hx hb hm ih=>exact .step h hl hx (by have:=(hg.to_ _ _ _ hl hx).1;omega) ih
end
end Go.Taq
/- The mathematics, part GF: the fuel without a cell (chapter 33). -/
set_option linter.unusedVariables false
set_option linter.unusedSimpArgs false
namespace Go.Taq
open Go
theorem QG {α:Type} {l:List α} {i:Nat} {x y:α} (h:l[i]?=some x):y∈l.take (i+1)↔y∈l.take i∨y=x:=by
 rw [QL h,List.mem_append];simp
section
variable {g:ReachGraph} {n:Nat} {P:Int} {f:List Int} {ch:List (List Int)} {x:Nat}
theorem FOk.home (hF:FOk g (-1) n f) {c:Nat} (hc:c<n) (hh:g.home[c]?=some true):fu f c=0:=by
 have:=hF.least c hc 0 (.home hh);omega
theorem Q6a (hg:GOk n P g) (hF:FOk g (-1) n f) (hB:∀c,c<n→fu f c≤P*n) (h:ChOk g n f n ch) (hx:x<n) {post:Sum Unit (List (Int×Int))→Prop}
  (hp1:(∀c,¬Und ch x c)→post (.inl ()))
  (hp2:∀mp f',FOk g x n f'→(∀c,c<n→fu f' c≤40000000)→(∀c,c<n→¬Und ch x c→fu f' c=fu f c)→(∀a v,lk mp a=some v↔∃c:Nat,a=(c:Int)∧Und ch x c∧v=fu f' c)→post (.inr mp)):
  Kh g f ch (x:Int) post:=by
 obtain⟨row,hrow⟩:=h.row hx
 have hn4:=hg.n4;have hp0:=hg.p0
 have hrl:=h.rlen hrow
 have hlen:=hF.len
 have hPn:=Q3O (g:=g) (K:=0) hg (by omega)
 unfold Kh
 refine⟨row,QD rfl hrow,WE (by omega) (Q5f hg h hrow (fun bl hbl=>Ite.mk (fun he=>hp1 (fun c hc=>?_)) (fun he=>?_)))⟩
 ·have hm:=(hbl.mem c).2 hc
  have:bl=[]:=by
   cases bl with
   | nil=>rfl
   | cons a r=>simp at he;omega
  rw [this] at hm;cases hm
 have hbn:=Y0 n bl hbl.nd hbl.rng
 have hnat:∀a,a∈bl→∃c:Nat,a=(c:Int)∧c<n:=fun a ha=>by
  obtain⟨c,hc⟩:=Int.eq_ofNat_of_zero_le (hbl.rng a ha).1
  exact⟨c,hc,by have:=(hbl.rng a ha).2;omega⟩
 refine WE (by omega) ?_
 -- the cells below lose their fuel
 refine Jn.mk (fun t:List Int×List (Int×Int)=>t.1.length=n∧(∀d,d<n→fu t.1 d=if (d:Int)∈bl then -1 else fu f d)∧∀a,lk t.2 a=if a∈bl then some (-1) else none)
  (Km (xs:=bl) (by unfold maxLen;omega) (fun t:List Int×List (Int×Int)×Int=>t.2.2) (fun i t=>t.1.length=n∧(∀d,d<n→fu t.1 d=if (d:Int)∈bl.take i then -1 else fu f d)∧∀a,lk t.2.1 a=if a∈bl.take i then some (-1) else none) rfl ⟨hlen,fun d hd=>by simp,fun a=>by simp [lk]⟩ (fun i a t ha ht hI=>?_) (fun t hI=>by rw [List.take_length] at hI;exact hI)) (fun t1 ht1=>?_)
 ·obtain⟨i1,i2,i3⟩:=hI
  obtain⟨c,hc,hcn⟩:=hnat a (List.mem_of_getElem? ha)
  subst hc
  have hset:∀d,fu (t.1.set c (-1)) d=if d=c then -1 else fu t.1 d:=fun d=>ZT (by omega)
  refine⟨_,Ye (by omega),by rw [ht],by show (t.1.set _ _).length=n;rw [List.length_set];exact i1,fun d hd=>?_,fun a=>?_⟩
  ·show fu (t.1.set c (-1)) d=_
   rw [hset,i2 d hd]
   by_cases e:d=c
   ·rw [if_pos e,if_pos ((QG ha).2 (.inr (by rw [e])))]
   ·rw [if_neg e]
    by_cases e2:(d:Int)∈bl.take i
    ·rw [if_pos e2,if_pos ((QG ha).2 (.inl e2))]
    ·rw [if_neg e2,if_neg (fun h=>((QG ha).1 h).elim e2 (fun h=>e (by omega)))]
  ·show lk (upd t.2.1 (c:Int) (-1)) a=_
   rw [Wu,i3]
   by_cases e:(c:Int)=a
   ·rw [if_pos e,if_pos ((QG ha).2 (.inr e.symm))]
   ·rw [if_neg e]
    by_cases e2:a∈bl.take i
    ·rw [if_pos e2,if_pos ((QG ha).2 (.inl e2))]
    ·rw [if_neg e2,if_neg (fun h=>((QG ha).1 h).elim e2 (fun h=>e h.symm))]
 obtain⟨f1,m1⟩:=t1
 obtain⟨l1,b1,k1⟩:=ht1
 simp only at l1 b1 k1
 have hf1b:∀c,c<n→fu f1 c≤P*n:=fun c hc=>by
  rw [b1 c hc];split
  ·omega
  ·exact hB c hc
 -- one step to a cell that is not below
 let V:=fun (c:Nat) (v:Int)=>∃l r,g.out[c]?=some l∧Best f1 l x r∧v=if 0≤r.1 then r.1 else -1
 refine Jn.mk (fun m=>(∀a,a∉bl→lk m a=none)∧∀c:Nat,(c:Int)∈bl→∃v,lk m c=some v∧V c v)
  (Km (xs:=bl) (by unfold maxLen;omega) (fun t:List (Int×Int)×Int=>t.2) (fun i t=>(∀a,a∉bl→lk t.1 a=none)∧(∀a,a∈bl→a∉bl.take i→lk t.1 a=some (-1))∧∀c:Nat,(c:Int)∈bl.take i→∃v,lk t.1 c=some v∧V c v) rfl ⟨fun a ha=>by show lk m1 a=_;rw [k1,if_neg ha],fun a ha _=>by show lk m1 a=_;rw [k1,if_pos ha],fun c hc=>by simp at hc⟩ (fun i a t ha ht hI=>?_) (fun t hI=>by rw [List.take_length] at hI;exact⟨hI.1,hI.2.2⟩)) (fun m2 hm2=>?_)
 ·obtain⟨i1,i2,i3⟩:=hI
  have ham:=List.mem_of_getElem? ha
  obtain⟨c,hc,hcn⟩:=hnat a ham
  subst hc
  have hnot:(c:Int)∉bl.take i:=fun hm=>by
   obtain⟨j,hj⟩:=List.getElem?_of_mem hm
   rw [List.getElem?_take] at hj
   split at hj
   ·rename_i hji
    have:=Q3g hbl.nd hj ha;omega
   ·cases hj
  refine YZ hg l1 (fun d hd=>by have:=hf1b d hd;omega) hcn (fun l r hl hr=>?_)
  refine Jn.mk (fun m=>(∀a,a∉bl→lk m a=none)∧(∀a,a∈bl→a∉bl.take (i+1)→lk m a=some (-1))∧∀c:Nat,(c:Int)∈bl.take (i+1)→∃v,lk m c=some v∧V c v) (Ite.mk (fun h0=>?_) (fun h0=>?_)) (fun m hm=>⟨by rw [ht],hm⟩)
  ·have h0':0≤r.1:=of_decide_eq_true h0
   refine⟨fun a hna=>?_,fun a hb hnt=>?_,fun d hd=>?_⟩
   ·rw [Wu,if_neg (fun e=>hna (by rw [←e];exact ham))];exact i1 a hna
   ·rw [Wu,if_neg (fun e=>hnt ((QG ha).2 (.inr e.symm)))]
    exact i2 a hb (fun hm=>hnt ((QG ha).2 (.inl hm)))
   ·rw [Wu]
    by_cases e:(c:Int)=d
    ·have:c=d:=by omega
     subst this
     rw [if_pos rfl];exact⟨_,rfl,l,r,hl,hr,by rw [if_pos h0']⟩
    ·rw [if_neg e]
     exact i3 d (((QG ha).1 hd).resolve_right (fun h=>e h.symm))
  ·have h0':¬0≤r.1:=of_decide_eq_false h0
   refine⟨i1,fun a hb hnt=>i2 a hb (fun hm=>hnt ((QG ha).2 (.inl hm))),fun d hd=>?_⟩
   by_cases e:(c:Int)=d
   ·have:c=d:=by omega
    subst this
    exact⟨-1,i2 _ ham hnot,l,r,hl,hr,by rw [if_neg h0']⟩
   ·exact i3 d (((QG ha).1 hd).resolve_right (fun h=>e h.symm))
 obtain⟨n2,v2⟩:=hm2
 let w:=fun c:Nat=>(lk m2 (c:Int)).getD 0
 have hw:∀c:Nat,(c:Int)∈bl→V c (w c):=fun c hc=>by
  obtain⟨v,e,hv⟩:=v2 c hc
  show V c ((lk m2 (c:Int)).getD 0)
  rw [e];exact hv
 -- they come into the table,and into the queue
 refine Jn.mk (fun t:List Int×List Int=>t.1.length=n∧(∀d,d<n→fu t.1 d=if (d:Int)∈bl then w d else fu f d)∧(∀a,a∈t.2→a∈bl)∧(∀c:Nat,(c:Int)∈bl→0≤w c→(c:Int)∈t.2)∧t.2.length≤n)
  (Km (xs:=bl) (by unfold maxLen;omega) (fun t:List Int×List Int×Int=>t.2.2) (fun i t=>t.1.length=n∧(∀d,d<n→fu t.1 d=if (d:Int)∈bl.take i then w d else fu f1 d)∧(∀a,a∈t.2.1→a∈bl)∧(∀c:Nat,(c:Int)∈bl.take i→0≤w c→(c:Int)∈t.2.1)∧t.2.1.length≤i) rfl ⟨l1,fun d hd=>by simp,fun a ha=>(by cases ha),fun c hc=>by simp at hc,by simp⟩ (fun i a t ha ht hI=>?_) (fun t hI=>?_)) (fun t2 ht2=>?_)
 ·obtain⟨i1,i2,i3,i4,i5⟩:=hI
  have ham:=List.mem_of_getElem? ha
  obtain⟨c,hc,hcn⟩:=hnat a ham
  subst hc
  have hil:=(List.getElem?_eq_some_iff.1 ha).1
  have hset:∀d,fu (t.1.set c (w c)) d=if d=c then w c else fu t.1 d:=fun d=>ZT (by omega)
  have hfin:∀d,d<n→fu (t.1.set c (w c)) d=if (d:Int)∈bl.take (i+1) then w d else fu f1 d:=fun d hd=>by
   rw [hset,i2 d hd]
   by_cases e:d=c
   ·subst e
    rw [if_pos rfl,if_pos ((QG ha).2 (.inr rfl))]
   ·rw [if_neg e]
    by_cases e2:(d:Int)∈bl.take i
    ·rw [if_pos e2,if_pos ((QG ha).2 (.inl e2))]
    ·rw [if_neg e2,if_neg (fun h=>((QG ha).1 h).elim e2 (fun h=>e (by omega)))]
  refine⟨_,Ye (by omega),Jn.mk (fun q=>(∀a,a∈q→a∈bl)∧(∀c:Nat,(c:Int)∈bl.take (i+1)→0≤w c→(c:Int)∈q)∧q.length≤i+1) (Ite.mk (fun h0=>⟨by simp;omega,?_⟩) (fun h0=>?_)) (fun q hq=>⟨by rw [ht],by show (t.1.set _ _).length=n;rw [List.length_set];exact i1,hfin,hq⟩)⟩
  ·refine⟨fun a hq=>?_,fun d hd hd0=>?_,by simp;omega⟩
   ·rcases List.mem_append.1 hq with hq | hq
    ·exact i3 a hq
    ·simp at hq;subst hq;exact ham
   ·rcases (QG ha).1 hd with hd | hd
    ·exact List.mem_append_left _ (i4 d hd hd0)
    ·exact List.mem_append_right _ (by simp [hd])
  ·have h0':¬0≤w c:=of_decide_eq_false h0
   refine⟨i3,fun d hd hd0=>?_,by omega⟩
   rcases (QG ha).1 hd with hd | hd
   ·exact i4 d hd hd0
   ·have:d=c:=by omega
    subst this;exact absurd hd0 h0'
 ·obtain⟨i1,i2,i3,i4,i5⟩:=hI
  rw [List.take_length] at i2 i4
  refine⟨i1,fun d hd=>?_,i3,i4,by show t.2.1.length≤n;omega⟩
  rw [i2 d hd]
  by_cases e:(d:Int)∈bl
  ·rw [if_pos e,if_pos e]
  ·rw [if_neg e,if_neg e,b1 d hd,if_neg e]
 obtain⟨f2,q2⟩:=t2
 obtain⟨l2,b2,q2a,q2b,q2l⟩:=ht2
 simp only at l2 b2 q2a q2b q2l
 have hho:=fun c hc hh=>hF.home (c:=c) hc hh
 have hot:=Q4v (x:=x) hg hF h hho
 have hf1:∀c,c<n→0≤fu f1 c→(c:Int)∉bl∧fu f1 c=fu f c:=fun c hc h0=>by
  have e:=b1 c hc
  by_cases hm:(c:Int)∈bl
  ·rw [if_pos hm] at e;omega
  ·rw [if_neg hm] at e;exact⟨hm,e⟩
 have hwb:∀c:Nat,(c:Int)∈bl→-1≤w c∧w c≤P*n+P:=fun c hc=>by
  obtain⟨l,r,hl,hr,e⟩:=hw c hc
  rw [e]
  split
  ·rename_i h0
   rcases hr.is with er | ⟨z,hz,hzb,hz0,er⟩
   ·rw [er] at h0;exact absurd h0 (by decide)
   ·obtain⟨⟨t0,t1⟩,p1,p2⟩:=hg.to_ c l z hl hz
    have:=hf1b z.to_.toNat (by omega)
    rw [er];show -1≤fu f1 z.to_.toNat+z.price∧fu f1 z.to_.toNat+z.price≤_;omega
  ·omega
 have hnn:0≤P*(nn f2:Int):=Int.mul_nonneg (by omega) (by omega)
 have hS:SInv g x n P (P*n+P) (fun c=>(c:Int)∈bl) f2 f2 q2:=by
  refine⟨l2,fun c hc=>?_,fun c hc=>?_,fun c hc h0=>?_,fun c hc hh=>?_,fun c l z hm hh hl hz hzb hz0 hzq=>?_,fun a ha=>hbl.rng a (q2a a ha),fun c hc _=>rfl⟩
  ·rw [b2 c hc];split
   ·rename_i hm;exact (hwb c hm).1
   ·exact hF.lo c hc
  ·rw [b2 c hc];split
   ·rename_i hm;have:=(hwb c hm).2;omega
   ·have:=hB c hc;omega
  ·rw [b2 c hc] at h0 ⊢
   by_cases hm:(c:Int)∈bl
   ·rw [if_pos hm] at h0 ⊢
    obtain⟨l,r,hl,hr,e⟩:=hw c hm
    rw [e] at h0 ⊢
    split at h0
    ·rename_i hr0
     rw [if_pos hr0]
     rcases hr.is with er | ⟨z,hz,hzb,hz0,er⟩
     ·rw [er] at hr0;exact absurd hr0 (by decide)
     ·obtain⟨⟨t0,t1⟩,p1,p2⟩:=hg.to_ c l z hl hz
      have hzn:z.to_.toNat<n:=by omega
      obtain⟨hzm,hze⟩:=hf1 _ hzn hz0
      have hwz:=hot _ _ hzn rfl (fun hu=>hzm ((hbl.mem _).2 hu)) (by omega)
      have hst:=Wg.step (b:=(x:Int)) (Q3M hg h ((hbl.mem c).1 hm)).2.2.1 hl hz hzb hwz
      have e1:r.1=fu f1 z.to_.toNat+z.price:=by rw [er]
      rw [show r.1.toNat=(fu f z.to_.toNat).toNat+z.price.toNat by omega]
      exact hst
    ·omega
   ·rw [if_neg hm] at h0 ⊢
    exact hot _ c hc rfl (fun hu=>hm ((hbl.mem c).2 hu)) h0
  ·have hm:(c:Int)∉bl:=fun hm=>by
    have:=(Q3M hg h ((hbl.mem c).1 hm)).2.2.1
    rw [hh] at this;cases this
   rw [b2 c hc,if_neg hm];exact hho c hc hh
  ·have hcn:c<n:=by have:=hbl.rng _ hm;omega
   obtain⟨⟨t0,t1⟩,p1,p2⟩:=hg.to_ c l z hl hz
   have hzn:z.to_.toNat<n:=by omega
   have ez:((z.to_.toNat:Nat):Int)=z.to_:=by omega
   rw [b2 _ hzn] at hz0 ⊢
   by_cases hzm:((z.to_.toNat:Nat):Int)∈bl
   ·rw [if_pos hzm] at hz0
    have:=q2b _ hzm hz0
    rw [ez] at this;exact absurd this hzq
   ·rw [if_neg hzm] at hz0 ⊢
    rw [b2 c hcn,if_pos hm]
    obtain⟨l',r,hl',hr,e⟩:=hw c hm
    rw [hl] at hl';cases hl'
    have e1:fu f1 z.to_.toNat=fu f z.to_.toNat:=by rw [b1 _ hzn,if_neg hzm]
    have:=hr.le z hz hzb (by rw [e1];exact hz0)
    rw [e1] at this
    rw [e,if_pos this.1];exact this
 have hKb:0≤P*(n:Int)+P∧P*(n:Int)+P≤20000000:=by omega
 have hwf:=Q98 (K:=P*n+P) hg hKb l2 (fun c hc=>hS.top hg hc)
 unfold QB
 haveI:DecidablePred (fun c:Nat=>(c:Int)∈bl):=fun c=>inferInstanceAs (Decidable ((c:Int)∈bl))
 refine Q4P (may:=fun c:Nat=>(c:Int)∈bl) (f0:=f2) (K:=P*n+P) hg hKb (M:=fun c q=>K3 c m2 q) (fun c q hc hq=>?_) hS (by omega) (fun f' hf'=>?_)
 ·show K3 (c:Int) m2 q
  unfold K3
  have:(lk m2 (c:Int)).isSome=decide ((c:Int)∈bl):=by
   by_cases hm:(c:Int)∈bl
   ·obtain⟨v,e,_⟩:=v2 c hm
    rw [e,decide_eq_true hm];rfl
   ·rw [n2 _ hm,decide_eq_false hm];rfl
  rw [this];exact hq
 have hF':FOk g x n f':=hf'.least hg (fun c hc hm hh m hmw=>by
  rw [b2 c hc,if_neg hm]
  exact hF.least c hc m (Wg.weak hg hmw))
 have htop:∀c,c<n→fu f' c≤40000000:=fun c hc=>by have:=hf'.top hg hc;omega
 have hkeep:∀c,c<n→¬Und ch x c→fu f' c=fu f c:=fun c hc hu=>by
  have hm:(c:Int)∉bl:=fun hm=>hu ((hbl.mem c).1 hm)
  rw [hf'.keep c hc hm,b2 c hc,if_neg hm]
 have l3:=hF'.len
 refine Jn.mk (fun m=>∀a,lk m a=if a∈bl then some (fu f' a.toNat) else none)
  (Km (xs:=bl) (by unfold maxLen;omega) (fun t:List (Int×Int)×Int=>t.2) (fun i t=>∀a,lk t.1 a=if a∈bl.take i then some (fu f' a.toNat) else lk m2 a) rfl (fun a=>by simp) (fun i a t ha ht hI=>?_) (fun t hI a=>?_)) (fun mp hmp=>?_)
 ·obtain⟨c,hc,hcn⟩:=hnat a (List.mem_of_getElem? ha)
  subst hc
  refine⟨_,Ye (by omega),by rw [ht],fun a=>?_⟩
  show lk (upd t.1 (c:Int) (fu f' c)) a=_
  rw [Wu,hI]
  by_cases e:(c:Int)=a
  ·subst e
   rw [if_pos rfl,if_pos ((QG ha).2 (.inr rfl))];simp
  ·rw [if_neg e]
   by_cases e2:a∈bl.take i
   ·rw [if_pos e2,if_pos ((QG ha).2 (.inl e2))]
   ·rw [if_neg e2,if_neg (fun h=>((QG ha).1 h).elim e2 (fun h=>e h.symm))]
 ·rw [hI a,List.take_length]
  by_cases e:a∈bl
  ·rw [if_pos e,if_pos e]
  ·rw [if_neg e,if_neg e,n2 a e]
 ·refine hp2 mp f' hF' htop hkeep (fun a v=>?_)
  rw [hmp]
  constructor
  ·intro hv
   by_cases e:a∈bl
   ·rw [if_pos e] at hv
    obtain⟨c,hc,hcn⟩:=hnat a e
    subst hc
    exact⟨c,rfl,(hbl.mem c).1 e,by have:=Option.some.inj hv;simp at this;exact this.symm⟩
   ·rw [if_neg e] at hv;cases hv
  ·rintro⟨c,rfl,hu,rfl⟩
   rw [if_pos ((hbl.mem c).2 hu)];simp
end
end Go.Taq
/- The mathematics, part GG: the needs (chapter 33). -/
set_option linter.unusedVariables false
set_option linter.unusedSimpArgs false
namespace Go.Taq
open Go
def IsFu (s:ApiSite) (L:List Int) (c:Nat) (v:Int):Prop:=(v=-1∧∀m,¬WL s L c m)∨(0≤v∧WL s L c v.toNat∧∀m,WL s L c m→v≤m)
theorem Q75 {p:Nat→Prop}:∀n,p n→∃m,p m∧∀k,p k→m≤k:=by
 intro n
 induction n using Nat.strongRecOn with
 | _ n ih=>
  intro hn
  by_cases h:∃m,m<n∧p m
  ·obtain⟨m,h1,h2⟩:=h
   exact ih m h1 h2
  ·exact⟨n,hn,fun k hk=>by
    by_cases hlt:k<n
    ·exact absurd ⟨k,hlt,hk⟩ h
    ·omega⟩
theorem Q5I (s:ApiSite) (L:List Int) (c:Nat):∃v,IsFu s L c v:=by
 by_cases h:∃m,WL s L c m
 ·obtain⟨m,hm⟩:=h
  obtain⟨k,h1,h2⟩:=Q75 (p:=fun m=>WL s L c m) m hm
  exact⟨(k:Int),.inr ⟨by omega,by simpa using h1,fun m hm=>by have:=h2 m hm;omega⟩⟩
 ·exact⟨-1,.inl ⟨rfl,fun m hm=>h ⟨m,hm⟩⟩⟩
noncomputable def fuV (s:ApiSite) (L:List Int) (c:Nat):Int:=Classical.choose (Q5I s L c)
theorem Q2s (s:ApiSite) (L:List Int) (c:Nat):IsFu s L c (fuV s L c):=Classical.choose_spec (Q5I s L c)
theorem IsFu.uniq {s:ApiSite} {L:List Int} {c:Nat} {v w:Int} (h:IsFu s L c v) (h':IsFu s L c w):v=w:=by
 rcases h with ⟨h1,h2⟩ | ⟨h1,h2,h3⟩ <;> rcases h' with ⟨g1,g2⟩ | ⟨g1,g2,g3⟩
 ·omega
 ·exact absurd g2 (h2 _)
 ·exact absurd h2 (g2 _)
 ·have:=h3 _ g2;have:=g3 _ h2;omega
theorem FuL.eq {s:ApiSite} {L f:List Int} (h:FuL s L f) {c:Nat} (hc:c<s.Floor.Kind.length):fu f c=fuV s L c:=by
 refine IsFu.uniq (s:=s) (L:=L) (c:=c) ?_ (Q2s s L c)
 by_cases h0:0≤fu f c
 ·exact .inr ⟨h0,h.sound c hc h0,fun m hm=>(h.least c m hm).2⟩
 ·have:=h.lo c hc
  exact .inl ⟨by omega,fun m hm=>h0 (h.least c m hm).1⟩
noncomputable def nd (s:ApiSite) (L:List Int) (D:Int):Nat→Nat→Int
 | 0,c=>if fuV s L c<0 then -1 else fuV s L c+D*3
 | x+1,c=>if c=x∨(x:Int)∈L then nd s L D x c else if nd s L D x c<0∨fuV s ((x:Int) :: L) c<0 then -1 else imax (nd s L D x c) (fuV s ((x:Int) :: L) c)
theorem Q2v {a b:Int}:a≤imax a b∧b≤imax a b∧(imax a b=a∨imax a b=b):=by unfold imax;split <;> omega
theorem Q7t {s:ApiSite} {L:List Int} {D:Int} (hD:0≤D) (c:Nat):∀x,(nd s L D x c=-1∨0≤nd s L D x c)∧(0≤nd s L D x c→0≤fuV s L c∧fuV s L c+D*3≤nd s L D x c)
 | 0=>by
  unfold nd
  split
  ·exact⟨.inl rfl,fun h=>by omega⟩
  ·exact⟨.inr (by omega),fun h=>by omega⟩
 | x+1=>by
  have ih:=Q7t (s:=s) (L:=L) hD c x
  unfold nd
  split
  ·exact ih
  ·split
   ·exact⟨.inl rfl,fun h=>by omega⟩
   ·rename_i hn
    have h1:=Q2v (a:=nd s L D x c) (b:=fuV s ((x:Int) :: L) c)
    have h2:0≤nd s L D x c:=by
     rcases ih.1 with h | h
     ·exact absurd (.inl (by omega)) hn
     ·exact h
    have h3:=ih.2 h2
    exact⟨.inr (by omega),fun _=>⟨h3.1,by omega⟩⟩
section
variable {g:ReachGraph} {n:Nat} {P:Int} {f:List Int} {ch:List (List Int)} {x:Nat}
theorem ChOk.skip {i:Nat} (h:ChOk g n f i ch) (hn:g.home[i]?=some false→0≤fu f i→False):ChOk g n f (i+1) ch where
 len:=h.len
 mem:=fun y l hl=>⟨(h.mem y l hl).1,fun a ha=>by
  obtain⟨c,e,h1,h2⟩:=(h.mem y l hl).2 a ha
  exact⟨c,e,by omega,h2⟩⟩
 uniq:=h.uniq
 all:=fun c hc hh h0=>by
  by_cases e:c=i
  ·subst e;exact absurd (hn hh h0) id
  ·exact h.all c (by omega) hh h0
theorem ChOk.put {i y:Nat} {l:List Int} (h:ChOk g n f i ch) (hl:ch[y]?=some l) (hp:Par g f i y):ChOk g n f (i+1) (ch.set y (l++[(i:Int)])):=by
 have hyl:=(List.getElem?_eq_some_iff.1 hl).1
 have hget:∀z,(ch.set y (l++[(i:Int)]))[z]?=if z=y then some (l++[(i:Int)]) else ch[z]?:=fun z=>by
  rw [List.getElem?_set]
  by_cases e:y=z
  ·subst e;simp [hyl]
  ·rw [if_neg e,if_neg (fun h=>e h.symm)]
 have hnew:∀(z:Nat) m,ch[z]?=some m→(i:Int)∉m:=fun z m hm hi=>by
  obtain⟨c,e,h1,_⟩:=(h.mem z m hm).2 _ hi
  omega
 refine⟨by rw [List.length_set];exact h.len,fun z m hm=>?_,fun z z' m m' a hm hm' ha ha'=>?_,fun c hc hh h0=>?_⟩
 ·rw [hget] at hm
  by_cases e:z=y
  ·rw [if_pos e] at hm
   cases hm
   subst e
   have hm0:=h.mem z l hl
   refine⟨List.nodup_append.2 ⟨hm0.1,by simp,fun a ha b hb e=>?_⟩,fun a ha=>?_⟩
   ·simp at hb;subst hb;subst e;exact hnew z l hl ha
   ·rcases List.mem_append.1 ha with ha | ha
    ·obtain⟨c,e,h1,h2⟩:=hm0.2 a ha
     exact⟨c,e,by omega,h2⟩
    ·simp at ha;exact⟨i,ha,by omega,hp⟩
  ·rw [if_neg e] at hm
   exact⟨(h.mem z m hm).1,fun a ha=>by
    obtain⟨c,e,h1,h2⟩:=(h.mem z m hm).2 a ha
    exact⟨c,e,by omega,h2⟩⟩
 ·have hs:∀(z:Nat) m,(ch.set y (l++[(i:Int)]))[z]?=some m→a∈m→(a=(i:Int)∧z=y)∨(a≠(i:Int)∧∃m0,ch[z]?=some m0∧a∈m0):=fun z m hm ha=>by
   rw [hget] at hm
   by_cases e:z=y
   ·rw [if_pos e] at hm
    cases hm
    rcases List.mem_append.1 ha with ha | ha
    ·exact .inr ⟨fun e2=>hnew y l hl (e2▸ha),l,by rw [e];exact hl,ha⟩
    ·simp at ha;exact .inl ⟨ha,e⟩
   ·rw [if_neg e] at hm
    exact .inr ⟨fun e2=>hnew z m hm (e2▸ha),m,hm,ha⟩
  rcases hs z m hm ha with ⟨e1,e2⟩ | ⟨e1,m0,k1,k2⟩ <;> rcases hs z' m' hm' ha' with ⟨g1,g2⟩ | ⟨g1,m1,j1,j2⟩
  ·rw [e2,g2]
  ·exact absurd e1 g1
  ·exact absurd g1 e1
  ·exact h.uniq z z' m0 m1 a k1 j1 k2 j2
 ·by_cases e:c=i
  ·subst e
   exact⟨y,l++[(c:Int)],by rw [hget,if_pos rfl],by simp⟩
  ·obtain⟨z,m,h1,h2⟩:=h.all c (by omega) hh h0
   by_cases ez:z=y
   ·subst ez
    rw [hl] at h1;cases h1
    exact⟨z,l++[(i:Int)],by rw [hget,if_pos rfl],List.mem_append_left _ h2⟩
   ·exact⟨z,m,by rw [hget,if_neg ez];exact h1,h2⟩
theorem Q6U (hg:GOk n P g) (hF:FOk g (-1) n f) {c:Nat} {l:List ReachStep} {r:Int×Int} (hc:c<n) (hh:g.home[c]?=some false) (h0:0≤fu f c) (hl:g.out[c]?=some l) (hr:Best f l (-1) r):∃y:Nat,r.2=(y:Int)∧y<n∧Par g f c y:=by
 have hs:=hF.sound c hc h0
 generalize hm:(fu f c).toNat=m at hs
 cases hs with
 | home h=>rw [hh] at h;cases h
 | step h hl' hz hb hw=>
  rename_i l' z m'
  rw [hl] at hl';cases hl'
  obtain⟨⟨t0,t1⟩,p1,p2⟩:=hg.to_ c l z hl hz
  have h1:=hF.least z.to_.toNat (by omega) _ hw
  have h2:=hr.le z hz hb h1.1
  rcases hr.is with e | ⟨y,hy,hyb,hy0,e⟩
  ·rw [e] at h2;exact absurd h2.1 (by decide)
  ·obtain⟨⟨s0,s1⟩,q1,q2⟩:=hg.to_ c l y hl hy
   have hyn:y.to_.toNat<n:=by omega
   have h3:=hF.least c hc _ (.step hh hl hy hyb (hF.sound _ hyn hy0))
   have e1:r.1=fu f y.to_.toNat+y.price:=by rw [e]
   exact⟨y.to_.toNat,by rw [e];show y.to_=_;omega,hyn,hh,h0,hy0,l,y,hl,hy,by omega,by omega⟩
theorem Q6R (hg:GOk n P g) (hF:FOk g (-1) n f) (h:ChOk g n f n ch) (hu:∀c,¬Und ch x c):FOk g x n f where
 len:=hF.len
 lo:=hF.lo
 sound:=fun c hc h0=>Q4v (x:=x) hg hF h (fun c hc hh=>hF.home hc hh) _ c hc rfl (hu c) h0
 least:=fun c hc m hm=>hF.least c hc m (Wg.weak hg hm)
end
theorem S_reach_Needs {s:ApiSite} {L:List Int} {D:Int} (ks:OkApiSite s) (hf:RF s.Floor) (hs:RS s) (hn:s.Floor.Kind.length≤1000) (hL:L.length≤maxLen) (hD:0≤D∧D≤100000) {post:List Int→Prop} (hp:∀v,v.length=s.Floor.Kind.length→(∀c,c<s.Floor.Kind.length→fu v c=nd s L D s.Floor.Kind.length c)→post v):V_reach_Needs s L D post:=by
 unfold V_reach_Needs
 refine Wh ks hf hs hn hL (fun g hG=>?_)
 have hg:=hG.ok hf hs hn
 generalize hnn:s.Floor.Kind.length=n at *
 refine YT hg (fun f hF hB=>?_)
 have hlen:=hF.len
 have hPn:=Q3O (g:=g) (K:=0) hg (by omega)
 have hFL:FuL s L f:=.of hf hG (by rw [hnn];exact hF) (fun y=>by simp)
 have hfv:∀c,c<n→fu f c=fuV s L c:=fun c hc=>hFL.eq (by omega)
 refine WE (by omega) ⟨by omega,?_⟩
 -- the tree of best moves
 refine Jn.mk (fun t:List Int×List (List Int)=>(t.1.length=n∧∀c,c<n→fu t.1 c=nd s L D 0 c)∧ChOk g n f n t.2)
  (Q0y (xs:=f) (by unfold maxLen;omega) (fun t:List Int×List (List Int)×Int=>t.2.2) (fun i t=>(t.1.length=n∧∀c,c<n→fu t.1 c=if c<i then nd s L D 0 c else fu f c)∧ChOk g n f i t.2.1) rfl ⟨⟨hlen,fun c hc=>by simp⟩,?_⟩ (fun i v t hv ht hI=>?_) (fun t hI=>?_)) (fun t ht=>?_)
 ·have hr:∀(y:Nat) (l:List Int),(List.replicate (Int.toNat (f.length:Int)) ([]:List Int))[y]?=some l→l=[]:=fun y l hl=>by
   rw [List.getElem?_replicate] at hl
   split at hl
   ·exact (Option.some.inj hl).symm
   ·cases hl
  refine⟨by simp [hlen],fun y l hl=>?_,fun y y' l l' a hl _ ha=>?_,fun c hc=>by omega⟩
  ·rw [hr y l hl];exact⟨List.nodup_nil,fun a ha=>by cases ha⟩
  ·rw [hr y l hl] at ha;cases ha
 ·obtain⟨⟨i1,i2⟩,i3⟩:=hI
  have hi:i<n:=by have:=(List.getElem?_eq_some_iff.1 hv).1;omega
  have hvf:v=fu f i:=by
   have:=Q2b (f:=f) (c:=i) (by omega)
   rw [hv] at this;exact Option.some.inj this
  rw [ht]
  refine Jn.mk (fun u:List Int×List (List Int)=>(u.1.length=n∧∀c,c<n→fu u.1 c=if c<i+1 then nd s L D 0 c else fu f c)∧ChOk g n f (i+1) u.2) ⟨v,QD rfl hv,Ite.mk (fun h0=>?_) (fun h0=>?_)⟩ (fun u hu=>⟨rfl,hu⟩)
  ·have h0':v<0:=of_decide_eq_true h0
   refine⟨⟨i1,fun c hc=>?_⟩,i3.skip (fun _ h=>by omega)⟩
   show fu t.1 c=_
   rw [i2 c hc]
   by_cases e:c=i
   ·subst e
    rw [if_neg (Nat.lt_irrefl _),if_pos (Nat.lt_succ_self _)]
    have:=hF.lo c hc
    unfold nd
    rw [if_pos (by rw [←hfv c hc];omega)];omega
   ·by_cases e2:c<i
    ·rw [if_pos e2,if_pos (by omega)]
    ·rw [if_neg e2,if_neg (by omega)]
  ·have h0':0≤fu f i:=by have:¬v<0:=of_decide_eq_false h0;omega
   have hbi:=hB i hi
   refine Xl ⟨_,Ye (by omega),YZ hg hlen (fun d hd=>by have:=hB d hd;omega) hi (fun l r hl hr=>?_)⟩
   have hho:=List.getElem?_eq_getElem (show i<g.home.length by rw [hg.lh];exact hi)
   generalize g.home[i]'_=ho at hho
   have hval:w64 (v+w64 (D*3))=nd s L D 0 i:=by
    rw [QF (x:=D*3) (by omega) (by omega),QF (by omega) (by omega)]
    unfold nd
    rw [if_neg (by rw [←hfv i hi];omega),←hfv i hi,hvf]
   have hne:(t.1.set i (nd s L D 0 i)).length=n∧∀c,c<n→fu (t.1.set i (nd s L D 0 i)) c=if c<i+1 then nd s L D 0 c else fu f c:=by
    refine⟨by rw [List.length_set];exact i1,fun c hc=>?_⟩
    rw [ZT (by omega),i2 c hc]
    by_cases e:c=i
    ·subst e;rw [if_pos rfl,if_pos (Nat.lt_succ_self _)]
    ·rw [if_neg e]
     by_cases e2:c<i
     ·rw [if_pos e2,if_pos (by omega)]
     ·rw [if_neg e2,if_neg (by omega)]
   have hin:Int.toNat (i:Int)=i:=by simp
   refine⟨ho,QD rfl hho,Jn.mk (fun ch=>ChOk g n f (i+1) ch) (Ite.mk (fun hh=>?_) (fun hh=>?_)) (fun ch hch=>by
    show (_∧_)∧_
    rw [hval,hin];exact⟨hne,hch⟩)⟩
   ·have hof:ho=false:=by simpa using hh
    subst hof
    obtain⟨y,hy,hyn,hpar⟩:=Q6U hg hF hi hho h0' hl hr
    obtain⟨row,hrow⟩:=i3.row hyn
    have hrl:row.length≤n:=Y0 n row (i3.mem y row hrow).1 (fun a ha=>by
     obtain⟨c,e,h1,_⟩:=(i3.mem y row hrow).2 a ha
     omega)
    rw [hy]
    refine⟨row,QD rfl hrow,by simp;omega,?_⟩
    have:=i3.put hrow hpar
    simpa using this
   ·have hof:ho=true:=by simpa using hh
    subst hof
    exact i3.skip (fun h _=>by rw [hho] at h;cases h)
 ·obtain⟨⟨i1,i2⟩,i3⟩:=hI
  rw [hlen] at i2 i3
  exact⟨⟨i1,fun c hc=>by show fu t.1 c=_;rw [i2 c hc,if_pos hc]⟩,i3⟩
 obtain⟨ne0,ch⟩:=t
 obtain⟨hne0,hch⟩:=ht
 simp only at hne0 hch
 -- the cells,one after the other
 refine Jn.mk (fun v:List Int=>v.length=n∧∀c,c<n→fu v c=nd s L D n c)
  (Q0y (xs:=f) (by unfold maxLen;omega) (fun t:List Int×Int=>t.2) (fun i t=>t.1.length=n∧∀c,c<n→fu t.1 c=nd s L D i c) rfl hne0 (fun x v0 t hv ht hI=>?_) (fun t hI=>by rw [hlen] at hI;exact hI)) (fun v hv=>hp v hv.1 hv.2)
 obtain⟨needs,tx⟩:=t
 simp only at ht hI
 subst ht
 obtain⟨i1,i2⟩:=hI
 have hx:x<n:=by have:=(List.getElem?_eq_some_iff.1 hv).1;omega
 -- a cell that is not below WJ its need
 have hsame:∀f':List Int,FOk g x n f'→(∀c,c<n→¬Und ch x c→fu f' c=fu f c)→(∀c,c<n→fu f' c=fuV s ((x:Int) :: L) c)∧∀c,c<n→¬Und ch x c→nd s L D (x+1) c=nd s L D x c:=fun f' hF' hk=>by
  have hFL':FuL s ((x:Int) :: L) f':=.of hf hG (by rw [hnn];exact hF') (fun y=>Iff.rfl)
  have hv':∀c,c<n→fu f' c=fuV s ((x:Int) :: L) c:=fun c hc=>hFL'.eq (by omega)
  refine⟨hv',fun c hc hu=>?_⟩
  have e:fuV s ((x:Int) :: L) c=fuV s L c:=by rw [←hv' c hc,hk c hc hu,hfv c hc]
  have h1:=Q7t (s:=s) (L:=L) hD.1 c x
  conv=>lhs;unfold nd
  rw [e]
  split
  ·rfl
  ·split
   ·rename_i h
    rcases h1.1 with h2 | h2
    ·exact h2.symm
    ·have:=h1.2 h2;omega
   ·rename_i h
    have h2:0≤nd s L D x c:=by
     rcases h1.1 with h2 | h2
     ·exact absurd (.inl (by omega)) h
     ·exact h2
    have h3:=h1.2 h2
    unfold imax;rw [if_neg (by omega)]
 refine Jn.mk (fun v:List Int=>v.length=n∧∀c,c<n→fu v c=nd s L D (x+1) c) ?_ (fun v hv=>⟨rfl,hv⟩)
 refine Q6a hg hF hB hch hx (fun hno=>?_) (fun mp f' hF' htop hkeep hmp=>?_)
 ·simp only [Sum.elim_inl]
  have hk:=(hsame f (Q6R hg hF hch hno) (fun c hc _=>rfl)).2
  refine Jn.mk (fun v=>v=needs) (Loop.step rfl) (fun v hv=>?_)
  rw [hv]
  exact⟨i1,fun c hc=>by rw [i2 c hc,hk c hc (hno c)]⟩
 ·simp only [Sum.elim_inr]
  obtain⟨hv',hk⟩:=hsame f' hF' hkeep
  have hxL:∀c,Und ch x c→(x:Int)∉L:=fun c hu=>by
   have key:∀c,Und ch x c→∃l a,ch[x]?=some l∧a∈l:=fun c hu=>by
    induction hu with
    | one h hc=>exact⟨_,_,h,hc⟩
    | step _ _ _ ih=>exact ih
   obtain⟨l,a,hl,ha⟩:=key c hu
   obtain⟨d,e,hd,hpar⟩:=(hch.mem x l hl).2 a ha
   obtain⟨_,_,_,lo,z,hlo,hz,hzt,_⟩:=hpar
   obtain⟨l',e1,_,e3⟩:=hG.out d (by omega)
   rw [hlo] at e1;cases e1
   obtain⟨dd,_,_,hnL,_⟩:=(e3 z).1 hz
   rw [←hzt];exact hnL
  refine Jn.mk (fun v:List Int=>v.length=n∧∀c,c<n→fu v c=nd s L D (x+1) c)
   (Loop.mk (fun t:List Int×List Int=>t.1.length=n∧(∀c:Nat,c<n→fu t.1 c=if (c:Int)∈t.2 then nd s L D (x+1) c else nd s L D x c)∧∀c:Nat,(c:Int)∈t.2→Und ch x c) (fun t=>left mp t.2) ⟨i1,fun c hc=>by simp [i2 c hc],fun c hc=>by simp at hc⟩ ?_) (fun v hv=>hv)
  rintro⟨v1,seen⟩ ⟨j1,j2,j3⟩
  simp only at j1 j2 j3
  refine⟨fun a v ⟨hav,hns⟩=>?_,fun hall=>?_⟩
  ·obtain⟨c,rfl,hu,rfl⟩:=(hmp a v).1 hav
   have hc:c<n:=(Q3M hg hch hu).2.1
   have hcx:c≠x:=fun e=>by have:=(Q3M hg hch hu).1;rw [e] at this;omega
   have hidx:=Ye (f:=v1) (c:=c) (by omega)
   have hcur:fu v1 c=nd s L D x c:=by rw [j2 c hc,if_neg hns]
   have hset:∀w d,fu (v1.set c w) d=if d=c then w else fu v1 d:=fun w d=>ZT (by omega)
   have hin:Int.toNat (c:Int)=c:=by simp
   have hstep:nd s L D (x+1) c=if nd s L D x c<0∨fu f' c<0 then -1 else imax (nd s L D x c) (fu f' c):=by
    conv=>lhs;unfold nd
    rw [if_neg (fun h=>h.elim hcx (hxL c hu)),hv' c hc]
   have fin:∀w,w=nd s L D (x+1) c→(v1.set c w).length=n∧(∀d:Nat,d<n→fu (v1.set c w) d=if (d:Int)∈(c:Int) :: seen then nd s L D (x+1) d else nd s L D x d)∧∀d:Nat,(d:Int)∈(c:Int) :: seen→Und ch x d:=fun w hw=>by
    refine⟨by rw [List.length_set];exact j1,fun d hd=>?_,fun d hd=>?_⟩
    ·rw [hset,j2 d hd]
     by_cases e:d=c
     ·subst e;rw [if_pos rfl,if_pos (List.mem_cons_self ..)];exact hw
     ·rw [if_neg e]
      by_cases e2:(d:Int)∈seen
      ·rw [if_pos e2,if_pos (List.mem_cons_of_mem _ e2)]
      ·rw [if_neg e2,if_neg (fun h=>(List.mem_cons.1 h).elim (fun h=>e (by omega)) e2)]
    ·rcases List.mem_cons.1 hd with hd | hd
     ·have:d=c:=by omega
      rw [this];exact hu
     ·exact j3 d hd
   refine Jn.mk (fun b=>b=true↔(nd s L D x c<0∨fu f' c<0)) (Ite.mk (fun h1=>?_) (fun h1=>⟨_,hidx,?_⟩)) (fun b hb=>?_)
   ·exact⟨fun _=>.inr (of_decide_eq_true h1),fun _=>rfl⟩
   ·have h1':¬fu f' c<0:=of_decide_eq_false h1
    show decide (fu v1 c<0)=true↔_
    rw [hcur,decide_eq_true_iff]
    exact⟨.inl,fun h=>h.resolve_right h1'⟩
   ·refine Jn.mk (fun w=>w=v1.set c (nd s L D (x+1) c)) (Ite.mk (fun h1=>⟨_,hidx,?_⟩) (fun h1=>⟨_,hidx,?_⟩)) (fun w hw=>?_)
    ·rw [hin,hstep,if_pos (hb.1 h1)]
    ·have hno:¬(nd s L D x c<0∨fu f' c<0):=fun h=>by rw [hb.2 h] at h1;cases h1
     rw [hin,hstep,if_neg hno,hcur]
    ·subst hw
     exact⟨fin _ rfl,Q5y mp hav hns⟩
  ·refine⟨j1,fun c hc=>?_⟩
   show fu v1 c=_
   rw [j2 c hc]
   by_cases e:(c:Int)∈seen
   ·rw [if_pos e]
   ·rw [if_neg e]
    refine (hk c hc (fun hu=>e (hall _ ?_))).symm
    rw [(hmp (c:Int) _).2 ⟨c,rfl,hu,rfl⟩];simp
end Go.Taq
/- The mathematics, part GH: tables are checked; the examples of chapter 33; ReachFuel. -/
set_option linter.unusedVariables false
set_option linter.unusedSimpArgs false
namespace Go.Taq
open Go
def okC (s:ApiSite) (L f:List Int) (c:Nat):Bool:=
 decide (-1≤fu f c)&&(if kd s.Floor c=3 then decide (fu f c=0) else
  (List.range 6).all (fun d=>let r:=nx s.Floor c d;!(r.2&&!L.contains r.1&&decide (0≤fu f r.1.toNat))||(decide (0≤fu f c)&&decide (fu f c≤fu f r.1.toNat+prS s d r.1))) &&
  (decide (fu f c<0)||(List.range 6).any (fun d=>let r:=nx s.Floor c d;r.2&&!L.contains r.1&&decide (0≤fu f r.1.toNat)&&decide (fu f c=fu f r.1.toNat+prS s d r.1))))
theorem FuL.chk {s:ApiSite} {L f:List Int} (hf:RF s.Floor) (hs:RS s) (hl:f.length=s.Floor.Kind.length) (h:(List.range s.Floor.Kind.length).all (okC s L f)=true):FuL s L f:=by
 have hc:∀c,c<s.Floor.Kind.length→okC s L f c=true:=fun c hc=>List.all_eq_true.1 h c (List.mem_range.2 hc)
 have hlo:∀c,c<s.Floor.Kind.length→-1≤fu f c:=fun c h=>by
  have:=hc c h
  unfold okC at this
  rw [Bool.and_eq_true] at this
  exact of_decide_eq_true this.1
 have hhome:∀c:Nat,c<s.Floor.Kind.length→kd s.Floor c=3→fu f c=0:=fun c h h3=>by
  have:=hc c h
  unfold okC at this
  rw [if_pos h3,Bool.and_eq_true] at this
  exact of_decide_eq_true this.2
 have hother:∀c:Nat,c<s.Floor.Kind.length→kd s.Floor c≠3→(∀d:Nat,d<6→(nx s.Floor c d).2=true→(nx s.Floor c d).1∉L→0≤fu f (nx s.Floor c d).1.toNat→0≤fu f c∧fu f c≤fu f (nx s.Floor c d).1.toNat+prS s d (nx s.Floor c d).1) ∧
   (0≤fu f c→∃d:Nat,d<6∧(nx s.Floor c d).2=true∧(nx s.Floor c d).1∉L∧0≤fu f (nx s.Floor c d).1.toNat∧fu f c=fu f (nx s.Floor c d).1.toNat+prS s d (nx s.Floor c d).1):=fun c h h3=>by
  have:=hc c h
  unfold okC at this
  rw [if_neg h3,Bool.and_eq_true,Bool.and_eq_true] at this
  obtain⟨_,h1,h2⟩:=this
  refine⟨fun d hd g1 g2 g3=>?_,fun h0=>?_⟩
  ·have:=List.all_eq_true.1 h1 d (List.mem_range.2 hd)
   simp only at this
   rw [g1,decide_eq_true g3] at this
   simpa [g2] using this
  ·rw [Bool.or_eq_true] at h2
   rcases h2 with h2 | h2
   ·have:=of_decide_eq_true h2;omega
   ·obtain⟨d,hd,h2⟩:=List.any_eq_true.1 h2
    simp at h2
    exact⟨d,List.mem_range.1 hd,h2.1.1.1,h2.1.1.2,h2.1.2,h2.2⟩
 refine⟨hl,hlo,?_,?_⟩
 ·have key:∀(k c:Nat),c<s.Floor.Kind.length→(fu f c).toNat=k→0≤fu f c→WL s L c (fu f c).toNat:=by
   intro k
   induction k using Nat.strongRecOn with
   | _ k ih=>
    intro c hcl hk h0
    by_cases h3:kd s.Floor c=3
    ·rw [hhome c hcl h3];exact .home hcl h3
    ·obtain⟨d,hd,g1,g2,g3,g4⟩:=(hother c hcl h3).2 h0
     have hok:=Wx hf (c:=(c:Int)) (d:=(d:Int)) g1
     have ht:=QN.1 hok.2.1
     have hp:=Zs (s:=s) hs (d:=(d:Int)) (by omega) (by omega) hok.2.1
     obtain⟨y,hy⟩:=Int.eq_ofNat_of_zero_le ht.1
     have hnx:nx s.Floor c d=((y:Int),true):=by rw [←hy,←g1]
     rw [hy] at g2 g3 g4 hp ht
     simp only [Int.toNat_natCast] at g3 g4
     have hw:=ih (fu f y).toNat (by omega) y (by omega) rfl g3
     have:=WL.step hcl h3 hd hnx g2 hw
     rw [show (fu f c).toNat=(fu f y).toNat+(prS s d y).toNat by omega];exact this
  exact fun c hcl h0=>key _ c hcl rfl h0
 ·intro c m hm
  induction hm with
  | home hcl h3=>rw [hhome _ hcl h3];omega
  | step hcl h3 hd hn hL hm ih=>
   rename_i c d y m
   have e1:(nx s.Floor c d).1=(y:Int):=by rw [hn]
   have e2:(nx s.Floor c d).2=true:=by rw [hn]
   have hok:=Wx hf (c:=(c:Int)) (d:=(d:Int)) e2
   have hp:=Zs (s:=s) hs (d:=(d:Int)) (by omega) (by omega) hok.2.1
   have:=(hother c hcl h3).1 d hd e2 (by rw [e1];exact hL) (by rw [e1];simpa using ih.1)
   rw [e1] at this hp
   simp only [Int.toNat_natCast] at this
   omega
theorem Q2I {s:ApiSite} {L:List Int} (ks:OkApiSite s) (hf:RF s.Floor) (hs:RS s) (hn:s.Floor.Kind.length≤1000) (hL:L.length≤maxLen) {post:List Int→Prop} (hp:∀f,FuL s L f→(∀c,c<s.Floor.Kind.length→fu f c≤400000)→post f):KO s L post:=by
 unfold KO
 exact Wh ks hf hs hn hL (fun g hg=>YT (hg.ok hf hs hn) (fun f hF hB=>hp f (.of hf hg hF (fun y=>by simp)) (fun c hc=>by have:=hB c hc;omega)))
/-! ## the examples -/
def e33F:ApiFloor:={W:=4,H:=1,D:=1,Kind:=[3,1,1,3],Out:=[5,5,5,5]}
def e33S:ApiSite:={Floor:=e33F,Zones:=[],Aparts:=[],Shelves:=[],Robots:=[]}
theorem Q2R:RF e33F:=by
 refine⟨by decide,by decide,by decide,by decide,by decide,by decide,by decide,by decide,by decide,fun i x y hx hy=>?_⟩
 match i,hx,hy with
 | 0,hx,hy=>simp [e33F] at hx hy;omega
 | 1,hx,hy=>simp [e33F] at hx hy;omega
 | 2,hx,hy=>simp [e33F] at hx hy;omega
 | 3,hx,hy=>simp [e33F] at hx hy;omega
 | n+4,hx,hy=>simp [e33F] at hx
theorem Q6P:OkApiSite e33S where
 Floor:=⟨WC (by decide),WC (by decide),WC (by decide),YP (by decide) (fun x hx=>WC (by simp [e33S,e33F] at hx;omega)),YP (by decide) (fun x hx=>WC (by simp [e33S,e33F] at hx;omega))⟩
 Zones:=YP (by decide) (fun z hz=>by simp [e33S] at hz)
 Aparts:=YP (by decide) (fun x hx=>by simp [e33S] at hx)
 Shelves:=YP (by decide) (fun x hx=>by simp [e33S] at hx)
 Robots:=YP (by decide) (fun x hx=>by simp [e33S] at hx)
theorem Q2X:RS e33S:=⟨Q2R,fun z hz=>by simp [e33S] at hz,fun z hz=>by simp [e33S] at hz,fun z hz=>by simp [e33S] at hz⟩
theorem e33a:FuL e33S [] [0,12,12,0]:=.chk Q2R Q2X rfl (by decide)
theorem e33b:FuL e33S [0] [0,24,12,0]:=.chk Q2R Q2X rfl (by decide)
theorem e33c:FuL e33S [2] [0,12,12,0]:=.chk Q2R Q2X rfl (by decide)
theorem e33d:FuL e33S [3] [0,12,24,0]:=.chk Q2R Q2X rfl (by decide)
theorem e33e:FuL e33S [2,0] [0,-1,12,0]:=.chk Q2R Q2X rfl (by decide)
theorem Qa7:nd e33S [] 0 4 1=24:=by
 have a:=e33a.eq (c:=1) (by decide)
 have b:=e33b.eq (c:=1) (by decide)
 have c:=e33c.eq (c:=1) (by decide)
 have d:=e33d.eq (c:=1) (by decide)
 have a':fuV e33S [] 1=12:=a.symm
 have b':fuV e33S [0] 1=24:=b.symm
 have c':fuV e33S [2] 1=12:=c.symm
 have d':fuV e33S [3] 1=12:=d.symm
 simp [nd,a',b',c',d',imax]
theorem Qap:nd e33S [0] 0 4 1=-1:=by
 have b':fuV e33S [0] 1=24:=(e33b.eq (c:=1) (by decide)).symm
 have c':fuV e33S [2,0] 1=-1:=(e33e.eq (c:=1) (by decide)).symm
 simp [nd,b',c']
theorem YI {s:ApiSite} {L:List Int} {D c:Int} (ks:OkApiSite s) (hf:RF s.Floor) (hs:RS s) (hn:s.Floor.Kind.length≤1000) (hL:L.length≤maxLen) (hD:0≤D∧D≤100000) {post:Int→Prop} (hp:post (if isC s.Floor c=true then nd s L D s.Floor.Kind.length c.toNat else -1)):KQ s L c D post:=by
 unfold KQ Xy
 refine Jn.mk (fun b=>b=isC s.Floor c) (Ite.mk (fun h=>?_) (fun h=>?_)) (fun b hb=>?_)
 ·have:isC s.Floor c=decide (c<(s.Floor.Kind.length:Int)):=by unfold isC;rw [decide_eq_true (show 0≤c from of_decide_eq_true h)];rfl
  exact this.symm
 ·have:isC s.Floor c=false:=by unfold isC;rw [decide_eq_false (show ¬0≤c from of_decide_eq_false h)];rfl
  exact this.symm
 ·subst hb
  refine Ite.mk (fun h=>?_) (fun h=>S_reach_Needs ks hf hs hn hL hD (fun v hv hval=>?_))
  ·have h':isC s.Floor c=false:=by simpa using h
   rw [if_neg (by rw [h'];simp)] at hp;exact hp
  ·have h':isC s.Floor c=true:=by simpa using h
   rw [if_pos h'] at hp
   have ht:=QN.1 h'
   obtain⟨y,hy⟩:=Int.eq_ofNat_of_zero_le ht.1
   subst hy
   refine⟨_,Ye (by omega),?_⟩
   rw [hval y (by omega)]
   simpa using hp
theorem Q2U {post:Bool→Prop} (hp:post true):KE post:=by
 unfold KE X7
 show Jn _ _
 have k:∀l:List Int,l.length≤5→l.length≤maxLen:=fun l h=>Nat.le_trans h (by decide)
 refine Jn.mk (fun b=>b=true) (Xl (Ite.t rfl ?_)) (fun b hb=>hb▸hp)
 show X0 e33S 2 1 _
 refine Yp Q6P Q2X (Ite.t (by decide) ?_)
 show KO e33S [] _
 refine Q3r Q6P Q2R Q2X (by decide) (k _ (by decide)) (fun f hF=>?_)
 rw [hF.uniq e33a (fun y=>Iff.rfl)]
 refine Q2N (k _ (by decide)) (Ite.t rfl ?_)
 show KQ e33S [] 1 0 _
 refine YI Q6P Q2R Q2X (by decide) (k _ (by decide)) (by omega) ?_
 have e1:(if isC e33S.Floor 1=true then nd e33S [] 0 e33S.Floor.Kind.length (Int.toNat 1) else -1)=24:=by
  rw [if_pos (by decide)];exact Qa7
 rw [e1]
 refine Ite.t rfl ?_
 show KQ e33S [0] 1 0 _
 refine YI Q6P Q2R Q2X (by decide) (k _ (by decide)) (by omega) ?_
 have e2:(if isC e33S.Floor 1=true then nd e33S [0] 0 e33S.Floor.Kind.length (Int.toNat 1) else -1)=-1:=by
  rw [if_pos (by decide)];exact Qap
 rw [e2];rfl
theorem Q3j {s:ApiSite} {n:Int} (ks:OkApiSite s) {post:Bool→Prop} (hF:post false) (hT:Q1U s→FewS s n 20→post true):KZ s n post:=by
 unfold KZ
 exact Jn.mk' (Q47 ks (by omega) (Ite.f rfl hF) (fun h1=>Ite.t rfl (Q1R ks h1 (by omega) hF (fun h2=>hT h2 h1))))
/-! ## ReachFuel -/
theorem FuL.zero {s:ApiSite} {L f:List Int} (hf:RF s.Floor) (hs:RS s) (h:FuL s L f) {c:Nat} (hc:c<s.Floor.Kind.length):fu f c=0↔kd s.Floor c=3:=by
 constructor
 ·intro e
  have hw:=h.sound c hc (by omega)
  rw [e] at hw
  generalize hm:Int.toNat 0=m at hw
  cases hw with
  | home _ hh=>exact hh
  | step hcl hnh hd hn hL hw=>
   rename_i d y m
   have hok:=Wx hf (c:=(c:Int)) (d:=(d:Int)) (by rw [hn])
   rw [hn] at hok
   have hp:=(Zs (s:=s) hs (d:=(d:Int)) (by omega) (by omega) hok.2.1).1
   have hp1:1≤prS s (d:Int) (y:Int):=hp
   simp at hm;omega
 ·intro e
  have:=h.least c 0 (.home hc e);omega
end Go.Taq
/- The mathematics, part GI: ReachNeeds (chapter 33). -/
set_option linter.unusedVariables false
set_option linter.unusedSimpArgs false
namespace Go.Taq
open Go
end Go.Taq
