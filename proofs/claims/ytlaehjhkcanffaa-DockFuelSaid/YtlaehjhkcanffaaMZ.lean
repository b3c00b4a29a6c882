/- The mathematics, several parts in one text. -/
import Derived.Test.YtlaehjhkcanffaaAR
import Derived.Test.YtlaehjhkcanffaaMS
/- The mathematics, part AG: the examples of chapter 16; ArenaTells. -/
set_option linter.unusedVariables false
set_option linter.unusedSimpArgs false
namespace Go.Taq
open Go
end Go.Taq
/- The mathematics, part GA: moves with prices, walks to a charger, the least fuel (chapter 33). -/
set_option linter.unusedVariables false
set_option linter.unusedSimpArgs false
namespace Go.Taq
open Go
def fu (f:List Int) (c:Nat):Int:=f.getD c (-1)
theorem G6 {f:List Int} {c:Nat} (h:c<f.length):idx f (c:Int)=some (fu f c):=by
 have hx:=List.getElem?_eq_getElem h
 rw [QM rfl hx];unfold fu;rw [List.getD_eq_getElem?_getD,hx];rfl
theorem WH {f:List Int} {c:Nat} (h:c<f.length):f[c]?=some (fu f c):=by
 have hx:=List.getElem?_eq_getElem h
 rw [hx];unfold fu;rw [List.getD_eq_getElem?_getD,hx];rfl
theorem Wj {f:List Int} {c d:Nat} {v:Int} (h:c<f.length):fu (f.set c v) d=if d=c then v else fu f d:=by
 unfold fu
 rw [List.getD_eq_getElem?_getD,List.getElem?_set,List.getD_eq_getElem?_getD]
 by_cases e:c=d
 ·subst e;simp [h]
 ·rw [if_neg e,if_neg (fun h=>e h.symm)]
structure GOk (n:Nat) (P:Int) (g:ReachGraph):Prop where
 n4:n≤1000
 p0:1≤P∧P≤10000
 lo:g.out.length=n
 li:g.in_.length=n
 lh:g.home.length=n
 to_:∀(c:Nat) l x,g.out[c]?=some l→x∈l→(0≤x.to_∧x.to_<n)∧1≤x.price∧x.price≤P
 inn:∀(y:Nat) l (c:Int),g.in_[y]?=some l→c∈l→0≤c∧c<n
 all:∀(c:Nat) l x,g.out[c]?=some l→x∈l→∀m,g.in_[x.to_.toNat]?=some m→(c:Int)∈m
 lol:∀(c:Nat) l,g.out[c]?=some l→l.length≤6
 lil:∀(y:Nat) l,g.in_[y]?=some l→l.length≤30000
inductive Wg (g:ReachGraph) (b:Int):Nat→Nat→Prop where
 | home {c:Nat} (h:g.home[c]?=some true):Wg g b c 0
 | step {c:Nat} {l:List ReachStep} {x:ReachStep} {m:Nat} (h:g.home[c]?=some false) (hl:g.out[c]?=some l) (hx:x∈l) (hb:x.to_≠b) (hm:Wg g b x.to_.toNat m):Wg g b c (m+x.price.toNat)
structure FOk (g:ReachGraph) (b:Int) (n:Nat) (f:List Int):Prop where
 len:f.length=n
 lo:∀c,c<n→-1≤fu f c
 sound:∀c,c<n→0≤fu f c→Wg g b c (fu f c).toNat
 least:∀c,c<n→∀m,Wg g b c m→0≤fu f c∧fu f c≤m
theorem FOk.uniq {g:ReachGraph} {b:Int} {n:Nat} {f f':List Int} (h:FOk g b n f) (h':FOk g b n f') {c:Nat} (hc:c<n):fu f c=fu f' c:=by
 have l1:=h.lo c hc;have l2:=h'.lo c hc
 by_cases h0:0≤fu f c
 ·have g1:=h'.least c hc _ (h.sound c hc h0)
  have g2:=h.least c hc _ (h'.sound c hc g1.1)
  omega
 ·by_cases h1:0≤fu f' c
  ·have g2:=h.least c hc _ (h'.sound c hc h1)
   omega
  ·omega
theorem Wg.lt {g:ReachGraph} {b:Int} {c m:Nat} (h:Wg g b c m):c<g.home.length:=by
 cases h with
 | home h=>exact (List.getElem?_eq_some_iff.1 h).1
 | step h=>exact (List.getElem?_eq_some_iff.1 h).1
structure Best (f:List Int) (l:List ReachStep) (b:Int) (r:Int×Int):Prop where
 is:r=(-1,-1)∨∃x,x∈l∧x.to_≠b∧0≤fu f x.to_.toNat∧r=(fu f x.to_.toNat+x.price,x.to_)
 le:∀x,x∈l→x.to_≠b→0≤fu f x.to_.toNat→0≤r.1∧r.1≤fu f x.to_.toNat+x.price
section
variable {g:ReachGraph} {n:Nat} {P:Int}
theorem Zv (h:GOk n P g) {f:List Int} (hl:f.length=n) (hb:∀c,c<n→fu f c≤5000000000) {c:Nat} (hc:c<n) {but:Int} {post:Int×Int→Prop} (hp:∀l r,g.out[c]?=some l→Best f l but r→post r):QL g f (c:Int) but post:=by
 have hx:=List.getElem?_eq_getElem (show c<g.out.length by rw [h.lo];exact hc)
 generalize hlv:g.out[c]'_=l at hx
 have hll:=h.lol c l hx
 have p0:=h.p0
 unfold QL
 refine⟨l,QM rfl hx,Jn.mk (fun r=>Best f l but r) (Yk (xs:=l) (by unfold maxLen;omega) (fun t:Int×Int×Int=>t.2.2) (fun i t=>Best f (l.take i) but (t.1,t.2.1)) rfl ⟨.inl rfl,fun x hx=>by simp at hx⟩ (fun i x t hxi ht hI=>?_) (fun t hI=>by rw [List.take_length] at hI;exact hI)) (fun r hr=>hp l r hx hr)⟩
 obtain⟨⟨t0,t1⟩,hp1,hp2⟩:=h.to_ c l x hx (List.mem_of_getElem? hxi)
 obtain⟨k,hk⟩:=Int.eq_ofNat_of_zero_le t0
 have hkn:k<n:=by omega
 have hfk:=G6 (f:=f) (c:=k) (by omega)
 have hkt:x.to_.toNat=k:=by omega
 have hbk:=hb k hkn
 obtain⟨hI1,hI2⟩:=hI
 refine⟨fu f k,by rw [hk];exact hfk,?_⟩
 have hw:0≤fu f k→w64 (fu f k+x.price)=fu f k+x.price:=fun h0=>Qn (by omega) (by omega)
 refine Jn.mk (fun b=>b=true↔(x.to_≠but∧0≤fu f k∧(t.1<0∨fu f k+x.price<t.1))) (Ite.mk (fun h1=>Ite.mk (fun h2=>Ite.mk (fun h3=>?_) (fun h3=>?_)) (fun h2=>?_)) (fun h1=>?_)) (fun b hbb=>?_)
 ·have h1':x.to_≠but:=by simpa using h1
  have h2':=of_decide_eq_true h2
  have h3':=of_decide_eq_true h3
  exact⟨fun _=>⟨h1',h2',.inl h3'⟩,fun _=>rfl⟩
 ·have h1':x.to_≠but:=by simpa using h1
  have h2':0≤fu f k:=of_decide_eq_true h2
  have h3':¬t.1<0:=of_decide_eq_false h3
  show decide (w64 (fu f k+x.price)<t.1)=true↔_
  rw [hw h2',decide_eq_true_iff]
  exact⟨fun h=>⟨h1',h2',.inr h⟩,fun h=>h.2.2.resolve_left h3'⟩
 ·have h2':¬0≤fu f k:=of_decide_eq_false h2
  exact⟨fun h=>(by cases h),fun h=>absurd h.2.1 h2'⟩
 ·have h1':x.to_=but:=by simpa using h1
  exact⟨fun h=>(by cases h),fun h=>absurd h1' h.1⟩
 refine Jn.mk (fun r=>Best f (l.take (i+1)) but r) (Ite.mk (fun h1=>?_) (fun h1=>?_)) (fun r hr=>⟨by rw [ht],hr⟩)
 ·obtain⟨g1,g2,g3⟩:=hbb.1 h1
  rw [hw g2]
  refine⟨.inr ⟨x,by rw [Kd hxi];simp,g1,by rw [hkt];exact g2,by rw [hkt]⟩,fun y hy hyb hy0=>?_⟩
  rw [Kd hxi] at hy
  rcases List.mem_append.1 hy with hy | hy
  ·have:=hI2 y hy hyb hy0
   refine⟨by show 0≤fu f k+x.price;omega,?_⟩
   show fu f k+x.price≤_
   have:0≤t.1∧t.1≤fu f y.to_.toNat+y.price:=this
   omega
  ·simp at hy;subst hy
   rw [hkt];exact⟨by show 0≤fu f k+y.price;omega,Int.le_refl _⟩
 ·have hno:¬(x.to_≠but∧0≤fu f k∧(t.1<0∨fu f k+x.price<t.1)):=fun h=>by rw [hbb.2 h] at h1;cases h1
  refine⟨?_,fun y hy hyb hy0=>?_⟩
  ·rcases hI1 with e | ⟨y,hy,e⟩
   ·exact .inl e
   ·exact .inr ⟨y,by rw [Kd hxi];exact List.mem_append_left _ hy,e⟩
  ·rw [Kd hxi] at hy
   rcases List.mem_append.1 hy with hy | hy
   ·exact hI2 y hy hyb hy0
   ·simp at hy;subst hy
    rw [hkt] at hy0 ⊢
    show 0≤t.1∧t.1≤_
    omega
end
/-! ## sums and counts over a table -/
theorem Y1 {α:Type} (w:α→Nat):∀{l:List α} {i:Nat} {x y:α},l[i]?=some x→((l.set i y).map w).sum+w x=(l.map w).sum+w y
 | a :: l,0,x,y,h=>by simp at h;subst h;simp;omega
 | a :: l,i+1,x,y,h=>by
  simp at h
  have:=Y1 w (y:=y) h
  simp only [List.set_cons_succ,List.map_cons,List.sum_cons];omega
theorem ZJ {α:Type} (p:α→Bool) {l:List α} {i:Nat} {x y:α} (h:l[i]?=some x):(l.set i y).countP p+(if p x=true then 1 else 0)=l.countP p+(if p y=true then 1 else 0):=by
 have e:∀l:List α,l.countP p=(l.map fun a=>if p a=true then 1 else 0).sum:=fun l=>by
  induction l with
  | nil=>rfl
  | cons a l ih=>rw [List.countP_cons,ih,List.map_cons,List.sum_cons];omega
 rw [e,e];exact Y1 _ h
end Go.Taq
/- The mathematics, part GB: settle makes the fuel of cells less as long as that is possible (chapter 33). -/
set_option linter.unusedVariables false
set_option linter.unusedSimpArgs false
namespace Go.Taq
open Go
def wtF (B:Nat) (v:Int):Nat:=if v<0 then B+1 else v.toNat
def WF (B:Nat) (f:List Int):Nat:=(f.map (wtF B)).sum
def nn (f:List Int):Nat:=f.countP fun v=>decide (0≤v)
structure SInv (g:ReachGraph) (b:Int) (n:Nat) (P K:Int) (may:Nat→Prop) (f0 f q:List Int):Prop where
 len:f.length=n
 lo:∀c,c<n→-1≤fu f c
 hi:∀c,c<n→fu f c≤K+P*nn f
 sound:∀c,c<n→0≤fu f c→Wg g b c (fu f c).toNat
 home:∀c,c<n→g.home[c]?=some true→fu f c=0
 relax:∀(c:Nat) l x,may c→g.home[c]?=some false→g.out[c]?=some l→x∈l→x.to_≠b→0≤fu f x.to_.toNat→x.to_∉q→0≤fu f c∧fu f c≤fu f x.to_.toNat+x.price
 q:∀x,x∈q→0≤x∧x<n
 keep:∀c,c<n→¬may c→fu f c=fu f0 c
section
variable {g:ReachGraph} {n:Nat} {P K b:Int} {may:Nat→Prop} {f0 f q:List Int}
theorem Q31 (h:SInv g b n P K may f0 f q):nn f≤n:=by
 have:=List.countP_le_length (p:=fun v:Int=>decide (0≤v)) (l:=f)
 unfold nn;rw [h.len] at this;exact this
theorem SInv.top (hg:GOk n P g) (h:SInv g b n P K may f0 f q) {c:Nat} (hc:c<n):fu f c≤K+P*n:=by
 have h1:=h.hi c hc
 have h2:=Q31 h
 have:P*(nn f:Int)≤P*(n:Int):=Int.mul_le_mul_of_nonneg_left (by omega) (by have:=hg.p0;omega)
 omega
theorem Q14 (hg:GOk n P g) (hK:0≤K∧K≤20000000):0≤P*(n:Int)∧P*(n:Int)≤10000000:=by
 have h1:=hg.p0;have h2:=hg.n4
 refine⟨Int.mul_nonneg (by omega) (by omega),?_⟩
 have:P*(n:Int)≤10000*1000:=Int.mul_le_mul (by omega) (by omega) (by omega) (by omega)
 omega
theorem SInv.put (hg:GOk n P g) (hK:0≤K∧K≤20000000) (h:SInv g b n P K may f0 f q) {c:Nat} {l:List ReachStep} {r:Int×Int} (hc:c<n) (hm:may c) (hh:g.home[c]?=some false) (hl:g.out[c]?=some l) (hB:Best f l b r) (h0:0≤r.1) (hlt:fu f c<0∨r.1<fu f c):
  SInv g b n P K may f0 (f.set c r.1) (q++[(c:Int)])∧WF (K+P*n).toNat (f.set c r.1)<WF (K+P*n).toNat f:=by
 have hlen:=h.len
 have hcl:c<f.length:=by omega
 have hfc:=WH hcl
 have hp:=hg.p0
 have hcnt:=ZJ (fun v:Int=>decide (0≤v)) (y:=r.1) hfc
 have hset:∀d,fu (f.set c r.1) d=if d=c then r.1 else fu f d:=fun d=>Wj hcl
 obtain⟨x,hx,hxb,hx0,hr⟩:∃x,x∈l∧x.to_≠b∧0≤fu f x.to_.toNat∧r=(fu f x.to_.toNat+x.price,x.to_):=by
  rcases hB.is with e | e
  ·rw [e] at h0;exact absurd h0 (by decide)
  ·exact e
 obtain⟨⟨t0,t1⟩,p1,p2⟩:=hg.to_ c l x hl hx
 have hk:x.to_.toNat<n:=by omega
 have hr1:r.1=fu f x.to_.toNat+x.price:=by rw [hr]
 have hhix:=h.hi _ hk
 -- the count
 have hnn:(nn (f.set c r.1):Int)=nn f+(if fu f c<0 then 1 else 0):=by
  unfold nn
  rw [if_pos (decide_eq_true h0)] at hcnt
  split
  ·rename_i hneg
   rw [if_neg (by simp;omega)] at hcnt;omega
  ·rename_i hneg
   rw [if_pos (by simp;omega)] at hcnt;omega
 have hmul:P*(nn (f.set c r.1):Int)=P*nn f+(if fu f c<0 then P else 0):=by
  rw [hnn,Int.mul_add];split <;> simp
 have hrhi:r.1≤K+P*nn (f.set c r.1):=by
  rw [hmul]
  split
  ·omega
  ·have:=h.hi c hc;omega
 refine⟨⟨by rw [List.length_set];exact hlen,fun d hd=>?_,fun d hd=>?_,fun d hd hd0=>?_,fun d hd hdh=>?_,fun d m y hdm hdh hdl hy hyb hy0 hyq=>?_,fun y hy=>?_,fun d hd hdm=>?_⟩,?_⟩
 ·rw [hset];split
  ·omega
  ·exact h.lo d hd
 ·rw [hset];split
  ·exact hrhi
  ·have:=h.hi d hd;rw [hmul];split <;> omega
 ·rw [hset] at hd0 ⊢
  split
  ·rename_i e
   subst e
   have hs:=h.sound _ hk hx0
   have:=Wg.step (b:=b) hh hl hx hxb hs
   have e2:r.1.toNat=(fu f x.to_.toNat).toNat+x.price.toNat:=by omega
   rw [e2];exact this
  ·rename_i e
   rw [if_neg e] at hd0
   exact h.sound d hd hd0
 ·rw [hset];split
  ·rename_i e
   subst e;rw [hh] at hdh;cases hdh
  ·exact h.home d hd hdh
 ·have hyq2:y.to_∉q:=fun hm=>hyq (List.mem_append_left _ hm)
  have hyc:y.to_≠(c:Int):=fun e=>hyq (List.mem_append_right _ (by simp [e]))
  obtain⟨⟨s0,s1⟩,_⟩:=hg.to_ d m y hdl hy
  have hyc2:y.to_.toNat≠c:=by omega
  rw [hset,if_neg hyc2] at hy0
  have ey:fu (f.set c r.1) y.to_.toNat=fu f y.to_.toNat:=by rw [hset,if_neg hyc2]
  rw [ey,hset]
  split
  ·rename_i e
   subst e
   rw [hl] at hdl;cases hdl
   have:=hB.le y hy hyb hy0
   exact this
  ·exact h.relax d m y hdm hdh hdl hy hyb hy0 hyq2
 ·rcases List.mem_append.1 hy with hy | hy
  ·exact h.q y hy
  ·simp at hy;subst hy;omega
 ·rw [hset,if_neg (by intro e;subst e;exact hdm hm)]
  exact h.keep d hd hdm
 ·have hs:=Y1 (wtF (K+P*n).toNat) (y:=r.1) hfc
  have htop:=h.top hg hc
  have hb2:=Q14 hg hK
  have hrtop:r.1≤K+P*n:=by
   have:P*(nn (f.set c r.1):Int)≤P*(n:Int):=Int.mul_le_mul_of_nonneg_left (by
    have:=List.countP_le_length (p:=fun v:Int=>decide (0≤v)) (l:=f.set c r.1)
    rw [List.length_set,hlen] at this
    unfold nn;omega) (by omega)
   omega
  have:wtF (K+P*n).toNat r.1<wtF (K+P*n).toNat (fu f c):=by
   unfold wtF
   rw [if_neg (by omega)]
   split <;> omega
  unfold WF;omega
theorem Q1i (hg:GOk n P g) (hK:0≤K∧K≤20000000) {M:Int→(Bool→Prop)→Prop} [DecidablePred may] (hM:∀c:Nat,∀{q:Bool→Prop},c<n→q (decide (may c))→M (c:Int) q) (h:SInv g b n P K may f0 f q) (hq:2*WF (K+P*n).toNat f+q.length≤100000000000) {post:List Int→Prop} (hp:∀f',SInv g b n P K may f0 f' []→post f'):
 Jn (fun (J2:(List Int)→Prop)=>Loop (fun (s3:List Int×List Int) Y4=>Ite (decide ((s3.2.length:Int)>0)) (Jn (fun (J9:(List Int×List Int)→Prop)=>∃x12,idx s3.2 0=some x12∧∃x13,idx g.in_ x12=some x13∧Jn (fun (J15:(List Int×List Int)→Prop)=>Loop (fun (s16:List Int×List Int×Int) Y17=>Ite (decide (s16.2.2<(x13.length:Int))) (Jn (fun (J22:(List Int×List Int)→Prop)=>∃x25,idx x13 s16.2.2=some x25∧Jn (fun (J27:Bool→Prop)=>∃x28,idx g.home x25=some x28∧Ite x28 (J27 true) (M x25 (fun x30=>J27 (!x30)))) (fun (x26:Bool)=>Ite x26 (J22 (s16.1,s16.2.1)) (QL g s16.1 x25 b (fun x34=>Jn (fun (J36:Bool→Prop)=>Ite (decide (x34.1≥0)) (∃x38,idx s16.1 x25=some x38∧Ite (decide (x38<0)) (J36 true) (J36 (decide (x34.1<x38)))) (J36 false)) (fun (x35:Bool)=>Jn (fun (J41:(List Int×List Int)→Prop)=>Ite x35 (∃x45,idx s16.1 x25=some x45∧(s16.2.1.length+([x25]:List Int).length≤1099511627776)∧J41 ((s16.1.set (Int.toNat x25) x34.1),(s16.2.1++([x25]:List Int)))) (J41 (s16.1,s16.2.1))) (fun (x40:List Int×List Int)=>J22 (x40.1,x40.2))))))) (fun (x21:List Int×List Int)=>Y17 (x21.1,x21.2,w64 (s16.2.2+1)))) (J15 (s16.1,s16.2.1))) (s3.1,s3.2,0)) (fun (x14:List Int×List Int)=>J9 (x14.1,x14.2))) (fun (x8:List Int×List Int)=>(0≤(1:Int)∧(1:Int)≤(x8.2.length:Int)∧(x8.2.length:Int)≤(x8.2.length:Int))∧Y4 (x8.1,(sub x8.2 1 (x8.2.length:Int))))) (J2 s3.1)) (f,q)) (fun (x1:List Int)=>post x1):=by
 refine Jn.mk (fun f'=>SInv g b n P K may f0 f' []) (Loop.mk (fun s:List Int×List Int=>SInv g b n P K may f0 s.1 s.2∧2*WF (K+P*n).toNat s.1+s.2.length≤100000000000) (fun s=>2*WF (K+P*n).toNat s.1+s.2.length) ⟨h,hq⟩ ?_) (fun f' h=>hp f' h)
 rintro⟨f1,q1⟩ ⟨h1,hq1⟩
 simp only at h1 hq1
 match q1,h1,hq1 with
 | [],h1,hq1=>exact Ite.f (by simp) h1
 | hd :: q2,h1,hq1=>
  refine Ite.t (decide_eq_true (show (((hd :: q2).length:Nat):Int)>0 by rw [List.length_cons];omega)) ?_
  have hhd:=h1.q hd (by simp)
  obtain⟨k,hk⟩:=Int.eq_ofNat_of_zero_le hhd.1
  subst hk
  have hkn:k<n:=by omega
  have hin:=List.getElem?_eq_getElem (show k<g.in_.length by rw [hg.li];exact hkn)
  generalize hinv:g.in_[k]'_=l at hin
  have hll:=hg.lil k l hin
  refine Jn.mk (fun s:List Int×List Int=>∃r,s.2=(k:Int) :: r∧SInv g b n P K may f0 s.1 r∧2*WF (K+P*n).toNat s.1+s.2.length≤2*WF (K+P*n).toNat f1+((k:Int) :: q2).length) ⟨(k:Int),rfl,l,QM rfl hin,?_⟩ (fun s hs=>?_)
  ·refine Jn.mk (fun s:List Int×List Int=>∃r,s.2=(k:Int) :: r∧SInv g b n P K may f0 s.1 r∧2*WF (K+P*n).toNat s.1+s.2.length≤2*WF (K+P*n).toNat f1+((k:Int) :: q2).length)
    (ZP (xs:=l) (by unfold maxLen;omega) (fun t:List Int×List Int×Int=>t.2.2) (fun i t=>∃r,t.2.1=(k:Int) :: r∧SInv g b n P K may f0 t.1 t.2.1∧2*WF (K+P*n).toNat t.1+t.2.1.length≤2*WF (K+P*n).toNat f1+((k:Int) :: q2).length ∧
     ∀(c:Nat),(c:Int)∈l.take i→may c→g.home[c]?=some false→∀m x,g.out[c]?=some m→x∈m→x.to_=k→x.to_≠b→0≤fu t.1 k→(k:Int)∉r→0≤fu t.1 c∧fu t.1 c≤fu t.1 k+x.price) rfl ⟨q2,rfl,h1,Nat.le_refl _,fun c hc=>by simp at hc⟩ (fun i x t hx ht hI=>?_) (fun t hI=>?_)) (fun s hs=>hs)
   ·obtain⟨r,hr,hS,hW,hpr⟩:=hI
    have hxm:=List.mem_of_getElem? hx
    have hxn:=hg.inn k l x hin hxm
    obtain⟨c,hc⟩:=Int.eq_ofNat_of_zero_le hxn.1
    subst hc
    have hcn:c<n:=by omega
    have hho:=List.getElem?_eq_getElem (show c<g.home.length by rw [hg.lh];exact hcn)
    generalize hhv:g.home[c]'_=ho at hho
    -- what the round leaves
    refine Jn.mk (fun s:List Int×List Int=>∃r,s.2=(k:Int) :: r∧SInv g b n P K may f0 s.1 s.2∧2*WF (K+P*n).toNat s.1+s.2.length≤2*WF (K+P*n).toNat f1+((k:Int) :: q2).length ∧
     ∀(c:Nat),(c:Int)∈l.take (i+1)→may c→g.home[c]?=some false→∀m x,g.out[c]?=some m→x∈m→x.to_=k→x.to_≠b→0≤fu s.1 k→(k:Int)∉r→0≤fu s.1 c∧fu s.1 c≤fu s.1 k+x.price) ?_ (fun s hs=>⟨by rw [ht],hs⟩)
    have stay:∀(hno:may c→g.home[c]?=some false→∀m x,g.out[c]?=some m→x∈m→x.to_=k→x.to_≠b→0≤fu t.1 k→(k:Int)∉r→0≤fu t.1 c∧fu t.1 c≤fu t.1 k+x.price),
      ∃r,t.2.1=(k:Int) :: r∧SInv g b n P K may f0 t.1 t.2.1∧2*WF (K+P*n).toNat t.1+t.2.1.length≤2*WF (K+P*n).toNat f1+((k:Int) :: q2).length ∧
     ∀(c:Nat),(c:Int)∈l.take (i+1)→may c→g.home[c]?=some false→∀m x,g.out[c]?=some m→x∈m→x.to_=k→x.to_≠b→0≤fu t.1 k→(k:Int)∉r→0≤fu t.1 c∧fu t.1 c≤fu t.1 k+x.price:=fun hno=>⟨r,hr,hS,hW,fun d hd=>by
      rw [Kd hx] at hd
      rcases List.mem_append.1 hd with hd | hd
      ·exact hpr d hd
      ·simp at hd
       have:d=c:=by omega
       subst this;exact hno⟩
    refine⟨(c:Int),by rw [ht];exact QM rfl hx,Jn.mk (fun bb=>bb=(ho||!decide (may c))) ⟨ho,QM rfl hho,Ite.mk (fun e=>by rw [e];rfl) (fun e=>by rw [e];exact hM c hcn rfl)⟩ (fun bb hbb=>Ite.mk (fun e=>?_) (fun e=>?_))⟩
    ·refine stay (fun hm hh=>?_)
     rw [e] at hbb
     rw [hho] at hh
     have hh2:=Option.some.inj hh
     rw [hh2,decide_eq_true hm] at hbb
     cases hbb
    ·rw [e] at hbb
     have hbb':=hbb.symm
     simp at hbb'
     obtain⟨hof,hmc⟩:=hbb'
     rw [hof] at hho
     have htop:=fun d hd=>hS.top hg (c:=d) hd
     have htb:=Q14 hg hK
     refine Zv hg hS.len (fun d hd=>by have:=htop d hd;omega) hcn (fun lo rr hlo hB=>?_)
     have hfc:=G6 (f:=t.1) (c:=c) (by rw [hS.len];exact hcn)
     refine Jn.mk (fun x=>x=true↔0≤rr.1∧(fu t.1 c<0∨rr.1<fu t.1 c)) (Ite.mk (fun e1=>⟨_,hfc,Ite.mk (fun e2=>?_) (fun e2=>?_)⟩) (fun e1=>?_)) (fun x35 h35=>?_)
     ·exact⟨fun _=>⟨of_decide_eq_true e1,.inl (of_decide_eq_true e2)⟩,fun _=>rfl⟩
     ·show decide _=true↔_
      rw [decide_eq_true_iff]
      exact⟨fun h=>⟨of_decide_eq_true e1,.inr h⟩,fun h=>h.2.resolve_left (of_decide_eq_false e2)⟩
     ·exact⟨fun h=>(by cases h),fun h=>absurd h.1 (of_decide_eq_false e1)⟩
     refine Jn.mk (fun s:List Int×List Int=>∃r,s.2=(k:Int) :: r∧SInv g b n P K may f0 s.1 s.2∧2*WF (K+P*n).toNat s.1+s.2.length≤2*WF (K+P*n).toNat f1+((k:Int) :: q2).length ∧
     ∀(c:Nat),(c:Int)∈l.take (i+1)→may c→g.home[c]?=some false→∀m x,g.out[c]?=some m→x∈m→x.to_=k→x.to_≠b→0≤fu s.1 k→(k:Int)∉r→0≤fu s.1 c∧fu s.1 c≤fu s.1 k+x.price) (Ite.mk (fun e3=>?_) (fun e3=>?_)) (fun s hs=>hs)
     ·obtain⟨g0,glt⟩:=h35.1 e3
      obtain⟨hS',hW'⟩:=hS.put hg hK hcn hmc hho hlo hB g0 glt
      have hlen1:((k:Int) :: q2).length=q2.length+1:=rfl
      refine⟨_,hfc,by simp;omega,r++[(c:Int)],by show t.2.1++[(c:Int)]=_;rw [hr];rfl,hS',?_,fun d hd hdm hdh m x hdl hxm2 hxk hxb hk0 hkr=>?_⟩
      ·show 2*WF _ (t.1.set c rr.1)+(t.2.1++[(c:Int)]).length≤_
       rw [List.length_append,List.length_singleton];omega
      ·have hkc:k≠c:=fun e=>hkr (List.mem_append_right _ (by simp [e]))
       have hkr2:(k:Int)∉r:=fun hm=>hkr (List.mem_append_left _ hm)
       have hset:∀d,fu (t.1.set c rr.1) d=if d=c then rr.1 else fu t.1 d:=fun d=>Wj (by rw [hS.len];exact hcn)
       have hk0':0≤fu t.1 k:=by
        have:0≤fu (t.1.set c rr.1) k:=hk0
        rw [hset,if_neg hkc] at this;exact this
       show 0≤fu (t.1.set c rr.1) d∧fu (t.1.set c rr.1) d≤fu (t.1.set c rr.1) k+x.price
       rw [hset,hset,if_neg hkc]
       have hkt:x.to_.toNat=k:=by omega
       split
       ·rename_i e
        subst e
        rw [hlo] at hdl;cases hdl
        have:=hB.le x hxm2 hxb (by rw [hkt];exact hk0')
        rw [hkt] at this;exact this
       ·rename_i e
        rw [Kd hx] at hd
        rcases List.mem_append.1 hd with hd | hd
        ·exact hpr d hd hdm hdh m x hdl hxm2 hxk hxb hk0' hkr2
        ·simp at hd;exact absurd (by omega) e
     ·refine stay (fun hdm hdh m x hdl hxm2 hxk hxb hk0 hkr=>?_)
      have hno:¬(0≤rr.1∧(fu t.1 c<0∨rr.1<fu t.1 c)):=fun hh=>by rw [h35.2 hh] at e3;cases e3
      rw [hlo] at hdl;cases hdl
      have hkt:x.to_.toNat=k:=by omega
      have:=hB.le x hxm2 hxb (by rw [hkt];exact hk0)
      rw [hkt] at this
      omega
   ·obtain⟨r,hr,hS,hW,hpr⟩:=hI
    rw [List.take_length] at hpr
    refine⟨r,hr,⟨hS.len,hS.lo,hS.hi,hS.sound,hS.home,fun c m x hm hh hlx hx hxb hx0 hxr=>?_,fun x hx=>hS.q x (by rw [hr];exact List.mem_cons_of_mem _ hx),hS.keep⟩,hW⟩
    obtain⟨⟨t0,t1⟩,_⟩:=hg.to_ c m x hlx hx
    by_cases e:x.to_=(k:Int)
    ·have hkt:x.to_.toNat=k:=by omega
     rw [hkt] at hx0 ⊢
     refine hpr c ?_ hm hh m x hlx hx e hxb hx0 (by rw [←e];exact hxr)
     exact hg.all c m x hlx hx l (by rw [hkt];exact hin)
    ·refine hS.relax c m x hm hh hlx hx hxb hx0 ?_
     rw [hr]
     intro hm2
     rcases List.mem_cons.1 hm2 with h2 | h2
     ·exact e h2
     ·exact hxr h2
  ·obtain⟨r,hr,hS,hW⟩:=hs
   have hlen1:s.2.length=r.length+1:=by rw [hr];rfl
   have hsub:sub s.2 1 (s.2.length:Int)=r:=by
    rw [hr];simp [sub]
   refine⟨by rw [hlen1];omega,⟨by show SInv g b n P K may f0 s.1 (sub s.2 1 _);rw [hsub];exact hS,?_⟩,?_⟩
   ·show 2*WF _ s.1+(sub s.2 1 (s.2.length:Int)).length≤_
    rw [hsub];omega
   ·show 2*WF _ s.1+(sub s.2 1 (s.2.length:Int)).length<2*WF _ f1+((k:Int) :: q2).length
    rw [hsub];omega
end
end Go.Taq
/- The mathematics, part GC: the graph of a site, its fuel (chapter 33). -/
set_option linter.unusedVariables false
set_option linter.unusedSimpArgs false
namespace Go.Taq
open Go
def prS (s:ApiSite) (d x:Int):Int:=if d<0∨d≥6∨isC s.Floor x=false then 0 else cst 20000 (1+d) true+(if kd s.Floor x=3 then 0 else (spd s x-1)*3)
theorem Q1C {d:Int} (h0:0≤d) (h6:d<6):1≤cst 20000 (1+d) true∧cst 20000 (1+d) true≤21:=by
 have:d=0∨d=1∨d=2∨d=3∨d=4∨d=5:=by omega
 rcases this with e | e | e | e | e | e <;> subst e <;> decide
theorem Xz {s:ApiSite} (hs:RS s) {d x:Int} (h0:0≤d) (h6:d<6) (hx:isC s.Floor x=true):1≤prS s d x∧prS s d x≤400:=by
 have h1:=Q1C h0 h6
 have h2:=Q09 hs x
 unfold prS
 rw [if_neg (by rw [hx];simp;omega)]
 split <;> omega
theorem WI {post:Int→Prop} (hp:post 3):KD post:=by
 unfold KD
 exact Gt (by omega) (by omega) hp
theorem XP {s:ApiSite} (ks:OkApiSite s) (hs:RS s) {d x:Int} {post:Int→Prop} (hp:post (prS s d x)):Km s d x post:=by
 unfold Km X2 QZ
 refine Jn.mk (fun b=>b=(decide (d<0)||decide (d≥6)||!isC s.Floor x)) (Ite.mk (fun h=>by rw [h];rfl) (fun h=>Ite.mk (fun h2=>by rw [h,h2];rfl) (fun h2=>Jn.mk' (Ite.mk (fun h3=>?_) (fun h3=>?_))))) (fun b hb=>Ite.mk (fun h=>?_) (fun h=>?_))
 ·rw [h,h2]
  have:isC s.Floor x=decide (x<(s.Floor.Kind.length:Int)):=by unfold isC;rw [decide_eq_true (show 0≤x from of_decide_eq_true h3)];rfl
  rw [this];rfl
 ·rw [h,h2]
  have:isC s.Floor x=false:=by unfold isC;rw [decide_eq_false (show ¬0≤x from of_decide_eq_false h3)];rfl
  rw [this];rfl
 ·rw [h] at hb
  have hb':=hb.symm
  simp only [Bool.or_eq_true,decide_eq_true_eq,Bool.not_eq_true'] at hb'
  unfold prS at hp
  rw [if_pos (by rcases hb' with (h | h) | h;exact .inl h;exact .inr (.inl h);exact .inr (.inr h))] at hp;exact hp
 ·rw [h] at hb
  have hb':=hb.symm
  simp only [Bool.or_eq_false_iff,decide_eq_false_iff_not,Bool.not_eq_false'] at hb'
  obtain⟨⟨h1,h2⟩,h3⟩:=hb'
  have hsb:=Q09 hs x
  have hcb:=Q1C (d:=d) (by omega) (by omega)
  unfold prS at hp
  rw [if_neg (by rw [h3];simp;omega)] at hp
  rw [Qn (x:=1+d) (by omega) (by omega)]
  refine Gt (by omega) (by omega) ⟨_,Xo h3,Jn.mk' (Ite.mk (fun h4=>W6 ks hs (WI ?_)) (fun h4=>?_))⟩
  ·rw [if_neg (by simpa using h4)] at hp
   rw [Qn (x:=spd s x-1) (by omega) (by omega),Qn (x:=(spd s x-1)*3) (by omega) (by omega),Qn (by omega) (by omega)]
   exact hp
  ·rw [if_pos (by simpa using h4),Int.add_zero] at hp
   exact hp
structure GrS (s:ApiSite) (L:List Int) (g:ReachGraph):Prop where
 lo:g.out.length=s.Floor.Kind.length
 li:g.in_.length=s.Floor.Kind.length
 lh:g.home.length=s.Floor.Kind.length
 out:∀e,e<s.Floor.Kind.length→∃l,g.out[e]?=some l∧l.length≤6∧∀x,x∈l↔∃d:Nat,d<6∧nx s.Floor e d=(x.to_,true)∧x.to_∉L∧x.price=prS s d x.to_
 inn:∀y,y<s.Floor.Kind.length→∃l,g.in_[y]?=some l∧l.length≤6*s.Floor.Kind.length∧(∀a,a∈l→0≤a∧a<s.Floor.Kind.length)∧∀e d:Nat,e<s.Floor.Kind.length→d<6→nx s.Floor e d=((y:Int),true)→(y:Int)∉L→(e:Int)∈l
 home:∀e:Nat,e<s.Floor.Kind.length→g.home[e]?=some (kd s.Floor e == 3)
theorem GrS.ok {s:ApiSite} {L:List Int} {g:ReachGraph} (hf:RF s.Floor) (hs:RS s) (h:GrS s L g) (hn:s.Floor.Kind.length≤1000):GOk s.Floor.Kind.length 400 g where
 n4:=hn
 p0:=by omega
 lo:=h.lo
 li:=h.li
 lh:=h.lh
 to_:=fun c l x hl hx=>by
  have hc:c<s.Floor.Kind.length:=by rw [←h.lo];exact (List.getElem?_eq_some_iff.1 hl).1
  obtain⟨l',e1,_,e3⟩:=h.out c hc
  rw [hl] at e1;cases e1
  obtain⟨d,d6,hnx,_,hp⟩:=(e3 x).1 hx
  have hok:=Xt hf (c:=(c:Int)) (d:=(d:Int)) (by rw [hnx])
  rw [hnx] at hok
  have hb:=Xz hs (d:=(d:Int)) (x:=x.to_) (by omega) (by omega) hok.2.1
  have:=Qo.1 hok.2.1
  exact⟨by omega,by omega,by omega⟩
 inn:=fun y l c hl hc=>by
  have hy:y<s.Floor.Kind.length:=by rw [←h.li];exact (List.getElem?_eq_some_iff.1 hl).1
  obtain⟨l',e1,_,e3,_⟩:=h.inn y hy
  rw [hl] at e1;cases e1
  exact e3 c hc
 all:=fun c l x hl hx m hm=>by
  have hc:c<s.Floor.Kind.length:=by rw [←h.lo];exact (List.getElem?_eq_some_iff.1 hl).1
  obtain⟨l',e1,_,e3⟩:=h.out c hc
  rw [hl] at e1;cases e1
  obtain⟨d,d6,hnx,hL,hp⟩:=(e3 x).1 hx
  have hok:=Xt hf (c:=(c:Int)) (d:=(d:Int)) (by rw [hnx])
  rw [hnx] at hok
  have ht:=Qo.1 hok.2.1
  have e:((x.to_.toNat:Nat):Int)=x.to_:=by omega
  obtain⟨m',e4,_,_,e5⟩:=h.inn x.to_.toNat (by omega)
  rw [hm] at e4;cases e4
  exact e5 c d hc d6 (by rw [e];exact hnx) (by rw [e];exact hL)
 lol:=fun c l hl=>by
  have hc:c<s.Floor.Kind.length:=by rw [←h.lo];exact (List.getElem?_eq_some_iff.1 hl).1
  obtain⟨l',e1,e2,_⟩:=h.out c hc
  rw [hl] at e1;cases e1;exact e2
 lil:=fun y l hl=>by
  have hy:y<s.Floor.Kind.length:=by rw [←h.li];exact (List.getElem?_eq_some_iff.1 hl).1
  obtain⟨l',e1,e2,_⟩:=h.inn y hy
  rw [hl] at e1;cases e1;omega
def prB (c d e d':Nat):Prop:=e<c∧d'<6∨e=c∧d'<d
structure GI (s:ApiSite) (L:List Int) (c d:Nat) (o:List (List ReachStep)) (i:List (List Int)):Prop where
 lo:o.length=s.Floor.Kind.length
 li:i.length=s.Floor.Kind.length
 out:∀e,e<s.Floor.Kind.length→∃l,o[e]?=some l∧(l.length≤6∧(e=c→l.length≤d)∧(c<e→l=[]))∧∀x,x∈l↔∃d':Nat,prB c d e d'∧nx s.Floor e d'=(x.to_,true)∧x.to_∉L∧x.price=prS s d' x.to_
 inn:∀y,y<s.Floor.Kind.length→∃l,i[y]?=some l∧l.length≤6*c+d∧(∀a,a∈l→0≤a∧a<s.Floor.Kind.length)∧∀e d':Nat,prB c d e d'→nx s.Floor e d'=((y:Int),true)→(y:Int)∉L→(e:Int)∈l
section
variable {s:ApiSite} {L:List Int} {c d:Nat} {o:List (List ReachStep)} {i:List (List Int)}
theorem X5 {e d':Nat}:prB c (d+1) e d'↔prB c d e d'∨(e=c∧d'=d):=by unfold prB;omega
theorem GI.skip (h:GI s L c d o i) (hd:d<6) (hno:∀y,nx s.Floor c d=(y,true)→y∈L):GI s L c (d+1) o i:=by
 refine⟨h.lo,h.li,fun e he=>?_,fun y hy=>?_⟩
 ·obtain⟨l,e1,⟨e2,e3,e4⟩,e5⟩:=h.out e he
  refine⟨l,e1,⟨e2,fun h=>by have:=e3 h;omega,e4⟩,fun x=>?_⟩
  rw [e5]
  constructor
  ·rintro⟨d',h1,h2⟩;exact⟨d',X5.2 (.inl h1),h2⟩
  ·rintro⟨d',h1,h2⟩
   rcases X5.1 h1 with h1 | ⟨h3,h4⟩
   ·exact⟨d',h1,h2⟩
   ·subst h3;subst h4;exact absurd (hno _ h2.1) h2.2.1
 ·obtain⟨l,e1,e2,e3,e4⟩:=h.inn y hy
  refine⟨l,e1,by omega,e3,fun e d' h1 h2 h3=>?_⟩
  rcases X5.1 h1 with h1 | ⟨h5,h6⟩
  ·exact e4 e d' h1 h2 h3
  ·subst h5;subst h6;exact absurd (hno _ h2) h3
theorem GI.add (hf:RF s.Floor) (h:GI s L c d o i) (hc:c<s.Floor.Kind.length) (hd:d<6) {y:Int} (hy:nx s.Floor c d=(y,true)) (hL:y∉L) {l:List ReachStep} {m:List Int} (hl:o[c]?=some l) (hm:i[y.toNat]?=some m):
  GI s L c (d+1) (o.set c (l++[{to_:=y,price:=prS s d y}])) (i.set y.toNat (m++[(c:Int)])):=by
 have hok:=Xt hf (c:=(c:Int)) (d:=(d:Int)) (by rw [hy])
 rw [hy] at hok
 have ht:=Qo.1 hok.2.1
 refine⟨by rw [List.length_set];exact h.lo,by rw [List.length_set];exact h.li,fun e he=>?_,fun z hz=>?_⟩
 ·obtain⟨l',e1,⟨e2,e3,e4⟩,e5⟩:=h.out e he
  by_cases ec:e=c
  ·subst ec
   rw [hl] at e1;cases e1
   refine⟨_,List.getElem?_set_self (by rw [h.lo];exact hc),⟨?_,fun _=>?_,fun h=>by omega⟩,fun x=>?_⟩
   ·have:=e3 rfl;simp;omega
   ·have:=e3 rfl;simp;omega
   ·rw [List.mem_append,e5,List.mem_singleton]
    constructor
    ·rintro (⟨d',h1,h2⟩ | h1)
     ·exact⟨d',X5.2 (.inl h1),h2⟩
     ·subst h1;exact⟨d,X5.2 (.inr ⟨rfl,rfl⟩),hy,hL,rfl⟩
    ·rintro⟨d',h1,h2,h3,h4⟩
     rcases X5.1 h1 with h1 | ⟨_,h6⟩
     ·exact .inl ⟨d',h1,h2,h3,h4⟩
     ·subst h6
      rw [hy] at h2
      have h7:y=x.to_:=by injection h2
      refine .inr ?_
      obtain⟨a,b⟩:=x
      simp only at h7 h4
      subst h7;subst h4;rfl
  ·refine⟨l',by rw [List.getElem?_set_ne (Ne.symm ec)];exact e1,⟨e2,fun h=>absurd h ec,e4⟩,fun x=>?_⟩
   rw [e5]
   constructor
   ·rintro⟨d',h1,h2⟩;exact⟨d',X5.2 (.inl h1),h2⟩
   ·rintro⟨d',h1,h2⟩
    rcases X5.1 h1 with h1 | ⟨h3,_⟩
    ·exact⟨d',h1,h2⟩
    ·exact absurd h3 ec
 ·obtain⟨m',e1,e2,e3,e4⟩:=h.inn z hz
  by_cases ez:z=y.toNat
  ·subst ez
   rw [hm] at e1;cases e1
   refine⟨_,List.getElem?_set_self (by rw [h.li];exact hz),by simp;omega,fun a ha=>?_,fun e d' h1 h2 h3=>?_⟩
   ·rcases List.mem_append.1 ha with ha | ha
    ·exact e3 a ha
    ·simp at ha;subst ha;omega
   ·rcases X5.1 h1 with h1 | ⟨h5,h6⟩
    ·exact List.mem_append_left _ (e4 e d' h1 h2 h3)
    ·subst h5;simp
  ·refine⟨m',by rw [List.getElem?_set_ne (Ne.symm ez)];exact e1,by omega,e3,fun e d' h1 h2 h3=>?_⟩
   rcases X5.1 h1 with h1 | ⟨h5,h6⟩
   ·exact e4 e d' h1 h2 h3
   ·subst h5;subst h6
    rw [hy] at h2
    have h7:y=(z:Int):=by injection h2
    exact absurd (by omega) ez
theorem GI.next (h:GI s L c 6 o i):GI s L (c+1) 0 o i:=by
 have hp:∀e d':Nat,prB (c+1) 0 e d'↔prB c 6 e d':=fun e d'=>by unfold prB;omega
 refine⟨h.lo,h.li,fun e he=>?_,fun y hy=>?_⟩
 ·obtain⟨l,e1,⟨e2,e3,e4⟩,e5⟩:=h.out e he
  refine⟨l,e1,⟨e2,fun h=>by rw [e4 (by omega)];simp,fun h=>e4 (by omega)⟩,fun x=>?_⟩
  rw [e5]
  exact⟨fun ⟨d',h1,h2⟩=>⟨d',(hp e d').2 h1,h2⟩,fun ⟨d',h1,h2⟩=>⟨d',(hp e d').1 h1,h2⟩⟩
 ·obtain⟨l,e1,e2,e3,e4⟩:=h.inn y hy
  exact⟨l,e1,by omega,e3,fun e d' h1 h2 h3=>e4 e d' ((hp e d').1 h1) h2 h3⟩
theorem WP (ks:OkApiSite s) (hf:RF s.Floor) (hs:RS s) (hn:s.Floor.Kind.length≤1000) (hL:L.length≤maxLen) {post:ReachGraph→Prop} (hp:∀g,GrS s L g→post g):Ko s L post:=by
 unfold Ko
 refine⟨by omega,by omega,by omega,?_⟩
 refine Jn.mk (fun t:List (List ReachStep)×List (List Int)×List Bool=>GI s L s.Floor.Kind.length 0 t.1 t.2.1∧t.2.2.length=s.Floor.Kind.length∧∀e:Nat,e<s.Floor.Kind.length→t.2.2[e]?=some (kd s.Floor e == 3))
  (Q10 s.Floor.Kind.length (fun t:List (List ReachStep)×List (List Int)×List Bool×Int=>t.2.2.2) (fun c t=>GI s L c 0 t.1 t.2.1∧t.2.2.1.length=s.Floor.Kind.length∧∀e:Nat,e<c→t.2.2.1[e]?=some (kd s.Floor e == 3)) (by unfold maxLen;omega) rfl ⟨⟨by simp,by simp,fun e he=>⟨[],by simp [he],⟨by simp,fun _=>by simp,fun _=>rfl⟩,fun x=>⟨fun h=>(by cases h),fun ⟨d',h1,_⟩=>(by unfold prB at h1;omega)⟩⟩,fun y hy=>⟨[],by simp [hy],by simp,fun a ha=>(by cases ha),fun e d' h1=>(by unfold prB at h1;omega)⟩⟩,by simp,fun e he=>by omega⟩ (fun c t hc ht hI=>?_) (fun t hI=>hI)) (fun t hI=>hp _ ⟨hI.1.lo,hI.1.li,hI.2.1,fun e he=>?_,fun y hy=>?_,hI.2.2⟩)
 ·obtain⟨hG,hl,hh⟩:=hI
  have hcc:isC s.Floor (c:Int)=true:=Qo.2 (by omega)
  have hhx:=List.getElem?_eq_getElem (show c<t.2.2.1.length by omega)
  refine Jn.mk (fun u:List (List ReachStep)×List (List Int)×List Bool=>GI s L (c+1) 0 u.1 u.2.1∧u.2.2.length=s.Floor.Kind.length∧∀e:Nat,e<c+1→u.2.2[e]?=some (kd s.Floor e == 3)) ?_ (fun u hu=>⟨by rw [ht],hu⟩)
  unfold QZ
  rw [ht]
  refine⟨_,Xo hcc,_,QM rfl hhx,Jn.mk (fun u:List (List ReachStep)×List (List Int)=>GI s L c 6 u.1 u.2) (Q10 6 (fun t:List (List ReachStep)×List (List Int)×Int=>t.2.2) (fun d t=>GI s L c d t.1 t.2.1) (by unfold maxLen;omega) rfl hG (fun d u hd hu hI=>?_) (fun u hI=>hI)) (fun u hu=>⟨hu.next,by show (t.2.2.1.set _ _).length=_;rw [List.length_set];exact hl,fun e he=>?_⟩)⟩
  ·rw [hu]
   refine Ga hf (Jn.mk (fun b=>b=true↔(nx s.Floor c d).2=true∧(nx s.Floor c d).1∉L) (Ite.mk (fun h1=>KZ hL ?_) (fun h1=>?_)) (fun b hb=>?_))
   ·have h1':(nx s.Floor c d).2=true:=h1
    simp [h1']
   ·have h1':(nx s.Floor c d).2=false:=h1
    simp [h1']
   ·refine Jn.mk (fun u:List (List ReachStep)×List (List Int)=>GI s L c (d+1) u.1 u.2) (Ite.mk (fun h1=>?_) (fun h1=>?_)) (fun u hu2=>⟨rfl,hu2⟩)
    ·obtain⟨g1,g2⟩:=hb.1 h1
     generalize hy:(nx s.Floor c d).1=y at g2
     have hnx:nx s.Floor c d=(y,true):=by rw [←hy,←g1]
     have hok:=Xt hf (c:=(c:Int)) (d:=(d:Int)) g1
     rw [hy] at hok
     have hty:=Qo.1 hok.2.1
     obtain⟨l,e1,⟨e2,_⟩,_⟩:=hI.out c hc
     obtain⟨m,e5,e6,_⟩:=hI.inn y.toNat (by omega)
     refine⟨l,QM rfl e1,XP ks hs ⟨by simp;omega,m,QM (n:=y.toNat) (by omega) e5,by simp;omega,?_⟩⟩
     have:=hI.add hf hc hd hnx g2 e1 e5
     show GI s L c (d+1) (u.1.set (Int.toNat (c:Int)) _) (u.2.1.set (Int.toNat y) _)
     simpa using this
    ·refine hI.skip hd (fun y hy=>Classical.byContradiction fun hno=>?_)
     have:b=true:=hb.2 (by rw [hy];exact⟨rfl,hno⟩)
     rw [this] at h1;cases h1
  ·have hn:Int.toNat (c:Int)=c:=by simp
   show (t.2.2.1.set (Int.toNat (c:Int)) _)[e]?=_
   rw [hn]
   by_cases ee:e=c
   ·subst ee
    rw [List.getElem?_set_self (by omega)]
   ·rw [List.getElem?_set_ne (Ne.symm ee)];exact hh e (by omega)
 ·obtain⟨l,e1,⟨e2,_⟩,e5⟩:=hI.1.out e he
  refine⟨l,e1,e2,fun x=>?_⟩
  rw [e5]
  exact⟨fun ⟨d',h1,h2⟩=>⟨d',by unfold prB at h1;omega,h2⟩,fun ⟨d',h1,h2⟩=>⟨d',by unfold prB;omega,h2⟩⟩
 ·obtain⟨l,e1,e2,e3,e4⟩:=hI.1.inn y hy
  exact⟨l,e1,by omega,e3,fun e d' h1 h2 h3=>e4 e d' (by unfold prB;omega) h3⟩
end
end Go.Taq
/- The mathematics, part GD: the fuel of a site's cells is right (chapter 33). -/
set_option linter.unusedVariables false
set_option linter.unusedSimpArgs false
namespace Go.Taq
open Go
theorem Q0R {α:Type} (w:α→Nat) {K:Nat}:∀{l:List α},(∀x,x∈l→w x≤K)→(l.map w).sum≤l.length*K
 | [],_=>by simp
 | a :: l,h=>by
  have h1:=h a (by simp)
  have h2:=Q0R w (l:=l) (fun x hx=>h x (by simp [hx]))
  rw [List.map_cons,List.sum_cons,List.length_cons,Nat.add_mul];omega
section
variable {g:ReachGraph} {n:Nat} {P K b:Int} {may:Nat→Prop} {f0 f q:List Int}
theorem Q2Z (hg:GOk n P g) (hK:0≤K∧K≤20000000) (hl:f.length=n) (ht:∀c,c<n→fu f c≤K+P*n):2*WF (K+P*n).toNat f+n≤100000000000:=by
 have hb:=Q14 hg hK
 have h1:WF (K+P*n).toNat f≤f.length*((K+P*n).toNat+1):=Q0R _ (fun x hx=>by
  obtain⟨i,hi⟩:=List.getElem?_of_mem hx
  have hil:=(List.getElem?_eq_some_iff.1 hi).1
  have:=ht i (by omega)
  rw [WH hil] at hi
  have e:=Option.some.inj hi
  rw [e] at this
  unfold wtF;split <;> omega)
 have h2:=hg.n4
 have h3:f.length*((K+P*n).toNat+1)≤1000*30000001:=Nat.mul_le_mul (by omega) (by omega)
 omega
theorem SInv.least (hg:GOk n P g) (h:SInv g b n P K may f0 f []) (hk:∀c,c<n→¬may c→g.home[c]?=some false→∀m,Wg g b c m→0≤fu f0 c∧fu f0 c≤m):FOk g b n f where
 len:=h.len
 lo:=h.lo
 sound:=h.sound
 least:=fun c hc m hm=>by
  induction hm with
  | home hh=>rw [h.home _ hc hh];omega
  | step hh hl hx hb hm ih=>
   rename_i c l x m
   obtain⟨⟨t0,t1⟩,p1,p2⟩:=hg.to_ c l x hl hx
   have h1:=ih (by omega)
   by_cases hmay:may c
   ·have h2:=h.relax c l x hmay hh hl hx hb h1.1 (by simp)
    omega
   ·rw [h.keep c hc hmay]
    exact hk c hc hmay hh _ (.step hh hl hx hb hm)
theorem Zj (hg:GOk n P g) {post:List Int→Prop} (hp:∀f,FOk g (-1) n f→(∀c,c<n→fu f c≤P*n)→post f):K7 g post:=by
 have hlh:=hg.lh
 have hn4:=hg.n4
 have hp0:=hg.p0
 unfold K7
 refine⟨by omega,?_⟩
 have e0:(List.replicate (Int.toNat (g.home.length:Int)) (0:Int)).length=n:=by simp [hlh]
 refine Jn.mk (fun t:List Int×List Int=>t.1.length=n∧(∀c,c<n→∃h,g.home[c]?=some h∧fu t.1 c=(if h=true then 0 else -1)∧(h=true→(c:Int)∈t.2))∧(∀x,x∈t.2→0≤x∧x<n)∧t.2.length≤n)
  (Yk (xs:=g.home) (by unfold maxLen;omega) (fun t:List Int×List Int×Int=>t.2.2) (fun i t=>t.1.length=n∧(∀c,c<i→∃h,g.home[c]?=some h∧fu t.1 c=(if h=true then 0 else -1)∧(h=true→(c:Int)∈t.2.1))∧(∀x,x∈t.2.1→0≤x∧x<n)∧t.2.1.length≤i) rfl ⟨e0,fun c hc=>(by omega),fun x hx=>(by cases hx),by simp⟩ (fun i h t hx ht hI=>?_) (fun t hI=>by rw [hlh] at hI;exact hI)) (fun t ht=>?_)
 ·obtain⟨i1,i2,i3,i4⟩:=hI
  have hi:=(List.getElem?_eq_some_iff.1 hx).1
  have hin:i<n:=by omega
  rw [ht]
  have hn:Int.toNat (i:Int)=i:=by simp
  refine⟨_,G6 (by omega),Jn.mk (fun u:List Int×List Int=>u.1.length=n∧(∀c,c<i+1→∃h,g.home[c]?=some h∧fu u.1 c=(if h=true then 0 else -1)∧(h=true→(c:Int)∈u.2))∧(∀x,x∈u.2→0≤x∧x<n)∧u.2.length≤i+1) (Ite.mk (fun hh=>⟨by simp;omega,?_⟩) (fun hh=>?_)) (fun u hu=>⟨rfl,hu⟩)⟩
  ·rw [hn,List.set_set]
   have hset:∀d,fu (t.1.set i 0) d=if d=i then 0 else fu t.1 d:=fun d=>Wj (by omega)
   refine⟨by rw [List.length_set];exact i1,fun c hc=>?_,fun x hx=>?_,by simp;omega⟩
   ·by_cases e:c=i
    ·subst e
     exact⟨h,hx,by show fu (t.1.set c 0) c=_;rw [hset,if_pos rfl,if_pos hh],fun _=>by simp⟩
    ·obtain⟨h',a1,a2,a3⟩:=i2 c (by omega)
     exact⟨h',a1,by show fu (t.1.set i 0) c=_;rw [hset,if_neg e];exact a2,fun hb=>List.mem_append_left _ (a3 hb)⟩
   ·rcases List.mem_append.1 hx with hx | hx
    ·exact i3 x hx
    ·simp at hx;subst hx;omega
  ·rw [hn]
   have hset:∀d,fu (t.1.set i (-1)) d=if d=i then -1 else fu t.1 d:=fun d=>Wj (by omega)
   refine⟨by rw [List.length_set];exact i1,fun c hc=>?_,i3,by show t.2.1.length≤_;omega⟩
   by_cases e:c=i
   ·subst e
    exact⟨h,hx,by show fu (t.1.set c (-1)) c=_;rw [hset,if_pos rfl,if_neg (by rw [hh];simp)],fun hb=>by rw [hh] at hb;cases hb⟩
   ·obtain⟨h',a1,a2,a3⟩:=i2 c (by omega)
    exact⟨h',a1,by show fu (t.1.set i (-1)) c=_;rw [hset,if_neg e];exact a2,a3⟩
 ·obtain⟨t1,t2,t3,t4⟩:=ht
  have hnnP:0≤P*(nn t.1:Int):=Int.mul_nonneg (by omega) (by omega)
  have hS:SInv g (-1) n P 0 (fun _=>True) t.1 t.1 t.2:=by
   refine⟨t1,fun c hc=>?_,fun c hc=>?_,fun c hc h0=>?_,fun c hc hh=>?_,fun c l x _ hh hl hx hxb hx0 hxq=>?_,t3,fun c hc h=>absurd trivial h⟩
   ·obtain⟨h,a1,a2,_⟩:=t2 c hc
    rw [a2];split <;> omega
   ·obtain⟨h,a1,a2,_⟩:=t2 c hc
    rw [a2];split <;> omega
   ·obtain⟨h,a1,a2,_⟩:=t2 c hc
    rw [a2] at h0 ⊢
    by_cases hb:h=true
    ·rw [if_pos hb];rw [hb] at a1;exact .home a1
    ·rw [if_neg hb] at h0;omega
   ·obtain⟨h,a1,a2,_⟩:=t2 c hc
    rw [hh] at a1
    have:=Option.some.inj a1
    rw [a2,←this,if_pos rfl]
   ·exfalso
    obtain⟨⟨s0,s1⟩,_⟩:=hg.to_ c l x hl hx
    obtain⟨h,a1,a2,a3⟩:=t2 x.to_.toNat (by omega)
    rw [a2] at hx0
    by_cases hb:h=true
    ·have:=a3 hb
     rw [show ((x.to_.toNat:Nat):Int)=x.to_ by omega] at this
     exact hxq this
    ·rw [if_neg hb] at hx0;omega
  have hwf:=Q2Z (K:=0) hg (by omega) t1 (fun c hc=>hS.top hg hc)
  unfold Q9
  haveI:DecidablePred (fun _:Nat=>True):=fun _=>.isTrue trivial
  refine Q1i (may:=fun _=>True) (f0:=t.1) (K:=0) hg (by omega) (M:=QP) (fun c q hc hq=>?_) hS (by omega) (fun f' hf'=>hp f' (hf'.least hg (fun c hc h=>absurd trivial h)) (fun c hc=>by have:=hf'.top hg hc;omega))
  unfold QP
  simpa using hq
end
/-! ## walks on the site -/
inductive WL (s:ApiSite) (L:List Int):Nat→Nat→Prop where
 | home {c:Nat} (hc:c<s.Floor.Kind.length) (h:kd s.Floor c=3):WL s L c 0
 | step {c d y m:Nat} (hc:c<s.Floor.Kind.length) (h:kd s.Floor c≠3) (hd:d<6) (hn:nx s.Floor c d=((y:Int),true)) (hL:(y:Int)∉L) (hm:WL s L y m):WL s L c (m+(prS s d y).toNat)
theorem WL.congr {s:ApiSite} {L L':List Int} (h:∀y:Nat,(y:Int)∈L'→(y:Int)∈L) {c m:Nat} (hw:WL s L c m):WL s L' c m:=by
 induction hw with
 | home hc hh=>exact .home hc hh
 | step hc hh hd hn hL hm ih=>exact .step hc hh hd hn (fun hm=>hL (h _ hm)) ih
theorem WL.lt {s:ApiSite} {L:List Int} {c m:Nat} (h:WL s L c m):c<s.Floor.Kind.length:=by
 cases h with
 | home h=>exact h
 | step h=>exact h
theorem Q2J {s:ApiSite} {L:List Int} {g:ReachGraph} {b:Int} (hf:RF s.Floor) (h:GrS s L g) {c m:Nat}:Wg g b c m↔WL s (b :: L) c m:=by
 constructor
 ·intro hw
  induction hw with
  | home hh=>
   rename_i c
   have hc:c<s.Floor.Kind.length:=by rw [←h.lh];exact (List.getElem?_eq_some_iff.1 hh).1
   rw [h.home c hc] at hh
   exact .home hc (by simpa using Option.some.inj hh)
  | step hh hl hx hb hm ih=>
   rename_i c l x m
   have hc:c<s.Floor.Kind.length:=by rw [←h.lh];exact (List.getElem?_eq_some_iff.1 hh).1
   rw [h.home c hc] at hh
   obtain⟨l',e1,_,e3⟩:=h.out c hc
   rw [hl] at e1;cases e1
   obtain⟨d,d6,hnx,hL,hp⟩:=(e3 x).1 hx
   have hok:=Xt hf (c:=(c:Int)) (d:=(d:Int)) (by rw [hnx])
   rw [hnx] at hok
   have ht:=Qo.1 hok.2.1
   have e:((x.to_.toNat:Nat):Int)=x.to_:=by omega
   rw [hp]
   have:=WL.step (s:=s) (L:=b :: L) hc (by simpa using Option.some.inj hh) d6 (by rw [e];exact hnx) (by rw [e];simp;exact⟨hb,hL⟩) ih
   rw [e] at this;exact this
 ·intro hw
  induction hw with
  | home hc hh=>exact .home (by rw [h.home _ hc,hh];rfl)
  | step hc hh hd hn hL hm ih=>
   rename_i c d y m
   obtain⟨l,e1,_,e3⟩:=h.out c hc
   have hx:=(e3 {to_:=(y:Int),price:=prS s d y}).2 ⟨d,hd,hn,fun hm=>hL (List.mem_cons_of_mem _ hm),rfl⟩
   have e:((y:Int)).toNat=y:=by simp
   exact Wg.step (x:={to_:=(y:Int),price:=prS s d y}) (by rw [h.home _ hc];simp [hh]) e1 hx (fun e=>hL (by rw [←e];exact List.mem_cons_self ..)) (by show Wg g b ((y:Int)).toNat m;rw [e];exact ih)
structure FuL (s:ApiSite) (L:List Int) (f:List Int):Prop where
 len:f.length=s.Floor.Kind.length
 lo:∀c,c<s.Floor.Kind.length→-1≤fu f c
 sound:∀c,c<s.Floor.Kind.length→0≤fu f c→WL s L c (fu f c).toNat
 least:∀c m,WL s L c m→0≤fu f c∧fu f c≤m
theorem FuL.of {s:ApiSite} {L L':List Int} {g:ReachGraph} {b:Int} {f:List Int} (hf:RF s.Floor) (h:GrS s L g) (hF:FOk g b s.Floor.Kind.length f) (hL:∀y:Nat,(y:Int)∈b :: L↔(y:Int)∈L'):FuL s L' f where
 len:=hF.len
 lo:=hF.lo
 sound:=fun c hc h0=>((Q2J hf h).1 (hF.sound c hc h0)).congr (fun y hy=>(hL y).2 hy)
 least:=fun c m hm=>hF.least c hm.lt m ((Q2J hf h).2 (hm.congr (fun y hy=>(hL y).1 hy)))
theorem FuL.uniq {s:ApiSite} {L L' f f':List Int} (h:FuL s L f) (h':FuL s L' f') (hL:∀y:Nat,(y:Int)∈L↔(y:Int)∈L'):f=f':=by
 refine List.ext_getElem? fun i=>?_
 by_cases hi:i<s.Floor.Kind.length
 ·rw [WH (by rw [h.len];exact hi),WH (by rw [h'.len];exact hi)]
  have l1:=h.lo i hi;have l2:=h'.lo i hi
  by_cases h0:0≤fu f i
  ·have g1:=h'.least i _ ((h.sound i hi h0).congr (fun y hy=>(hL y).2 hy))
   have g2:=h.least i _ ((h'.sound i hi g1.1).congr (fun y hy=>(hL y).1 hy))
   congr 1;omega
  ·by_cases h1:0≤fu f' i
   ·have g2:=h.least i _ ((h'.sound i hi h1).congr (fun y hy=>(hL y).1 hy))
    omega
   ·congr 1;omega
 ·rw [List.getElem?_eq_none (by rw [h.len];omega),List.getElem?_eq_none (by rw [h'.len];omega)]
theorem Zy {s:ApiSite} {L:List Int} (ks:OkApiSite s) (hf:RF s.Floor) (hs:RS s) (hn:s.Floor.Kind.length≤1000) (hL:L.length≤maxLen) {post:List Int→Prop} (hp:∀f,FuL s L f→post f):X6 s L post:=by
 unfold X6
 exact WP ks hf hs hn hL (fun g hg=>Zj (hg.ok hf hs hn) (fun f hF _=>hp f (.of hf hg hF (fun y=>by simp))))
end Go.Taq
/- The mathematics, part Z: distances by breadth first search (floor.spread). -/
set_option linter.unusedVariables false
namespace Go.Taq
open Go
def gI (l:List Int) (c:Int):Int:=l.getD c.toNat (-1)
def gB (l:List Bool) (c:Int):Bool:=l.getD c.toNat false
theorem Yl {l:List Int} {c c' v:Int} (h0:0≤c) (h1:c<l.length) (h2:0≤c'):gI (l.set c.toNat v) c'=if c=c' then v else gI l c':=by
 unfold gI
 rw [List.getD_eq_getElem?_getD,List.getD_eq_getElem?_getD,List.getElem?_set]
 by_cases e:c=c'
 ·subst e;rw [if_pos rfl,if_pos (by omega),if_pos rfl];rfl
 ·rw [if_neg (by omega),if_neg e]
theorem Q27 {l:List Bool} {c c':Int} {v:Bool} (h0:0≤c) (h1:c<l.length) (h2:0≤c'):gB (l.set c.toNat v) c'=if c=c' then v else gB l c':=by
 unfold gB
 rw [List.getD_eq_getElem?_getD,List.getD_eq_getElem?_getD,List.getElem?_set]
 by_cases e:c=c'
 ·subst e;rw [if_pos rfl,if_pos (by omega),if_pos rfl];rfl
 ·rw [if_neg (by omega),if_neg e]
theorem Zs:∀{l:List Bool} {i:Nat},l[i]?=some true→(l.set i false).count true+1=l.count true
 | [],i,h=>by simp at h
 | b :: l,0,h=>by simp at h;subst h;simp
 | b :: l,i+1,h=>by
  have ih:=Zs (l:=l) (i:=i) (by simpa using h)
  simp only [List.set_cons_succ,List.count_cons]
  omega
theorem Q1n {l:List Bool} {c:Int} (h0:0≤c) (h1:c<l.length) (h:gB l c=true):(l.set c.toNat false).count true+1=l.count true:=by
 refine Zs ?_
 unfold gB at h
 rw [List.getD_eq_getElem?_getD,List.getElem?_eq_getElem (by omega)] at h
 rw [List.getElem?_eq_getElem (by omega)]
 simpa using h
def okc (f:ApiFloor) (l:List Int) (c:Int):Prop:=isC f c=true∧kd f c≠0∧c∉l
def Pth (f:ApiFloor) (mv:Int→Int→Int×Bool) (src l:List Int):Nat→Int→Prop
 | 0,c=>c∈src∧okc f l c
 | k+1,c=>∃p d,Pth f mv src l k p∧0≤d∧d<6∧mv p d=(c,true)∧okc f l c
theorem Pth.ok {f:ApiFloor} {mv:Int→Int→Int×Bool} {src l:List Int}:∀{k:Nat} {c:Int},Pth f mv src l k c→okc f l c
 | 0,c,h=>h.2
 | k+1,c,⟨_,_,_,_,_,_,h⟩=>h
structure Bfs (f:ApiFloor) (mv:Int→Int→Int×Bool) (src l:List Int) (out queue:List Int) (opn:List Bool) (K:Nat):Prop where
 ol:out.length=f.Kind.length
 pl:opn.length=f.Kind.length
 op:∀c,isC f c=true→(gB opn c=true↔okc f l c∧gI out c=-1)
 pt:∀c,isC f c=true→gI out c=-1∨∃k:Nat,gI out c=k∧Pth f mv src l k c∧k+1≤K
 qu:∀q,q∈queue→isC f q=true∧0≤gI out q
 le:∀c q,isC f c=true→q∈queue→gI out c≤gI out q+1
 so:queue.Pairwise (fun p q=>gI out p≤gI out q)
 ct:K+opn.count true≤f.Kind.length
section
variable {f:ApiFloor} {mv:Int→Int→Int×Bool} {src l out queue:List Int} {opn:List Bool} {K:Nat}
theorem Bfs.put (hb:Bfs f mv src l out queue opn K) {c:Int} {k:Nat} (hc:gB opn c=true) (hcc:isC f c=true) (hP:okc f l c→Pth f mv src l k c) (hk:k≤K) (hle:∀q,q∈queue→gI out q≤k∧(k:Int)≤gI out q+1) (hall:∀q,isC f q=true→gI out q≤k+1):
  Bfs f mv src l (out.set c.toNat k) (queue++[c]) (opn.set c.toNat false) (K+1):=by
 have hc':=Qo.1 hcc
 have c0:=hc'.1
 have c1:c<out.length:=by rw [hb.ol];exact hc'.2
 have c2:c<opn.length:=by rw [hb.pl];exact hc'.2
 obtain⟨ho,hn1⟩:=(hb.op c hcc).1 hc
 have gq:∀q,q∈queue→gI (out.set c.toNat k) q=gI out q:=fun q hq=>by
  obtain⟨q1,q2⟩:=hb.qu q hq
  rw [Yl c0 c1 (Qo.1 q1).1,if_neg]
  rintro rfl;omega
 refine⟨by simp [hb.ol],by simp [hb.pl],fun q hq=>?_,fun q hq=>?_,fun q hq=>?_,fun q r hq hr=>?_,?_,?_⟩
 ·have q0:=(Qo.1 hq).1
  rw [Q27 c0 c2 q0,Yl c0 c1 q0]
  by_cases e:c=q
  ·rw [if_pos e,if_pos e];constructor
   ·intro h;cases h
   ·rintro⟨_,h⟩;omega
  ·rw [if_neg e,if_neg e];exact hb.op q hq
 ·have q0:=(Qo.1 hq).1
  rw [Yl c0 c1 q0]
  by_cases e:c=q
  ·subst e;rw [if_pos rfl];exact .inr ⟨k,rfl,hP ho,by omega⟩
  ·rw [if_neg e]
   rcases hb.pt q hq with h | ⟨j,h1,h2,h3⟩
   ·exact .inl h
   ·exact .inr ⟨j,h1,h2,by omega⟩
 ·rcases List.mem_append.1 hq with hq | hq
  ·rw [gq q hq];exact hb.qu q hq
  ·simp at hq;subst hq
   rw [Yl c0 c1 c0,if_pos rfl];exact⟨hcc,by omega⟩
 ·have q0:=(Qo.1 hq).1
  rw [Yl c0 c1 q0]
  rcases List.mem_append.1 hr with hr | hr
  ·rw [gq r hr]
   split
   ·exact (hle r hr).2
   ·exact hb.le q r hq hr
  ·simp at hr;subst hr
   rw [Yl c0 c1 c0,if_pos rfl]
   split
   ·omega
   ·exact hall q hq
 ·rw [List.pairwise_append]
  refine⟨?_,by simp,fun a ha b hb'=>?_⟩
  ·refine hb.so.imp_of_mem (fun {a b} ha hb' h=>?_)
   rw [gq a ha,gq b hb'];exact h
  ·simp at hb';subst hb'
   rw [gq a ha,Yl c0 c1 c0,if_pos rfl];exact (hle a ha).1
 ·have:=Q1n c0 c2 hc
  have:=hb.ct
  omega
end
end Go.Taq
