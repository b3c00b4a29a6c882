/- The mathematics, several parts in one text. -/
import Derived.Test.YtdcfcldpjfepiaaGreatBE
import Derived.Test.YtdcfcldpjfepiaaGreatBA
/- The mathematics, part BF: Check; the examples of chapter 21; BankGrows. -/
set_option linter.unusedVariables false
set_option linter.unusedSimpArgs false
namespace Go.Taq
open Go
section
variable {st:ApiState}
def badI (st:ApiState) (o:List Int) (i:Nat):Prop:=¬(Q3Q st (o.getD i 0)=true∧o.getD i 0∉o.take i)
def Q1N (st:ApiState) (o:List Int) (i:Nat):Prop:=(o.take i).Nodup∧(∀x,x∈o.take i→Q3Q st x=true)∧∀j,j<i→¬badI st o j
theorem Q1N.zero {o:List Int}:Q1N st o 0:=⟨by simp,fun x hx=>by simp at hx,fun j hj=>by omega⟩
theorem Q1N.all {o:List Int} (h:Q1N st o o.length):o.Nodup∧∀x,x∈o→Q3Q st x=true:=by
 have h1:=h.1;have h2:=h.2.1
 rw [List.take_length] at h1 h2
 exact⟨h1,h2⟩
theorem Q1N.step {o:List Int} {i:Nat} (h:Q1N st o i) {x:Int} (hx:o[i]?=some x) (hb:false=(!Q3Q st x||(o.take i).contains x)):Q1N st o (i+1):=by
 have hb':=hb.symm
 simp at hb'
 obtain⟨hI1,hI2,hI3⟩:=h
 refine⟨?_,?_,fun j hj=>?_⟩
 ·rw [QU hx]
  refine List.nodup_append.2 ⟨hI1,by simp,fun a ha b hb2=>?_⟩
  simp at hb2;subst hb2
  intro e;subst e
  exact hb'.2 ha
 ·rw [QU hx]
  intro y hy
  rcases List.mem_append.1 hy with h | h
  ·exact hI2 y h
  ·simp at h;subst h;exact hb'.1
 ·by_cases e:j=i
  ·subst e
   exact fun hn=>hn (by rw [show o.getD j 0=x from Q1n hx];exact hb')
  ·exact hI3 j (by omega)
end
end Go.Taq
/- The mathematics, part BG: BankFinds. -/
set_option linter.unusedVariables false
set_option linter.unusedSimpArgs false
namespace Go.Taq
open Go
section
end
end Go.Taq
/- The mathematics, part GA: moves with prices, walks to a charger, the least fuel (chapter 33). -/
set_option linter.unusedVariables false
set_option linter.unusedSimpArgs false
namespace Go.Taq
open Go
def fu (f:List Int) (c:Nat):Int:=f.getD c (-1)
theorem Yr {f:List Int} {c:Nat} (h:c<f.length):idx f (c:Int)=some (fu f c):=by
 have hx:=List.getElem?_eq_getElem h
 rw [QG rfl hx];unfold fu;rw [List.getD_eq_getElem?_getD,hx];rfl
theorem Q0v {f:List Int} {c:Nat} (h:c<f.length):f[c]?=some (fu f c):=by
 have hx:=List.getElem?_eq_getElem h
 rw [hx];unfold fu;rw [List.getD_eq_getElem?_getD,hx];rfl
theorem YU {f:List Int} {c d:Nat} {v:Int} (h:c<f.length):fu (f.set c v) d=if d=c then v else fu f d:=by
 unfold fu
 rw [List.getD_eq_getElem?_getD,List.getElem?_set,List.getD_eq_getElem?_getD]
 by_cases e:c=d
 ·subst e;simp [h]
 ·rw [if_neg e,if_neg (fun h=>e h.symm)]
structure GOk (n:Nat) (P:Int) (g:ReachGraph):Prop where
 n4:n≤1000
 p0:1≤P∧P≤10000
 lo:g.out.length=n
 li:g.in_.length=n
 lh:g.home.length=n
 to_:∀(c:Nat) l x,g.out[c]?=some l→x∈l→(0≤x.to_∧x.to_<n)∧1≤x.price∧x.price≤P
 inn:∀(y:Nat) l (c:Int),g.in_[y]?=some l→c∈l→0≤c∧c<n
 all:∀(c:Nat) l x,g.out[c]?=some l→x∈l→∀m,g.in_[x.to_.toNat]?=some m→(c:Int)∈m
 lol:∀(c:Nat) l,g.out[c]?=some l→l.length≤6
 lil:∀(y:Nat) l,g.in_[y]?=some l→l.length≤30000
inductive Wg (g:ReachGraph) (b:Int):Nat→Nat→Prop where
 | home {c:Nat} (h:g.home[c]?=some true):Wg g b c 0
 | step {c:Nat} {l:List ReachStep} {x:ReachStep} {m:Nat} (h:g.home[c]?=some false) (hl:g.out[c]?=some l) (hx:x∈l) (hb:x.to_≠b) (hm:Wg g b x.to_.toNat m):Wg g b c (m+x.price.toNat)
structure FOk (g:ReachGraph) (b:Int) (n:Nat) (f:List Int):Prop where
 len:f.length=n
 lo:∀c,c<n→-1≤fu f c
 sound:∀c,c<n→0≤fu f c→Wg g b c (fu f c).toNat
 least:∀c,c<n→∀m,Wg g b c m→0≤fu f c∧fu f c≤m
theorem FOk.uniq {g:ReachGraph} {b:Int} {n:Nat} {f f':List Int} (h:FOk g b n f) (h':FOk g b n f') {c:Nat} (hc:c<n):fu f c=fu f' c:=by
 have l1:=h.lo c hc;have l2:=h'.lo c hc
 by_cases h0:0≤fu f c
 ·have g1:=h'.least c hc _ (h.sound c hc h0)
  have g2:=h.least c hc _ (h'.sound c hc g1.1)
  omega
 ·by_cases h1:0≤fu f' c
  ·have g2:=h.least c hc _ (h'.sound c hc h1)
   omega
  ·omega
theorem Wg.lt {g:ReachGraph} {b:Int} {c m:Nat} (h:Wg g b c m):c<g.home.length:=by
 cases h with
 | home h=>exact (List.getElem?_eq_some_iff.1 h).1
 | step h=>exact (List.getElem?_eq_some_iff.1 h).1
structure Best (f:List Int) (l:List ReachStep) (b:Int) (r:Int×Int):Prop where
 is:r=(-1,-1)∨∃x,x∈l∧x.to_≠b∧0≤fu f x.to_.toNat∧r=(fu f x.to_.toNat+x.price,x.to_)
 le:∀x,x∈l→x.to_≠b→0≤fu f x.to_.toNat→0≤r.1∧r.1≤fu f x.to_.toNat+x.price
section
variable {g:ReachGraph} {n:Nat} {P:Int}
theorem WS (h:GOk n P g) {f:List Int} (hl:f.length=n) (hb:∀c,c<n→fu f c≤5000000000) {c:Nat} (hc:c<n) {but:Int} {post:Int×Int→Prop} (hp:∀l r,g.out[c]?=some l→Best f l but r→post r):QP g f (c:Int) but post:=by
 have hx:=List.getElem?_eq_getElem (show c<g.out.length by rw [h.lo];exact hc)
 generalize hlv:g.out[c]'_=l at hx
 have hll:=h.lol c l hx
 have p0:=h.p0
 unfold QP
 refine⟨l,QG rfl hx,Jn.mk (fun r=>Best f l but r) (Kq (xs:=l) (by unfold maxLen;omega) (fun t:Int×Int×Int=>t.2.2) (fun i t=>Best f (l.take i) but (t.1,t.2.1)) rfl ⟨.inl rfl,fun x hx=>by simp at hx⟩ (fun i x t hxi ht hI=>?_) (fun t hI=>by rw [List.take_length] at hI;exact hI)) (fun r hr=>hp l r hx hr)⟩
 obtain⟨⟨t0,t1⟩,hp1,hp2⟩:=h.to_ c l x hx (List.mem_of_getElem? hxi)
 obtain⟨k,hk⟩:=Int.eq_ofNat_of_zero_le t0
 have hkn:k<n:=by omega
 have hfk:=Yr (f:=f) (c:=k) (by omega)
 have hkt:x.to_.toNat=k:=by omega
 have hbk:=hb k hkn
 obtain⟨hI1,hI2⟩:=hI
 refine⟨fu f k,by rw [hk];exact hfk,?_⟩
 have hw:0≤fu f k→w64 (fu f k+x.price)=fu f k+x.price:=fun h0=>QH (by omega) (by omega)
 refine Jn.mk (fun b=>b=true↔(x.to_≠but∧0≤fu f k∧(t.1<0∨fu f k+x.price<t.1))) (Ite.mk (fun h1=>Ite.mk (fun h2=>Ite.mk (fun h3=>?_) (fun h3=>?_)) (fun h2=>?_)) (fun h1=>?_)) (fun b hbb=>?_)
 ·have h1':x.to_≠but:=by simpa using h1
  have h2':=of_decide_eq_true h2
  have h3':=of_decide_eq_true h3
  exact⟨fun _=>⟨h1',h2',.inl h3'⟩,fun _=>rfl⟩
 ·have h1':x.to_≠but:=by simpa using h1
  have h2':0≤fu f k:=of_decide_eq_true h2
  have h3':¬t.1<0:=of_decide_eq_false h3
  show decide (w64 (fu f k+x.price)<t.1)=true↔_
  rw [hw h2',decide_eq_true_iff]
  exact⟨fun h=>⟨h1',h2',.inr h⟩,fun h=>h.2.2.resolve_left h3'⟩
 ·have h2':¬0≤fu f k:=of_decide_eq_false h2
  exact⟨fun h=>(by cases h),fun h=>absurd h.2.1 h2'⟩
 ·have h1':x.to_=but:=by simpa using h1
  exact⟨fun h=>(by cases h),fun h=>absurd h1' h.1⟩
 refine Jn.mk (fun r=>Best f (l.take (i+1)) but r) (Ite.mk (fun h1=>?_) (fun h1=>?_)) (fun r hr=>⟨by rw [ht],hr⟩)
 ·obtain⟨g1,g2,g3⟩:=hbb.1 h1
  rw [hw g2]
  refine⟨.inr ⟨x,by rw [QU hxi];simp,g1,by rw [hkt];exact g2,by rw [hkt]⟩,fun y hy hyb hy0=>?_⟩
  rw [QU hxi] at hy
  rcases List.mem_append.1 hy with hy | hy
  ·have:=hI2 y hy hyb hy0
   refine⟨by show 0≤fu f k+x.price;omega,?_⟩
   show fu f k+x.price≤_
   have:0≤t.1∧t.1≤fu f y.to_.toNat+y.price:=this
   omega
  ·simp at hy;subst hy
   rw [hkt];exact⟨by show 0≤fu f k+y.price;omega,Int.le_refl _⟩
 ·have hno:¬(x.to_≠but∧0≤fu f k∧(t.1<0∨fu f k+x.price<t.1)):=fun h=>by rw [hbb.2 h] at h1;cases h1
  refine⟨?_,fun y hy hyb hy0=>?_⟩
  ·rcases hI1 with e | ⟨y,hy,e⟩
   ·exact .inl e
   ·exact .inr ⟨y,by rw [QU hxi];exact List.mem_append_left _ hy,e⟩
  ·rw [QU hxi] at hy
   rcases List.mem_append.1 hy with hy | hy
   ·exact hI2 y hy hyb hy0
   ·simp at hy;subst hy
    rw [hkt] at hy0 ⊢
    show 0≤t.1∧t.1≤_
    omega
end
/-! ## sums and counts over a table -/
theorem Q0Z {α:Type} (w:α→Nat):∀{l:List α} {i:Nat} {x y:α},l[i]?=some x→((l.set i y).map w).sum+w x=(l.map w).sum+w y
 | a :: l,0,x,y,h=>by simp at h;subst h;simp;omega
 | a :: l,i+1,x,y,h=>by
  simp at h
  have:=Q0Z w (y:=y) h
  simp only [List.set_cons_succ,List.map_cons,List.sum_cons];omega
theorem Q2Z {α:Type} (p:α→Bool) {l:List α} {i:Nat} {x y:α} (h:l[i]?=some x):(l.set i y).countP p+(if p x=true then 1 else 0)=l.countP p+(if p y=true then 1 else 0):=by
 have e:∀l:List α,l.countP p=(l.map fun a=>if p a=true then 1 else 0).sum:=fun l=>by
  induction l with
  | nil=>rfl
  | cons a l ih=>rw [List.countP_cons,ih,List.map_cons,List.sum_cons];omega
 rw [e,e];exact Q0Z _ h
end Go.Taq
/- The mathematics, part GB: settle makes the fuel of cells less as long as that is possible (chapter 33). -/
set_option linter.unusedVariables false
set_option linter.unusedSimpArgs false
namespace Go.Taq
open Go
def wtF (B:Nat) (v:Int):Nat:=if v<0 then B+1 else v.toNat
def WF (B:Nat) (f:List Int):Nat:=(f.map (wtF B)).sum
def nn (f:List Int):Nat:=f.countP fun v=>decide (0≤v)
structure SInv (g:ReachGraph) (b:Int) (n:Nat) (P K:Int) (may:Nat→Prop) (f0 f q:List Int):Prop where
 len:f.length=n
 lo:∀c,c<n→-1≤fu f c
 hi:∀c,c<n→fu f c≤K+P*nn f
 sound:∀c,c<n→0≤fu f c→Wg g b c (fu f c).toNat
 home:∀c,c<n→g.home[c]?=some true→fu f c=0
 relax:∀(c:Nat) l x,may c→g.home[c]?=some false→g.out[c]?=some l→x∈l→x.to_≠b→0≤fu f x.to_.toNat→x.to_∉q→0≤fu f c∧fu f c≤fu f x.to_.toNat+x.price
 q:∀x,x∈q→0≤x∧x<n
 keep:∀c,c<n→¬may c→fu f c=fu f0 c
section
variable {g:ReachGraph} {n:Nat} {P K b:Int} {may:Nat→Prop} {f0 f q:List Int}
theorem Q6x (h:SInv g b n P K may f0 f q):nn f≤n:=by
 have:=List.countP_le_length (p:=fun v:Int=>decide (0≤v)) (l:=f)
 unfold nn;rw [h.len] at this;exact this
theorem SInv.top (hg:GOk n P g) (h:SInv g b n P K may f0 f q) {c:Nat} (hc:c<n):fu f c≤K+P*n:=by
 have h1:=h.hi c hc
 have h2:=Q6x h
 have:P*(nn f:Int)≤P*(n:Int):=Int.mul_le_mul_of_nonneg_left (by omega) (by have:=hg.p0;omega)
 omega
theorem Q1B (hg:GOk n P g) (hK:0≤K∧K≤20000000):0≤P*(n:Int)∧P*(n:Int)≤10000000:=by
 have h1:=hg.p0;have h2:=hg.n4
 refine⟨Int.mul_nonneg (by omega) (by omega),?_⟩
 have:P*(n:Int)≤10000*1000:=Int.mul_le_mul (by omega) (by omega) (by omega) (by omega)
 omega
theorem SInv.put (hg:GOk n P g) (hK:0≤K∧K≤20000000) (h:SInv g b n P K may f0 f q) {c:Nat} {l:List ReachStep} {r:Int×Int} (hc:c<n) (hm:may c) (hh:g.home[c]?=some false) (hl:g.out[c]?=some l) (hB:Best f l b r) (h0:0≤r.1) (hlt:fu f c<0∨r.1<fu f c):
  SInv g b n P K may f0 (f.set c r.1) (q++[(c:Int)])∧WF (K+P*n).toNat (f.set c r.1)<WF (K+P*n).toNat f:=by
 have hlen:=h.len
 have hcl:c<f.length:=by omega
 have hfc:=Q0v hcl
 have hp:=hg.p0
 have hcnt:=Q2Z (fun v:Int=>decide (0≤v)) (y:=r.1) hfc
 have hset:∀d,fu (f.set c r.1) d=if d=c then r.1 else fu f d:=fun d=>YU hcl
 obtain⟨x,hx,hxb,hx0,hr⟩:∃x,x∈l∧x.to_≠b∧0≤fu f x.to_.toNat∧r=(fu f x.to_.toNat+x.price,x.to_):=by
  rcases hB.is with e | e
  ·rw [e] at h0;exact absurd h0 (by decide)
  ·exact e
 obtain⟨⟨t0,t1⟩,p1,p2⟩:=hg.to_ c l x hl hx
 have hk:x.to_.toNat<n:=by omega
 have hr1:r.1=fu f x.to_.toNat+x.price:=by rw [hr]
 have hhix:=h.hi _ hk
 -- the count
 have hnn:(nn (f.set c r.1):Int)=nn f+(if fu f c<0 then 1 else 0):=by
  unfold nn
  rw [if_pos (decide_eq_true h0)] at hcnt
  split
  ·rename_i hneg
   rw [if_neg (by simp;omega)] at hcnt;omega
  ·rename_i hneg
   rw [if_pos (by simp;omega)] at hcnt;omega
 have hmul:P*(nn (f.set c r.1):Int)=P*nn f+(if fu f c<0 then P else 0):=by
  rw [hnn,Int.mul_add];split <;> simp
 have hrhi:r.1≤K+P*nn (f.set c r.1):=by
  rw [hmul]
  split
  ·omega
  ·have:=h.hi c hc;omega
 refine⟨⟨by rw [List.length_set];exact hlen,fun d hd=>?_,fun d hd=>?_,fun d hd hd0=>?_,fun d hd hdh=>?_,fun d m y hdm hdh hdl hy hyb hy0 hyq=>?_,fun y hy=>?_,fun d hd hdm=>?_⟩,?_⟩
 ·rw [hset];split
  ·omega
  ·exact h.lo d hd
 ·rw [hset];split
  ·exact hrhi
  ·have:=h.hi d hd;rw [hmul];split <;> omega
 ·rw [hset] at hd0 ⊢
  split
  ·rename_i e
   subst e
   have hs:=h.sound _ hk hx0
   have:=Wg.step (b:=b) hh hl hx hxb hs
   have e2:r.1.toNat=(fu f x.to_.toNat).toNat+x.price.toNat:=by omega
   rw [e2];exact this
  ·rename_i e
   rw [if_neg e] at hd0
   exact h.sound d hd hd0
 ·rw [hset];split
  ·rename_i e
   subst e;rw [hh] at hdh;cases hdh
  ·exact h.home d hd hdh
 ·have hyq2:y.to_∉q:=fun hm=>hyq (List.mem_append_left _ hm)
  have hyc:y.to_≠(c:Int):=fun e=>hyq (List.mem_append_right _ (by simp [e]))
  obtain⟨⟨s0,s1⟩,_⟩:=hg.to_ d m y hdl hy
  have hyc2:y.to_.toNat≠c:=by omega
  rw [hset,if_neg hyc2] at hy0
  have ey:fu (f.set c r.1) y.to_.toNat=fu f y.to_.toNat:=by rw [hset,if_neg hyc2]
  rw [ey,hset]
  split
  ·rename_i e
   subst e
   rw [hl] at hdl;cases hdl
   have:=hB.le y hy hyb hy0
   exact this
  ·exact h.relax d m y hdm hdh hdl hy hyb hy0 hyq2
 ·rcases List.mem_append.1 hy with hy | hy
  ·exact h.q y hy
  ·simp at hy;subst hy;omega
 ·rw [hset,if_neg (by intro e;subst e;exact hdm hm)]
  exact h.keep d hd hdm
 ·have hs:=Q0Z (wtF (K+P*n).toNat) (y:=r.1) hfc
  have htop:=h.top hg hc
  have hb2:=Q1B hg hK
  have hrtop:r.1≤K+P*n:=by
   have:P*(nn (f.set c r.1):Int)≤P*(n:Int):=Int.mul_le_mul_of_nonneg_left (by
    have:=List.countP_le_length (p:=fun v:Int=>decide (0≤v)) (l:=f.set c r.1)
    rw [List.length_set,hlen] at this
    unfold nn;omega) (by omega)
   omega
  have:wtF (K+P*n).toNat r.1<wtF (K+P*n).toNat (fu f c):=by
   unfold wtF
   rw [if_neg (by omega)]
   split <;> omega
  unfold WF;omega
theorem Q2m (hg:GOk n P g) (hK:0≤K∧K≤20000000) {M:Int→(Bool→Prop)→Prop} [DecidablePred may] (hM:∀c:Nat,∀{q:Bool→Prop},c<n→q (decide (may c))→M (c:Int) q) (h:SInv g b n P K may f0 f q) (hq:2*WF (K+P*n).toNat f+q.length≤100000000000) {post:List Int→Prop} (hp:∀f',SInv g b n P K may f0 f' []→post f'):
 Jn (fun (J2:(List Int)→Prop)=>Loop (fun (s3:List Int×List Int) Y4=>Ite (decide ((s3.2.length:Int)>0)) (Jn (fun (J9:(List Int×List Int)→Prop)=>∃x12,idx s3.2 0=some x12∧∃x13,idx g.in_ x12=some x13∧Jn (fun (J15:(List Int×List Int)→Prop)=>Loop (fun (s16:List Int×List Int×Int) Y17=>Ite (decide (s16.2.2<(x13.length:Int))) (Jn (fun (J22:(List Int×List Int)→Prop)=>∃x25,idx x13 s16.2.2=some x25∧Jn (fun (J27:Bool→Prop)=>∃x28,idx g.home x25=some x28∧Ite x28 (J27 true) (M x25 (fun x30=>J27 (!x30)))) (fun (x26:Bool)=>Ite x26 (J22 (s16.1,s16.2.1)) (QP g s16.1 x25 b (fun x34=>Jn (fun (J36:Bool→Prop)=>Ite (decide (x34.1≥0)) (∃x38,idx s16.1 x25=some x38∧Ite (decide (x38<0)) (J36 true) (J36 (decide (x34.1<x38)))) (J36 false)) (fun (x35:Bool)=>Jn (fun (J41:(List Int×List Int)→Prop)=>Ite x35 (∃x45,idx s16.1 x25=some x45∧(s16.2.1.length+([x25]:List Int).length≤1099511627776)∧J41 ((s16.1.set (Int.toNat x25) x34.1),(s16.2.1++([x25]:List Int)))) (J41 (s16.1,s16.2.1))) (fun (x40:List Int×List Int)=>J22 (x40.1,x40.2))))))) (fun (x21:List Int×List Int)=>Y17 (x21.1,x21.2,w64 (s16.2.2+1)))) (J15 (s16.1,s16.2.1))) (s3.1,s3.2,0)) (fun (x14:List Int×List Int)=>J9 (x14.1,x14.2))) (fun (x8:List Int×List Int)=>(0≤(1:Int)∧(1:Int)≤(x8.2.length:Int)∧(x8.2.length:Int)≤(x8.2.length:Int))∧Y4 (x8.1,(sub x8.2 1 (x8.2.length:Int))))) (J2 s3.1)) (f,q)) (fun (x1:List Int)=>post x1):=by
 refine Jn.mk (fun f'=>SInv g b n P K may f0 f' []) (Loop.mk (fun s:List Int×List Int=>SInv g b n P K may f0 s.1 s.2∧2*WF (K+P*n).toNat s.1+s.2.length≤100000000000) (fun s=>2*WF (K+P*n).toNat s.1+s.2.length) ⟨h,hq⟩ ?_) (fun f' h=>hp f' h)
 rintro⟨f1,q1⟩ ⟨h1,hq1⟩
 simp only at h1 hq1
 match q1,h1,hq1 with
 | [],h1,hq1=>exact Ite.f (by simp) h1
 | hd :: q2,h1,hq1=>
  refine Ite.t (decide_eq_true (show (((hd :: q2).length:Nat):Int)>0 by rw [List.length_cons];omega)) ?_
  have hhd:=h1.q hd (by simp)
  obtain⟨k,hk⟩:=Int.eq_ofNat_of_zero_le hhd.1
  subst hk
  have hkn:k<n:=by omega
  have hin:=List.getElem?_eq_getElem (show k<g.in_.length by rw [hg.li];exact hkn)
  generalize hinv:g.in_[k]'_=l at hin
  have hll:=hg.lil k l hin
  refine Jn.mk (fun s:List Int×List Int=>∃r,s.2=(k:Int) :: r∧SInv g b n P K may f0 s.1 r∧2*WF (K+P*n).toNat s.1+s.2.length≤2*WF (K+P*n).toNat f1+((k:Int) :: q2).length) ⟨(k:Int),rfl,l,QG rfl hin,?_⟩ (fun s hs=>?_)
  ·refine Jn.mk (fun s:List Int×List Int=>∃r,s.2=(k:Int) :: r∧SInv g b n P K may f0 s.1 r∧2*WF (K+P*n).toNat s.1+s.2.length≤2*WF (K+P*n).toNat f1+((k:Int) :: q2).length)
    (Z8 (xs:=l) (by unfold maxLen;omega) (fun t:List Int×List Int×Int=>t.2.2) (fun i t=>∃r,t.2.1=(k:Int) :: r∧SInv g b n P K may f0 t.1 t.2.1∧2*WF (K+P*n).toNat t.1+t.2.1.length≤2*WF (K+P*n).toNat f1+((k:Int) :: q2).length ∧
     ∀(c:Nat),(c:Int)∈l.take i→may c→g.home[c]?=some false→∀m x,g.out[c]?=some m→x∈m→x.to_=k→x.to_≠b→0≤fu t.1 k→(k:Int)∉r→0≤fu t.1 c∧fu t.1 c≤fu t.1 k+x.price) rfl ⟨q2,rfl,h1,Nat.le_refl _,fun c hc=>by simp at hc⟩ (fun i x t hx ht hI=>?_) (fun t hI=>?_)) (fun s hs=>hs)
   ·obtain⟨r,hr,hS,hW,hpr⟩:=hI
    have hxm:=List.mem_of_getElem? hx
    have hxn:=hg.inn k l x hin hxm
    obtain⟨c,hc⟩:=Int.eq_ofNat_of_zero_le hxn.1
    subst hc
    have hcn:c<n:=by omega
    have hho:=List.getElem?_eq_getElem (show c<g.home.length by rw [hg.lh];exact hcn)
    generalize hhv:g.home[c]'_=ho at hho
    -- what the round leaves
    refine Jn.mk (fun s:List Int×List Int=>∃r,s.2=(k:Int) :: r∧SInv g b n P K may f0 s.1 s.2∧2*WF (K+P*n).toNat s.1+s.2.length≤2*WF (K+P*n).toNat f1+((k:Int) :: q2).length ∧
     ∀(c:Nat),(c:Int)∈l.take (i+1)→may c→g.home[c]?=some false→∀m x,g.out[c]?=some m→x∈m→x.to_=k→x.to_≠b→0≤fu s.1 k→(k:Int)∉r→0≤fu s.1 c∧fu s.1 c≤fu s.1 k+x.price) ?_ (fun s hs=>⟨by rw [ht],hs⟩)
    have stay:∀(hno:may c→g.home[c]?=some false→∀m x,g.out[c]?=some m→x∈m→x.to_=k→x.to_≠b→0≤fu t.1 k→(k:Int)∉r→0≤fu t.1 c∧fu t.1 c≤fu t.1 k+x.price),
      ∃r,t.2.1=(k:Int) :: r∧SInv g b n P K may f0 t.1 t.2.1∧2*WF (K+P*n).toNat t.1+t.2.1.length≤2*WF (K+P*n).toNat f1+((k:Int) :: q2).length ∧
     ∀(c:Nat),(c:Int)∈l.take (i+1)→may c→g.home[c]?=some false→∀m x,g.out[c]?=some m→x∈m→x.to_=k→x.to_≠b→0≤fu t.1 k→(k:Int)∉r→0≤fu t.1 c∧fu t.1 c≤fu t.1 k+x.price:=fun hno=>⟨r,hr,hS,hW,fun d hd=>by
      rw [QU hx] at hd
      rcases List.mem_append.1 hd with hd | hd
      ·exact hpr d hd
      ·simp at hd
       have:d=c:=by omega
       subst this;exact hno⟩
    refine⟨(c:Int),by rw [ht];exact QG rfl hx,Jn.mk (fun bb=>bb=(ho||!decide (may c))) ⟨ho,QG rfl hho,Ite.mk (fun e=>by rw [e];rfl) (fun e=>by rw [e];exact hM c hcn rfl)⟩ (fun bb hbb=>Ite.mk (fun e=>?_) (fun e=>?_))⟩
    ·refine stay (fun hm hh=>?_)
     rw [e] at hbb
     rw [hho] at hh
     have hh2:=Option.some.inj hh
     rw [hh2,decide_eq_true hm] at hbb
     cases hbb
    ·rw [e] at hbb
     have hbb':=hbb.symm
     simp at hbb'
     obtain⟨hof,hmc⟩:=hbb'
     rw [hof] at hho
     have htop:=fun d hd=>hS.top hg (c:=d) hd
     have htb:=Q1B hg hK
     refine WS hg hS.len (fun d hd=>by have:=htop d hd;omega) hcn (fun lo rr hlo hB=>?_)
     have hfc:=Yr (f:=t.1) (c:=c) (by rw [hS.len];exact hcn)
     refine Jn.mk (fun x=>x=true↔0≤rr.1∧(fu t.1 c<0∨rr.1<fu t.1 c)) (Ite.mk (fun e1=>⟨_,hfc,Ite.mk (fun e2=>?_) (fun e2=>?_)⟩) (fun e1=>?_)) (fun x35 h35=>?_)
     ·exact⟨fun _=>⟨of_decide_eq_true e1,.inl (of_decide_eq_true e2)⟩,fun _=>rfl⟩
     ·show decide _=true↔_
      rw [decide_eq_true_iff]
      exact⟨fun h=>⟨of_decide_eq_true e1,.inr h⟩,fun h=>h.2.resolve_left (of_decide_eq_false e2)⟩
     ·exact⟨fun h=>(by cases h),fun h=>absurd h.1 (of_decide_eq_false e1)⟩
     refine Jn.mk (fun s:List Int×List Int=>∃r,s.2=(k:Int) :: r∧SInv g b n P K may f0 s.1 s.2∧2*WF (K+P*n).toNat s.1+s.2.length≤2*WF (K+P*n).toNat f1+((k:Int) :: q2).length ∧
     ∀(c:Nat),(c:Int)∈l.take (i+1)→may c→g.home[c]?=some false→∀m x,g.out[c]?=some m→x∈m→x.to_=k→x.to_≠b→0≤fu s.1 k→(k:Int)∉r→0≤fu s.1 c∧fu s.1 c≤fu s.1 k+x.price) (Ite.mk (fun e3=>?_) (fun e3=>?_)) (fun s hs=>hs)
     ·obtain⟨g0,glt⟩:=h35.1 e3
      obtain⟨hS',hW'⟩:=hS.put hg hK hcn hmc hho hlo hB g0 glt
      have hlen1:((k:Int) :: q2).length=q2.length+1:=rfl
      refine⟨_,hfc,by simp;omega,r++[(c:Int)],by show t.2.1++[(c:Int)]=_;rw [hr];rfl,hS',?_,fun d hd hdm hdh m x hdl hxm2 hxk hxb hk0 hkr=>?_⟩
      ·show 2*WF _ (t.1.set c rr.1)+(t.2.1++[(c:Int)]).length≤_
       rw [List.length_append,List.length_singleton];omega
      ·have hkc:k≠c:=fun e=>hkr (List.mem_append_right _ (by simp [e]))
       have hkr2:(k:Int)∉r:=fun hm=>hkr (List.mem_append_left _ hm)
       have hset:∀d,fu (t.1.set c rr.1) d=if d=c then rr.1 else fu t.1 d:=fun d=>YU (by rw [hS.len];exact hcn)
       have hk0':0≤fu t.1 k:=by
        have:0≤fu (t.1.set c rr.1) k:=hk0
        rw [hset,if_neg hkc] at this;exact this
       show 0≤fu (t.1.set c rr.1) d∧fu (t.1.set c rr.1) d≤fu (t.1.set c rr.1) k+x.price
       rw [hset,hset,if_neg hkc]
       have hkt:x.to_.toNat=k:=by omega
       split
       ·rename_i e
        subst e
        rw [hlo] at hdl;cases hdl
        have:=hB.le x hxm2 hxb (by rw [hkt];exact hk0')
        rw [hkt] at this;exact this
       ·rename_i e
        rw [QU hx] at hd
        rcases List.mem_append.1 hd with hd | hd
        ·exact hpr d hd hdm hdh m x hdl hxm2 hxk hxb hk0' hkr2
        ·simp at hd;exact absurd (by omega) e
     ·refine stay (fun hdm hdh m x hdl hxm2 hxk hxb hk0 hkr=>?_)
      have hno:¬(0≤rr.1∧(fu t.1 c<0∨rr.1<fu t.1 c)):=fun hh=>by rw [h35.2 hh] at e3;cases e3
      rw [hlo] at hdl;cases hdl
      have hkt:x.to_.toNat=k:=by omega
      have:=hB.le x hxm2 hxb (by rw [hkt];exact hk0)
      rw [hkt] at this
      omega
   ·obtain⟨r,hr,hS,hW,hpr⟩:=hI
    rw [List.take_length] at hpr
    refine⟨r,hr,⟨hS.len,hS.lo,hS.hi,hS.sound,hS.home,fun c m x hm hh hlx hx hxb hx0 hxr=>?_,fun x hx=>hS.q x (by rw [hr];exact List.mem_cons_of_mem _ hx),hS.keep⟩,hW⟩
    obtain⟨⟨t0,t1⟩,_⟩:=hg.to_ c m x hlx hx
    by_cases e:x.to_=(k:Int)
    ·have hkt:x.to_.toNat=k:=by omega
     rw [hkt] at hx0 ⊢
     refine hpr c ?_ hm hh m x hlx hx e hxb hx0 (by rw [←e];exact hxr)
     exact hg.all c m x hlx hx l (by rw [hkt];exact hin)
    ·refine hS.relax c m x hm hh hlx hx hxb hx0 ?_
     rw [hr]
     intro hm2
     rcases List.mem_cons.1 hm2 with h2 | h2
     ·exact e h2
     ·exact hxr h2
  ·obtain⟨r,hr,hS,hW⟩:=hs
   have hlen1:s.2.length=r.length+1:=by rw [hr];rfl
   have hsub:sub s.2 1 (s.2.length:Int)=r:=by
    rw [hr];simp [sub]
   refine⟨by rw [hlen1];omega,⟨by show SInv g b n P K may f0 s.1 (sub s.2 1 _);rw [hsub];exact hS,?_⟩,?_⟩
   ·show 2*WF _ s.1+(sub s.2 1 (s.2.length:Int)).length≤_
    rw [hsub];omega
   ·show 2*WF _ s.1+(sub s.2 1 (s.2.length:Int)).length<2*WF _ f1+((k:Int) :: q2).length
    rw [hsub];omega
end
end Go.Taq
