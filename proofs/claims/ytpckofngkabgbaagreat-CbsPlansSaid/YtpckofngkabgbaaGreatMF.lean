/- The mathematics, several parts in one text. -/
import Derived.Test.YtpckofngkabgbaaGreatLibX
import Derived.Test.YtpckofngkabgbaaGreatVc
/- The mathematics, part A: loops, joins and tests over plain data. -/
set_option linter.unusedVariables false
namespace Go.Taq
open Go
theorem K8 {x:Int} (h1:-9223372036854775808≤x) (h2:x≤9223372036854775807):w64 x=x:=by
 simp only [w64,IntKind.wrap,IntKind.signed,IntKind.bits]
 simp
 omega
theorem Q3e {α:Type} {xs:List α} {n:Nat}:idx xs (n:Int)=xs[n]?:=by simp [idx]
theorem YG {α:Type} {xs:List α} {i:Int} (h0:0≤i) (h1:i<xs.length):idx xs i=some (xs[i.toNat]'(by omega)):=by
 simp only [idx,h0,if_true]
 exact List.getElem?_eq_getElem (by omega)
theorem Qo {α:Type} {xs:List α} {i:Int} {n:Nat} {x:α} (h:i=(n:Int)) (hx:xs[n]?=some x):idx xs i=some x:=by rw [h,Q3e];exact hx
theorem Jn.eq {σ:Type} {A:(σ→Prop)→Prop} {k:σ→Prop} (v:σ) (h:A (fun x=>x=v)) (hk:k v):Jn A k:=⟨fun x=>x=v,fun _ e=>e▸hk,h⟩
theorem Ite.t {b:Bool} {A B:Prop} (h:b=true) (k:A):Ite b A B:=by subst h;simpa using k
theorem Ite.f {b:Bool} {A B:Prop} (h:b=false) (k:B):Ite b A B:=by subst h;simpa using k
theorem Jor2 {a1 a2:Bool} {k:Bool→Prop} (h:k (a1||a2)):Jn (fun J=>Ite a1 (J true) (J a2)) k:=⟨k,fun _ h=>h,by cases a1 <;> simpa using h⟩
theorem Q23 {a1 a2:Bool} {k:Bool→Prop} (h:k (a1&&a2)):Jn (fun J=>Ite a1 (J a2) (J false)) k:=⟨k,fun _ h=>h,by cases a1 <;> simpa using h⟩
theorem Jor3 {a1 a2 a3:Bool} {k:Bool→Prop} (h:k (a1||a2||a3)):Jn (fun J=>Ite a1 (J true) (Ite a2 (J true) (J a3))) k:=⟨k,fun _ h=>h,by cases a1 <;> cases a2 <;> simpa using h⟩
theorem Q6y {a1 a2 a3:Bool} {k:Bool→Prop} (h:k (a1&&a2&&a3)):Jn (fun J=>Ite a1 (Ite a2 (J a3) (J false)) (J false)) k:=⟨k,fun _ h=>h,by cases a1 <;> cases a2 <;> simpa using h⟩
theorem Jor4 {a1 a2 a3 a4:Bool} {k:Bool→Prop} (h:k (a1||a2||a3||a4)):Jn (fun J=>Ite a1 (J true) (Ite a2 (J true) (Ite a3 (J true) (J a4)))) k:=⟨k,fun _ h=>h,by cases a1 <;> cases a2 <;> cases a3 <;> simpa using h⟩
theorem Jn.or {a:Bool} {A:(Bool→Prop)→Prop} {k:Bool→Prop} (b:Bool) (hA:a=false→A (fun x=>x=b)) (hk:k (a||b)):Jn (fun J=>Ite a (J true) (A J)) k:=
 Jn.eq (a||b) (Ite.mk (fun h=>by simp [h]) (fun h=>by simpa [h] using hA h)) hk
theorem Jn.and {a:Bool} {A:(Bool→Prop)→Prop} {k:Bool→Prop} (b:Bool) (hA:a=true→A (fun x=>x=b)) (hk:k (a&&b)):Jn (fun J=>Ite a (A J) (J false)) k:=
 Jn.eq (a&&b) (Ite.mk (fun h=>by simpa [h] using hA h) (fun h=>by simp [h])) hk
theorem Loop.up {σ:Type} {body:σ→(σ→Prop)→Prop} (n:Nat) (st:Nat→σ) {s0:σ} (h0:s0=st 0) (hs:∀i,i<n→body (st i) (fun s=>s=st (i+1))) (he:body (st n) (fun _=>False)):Loop body s0:=by
 subst h0
 intro X hX
 have key:∀k i,i+k=n→X (st i):=by
  intro k
  induction k with
  | zero=>intro i hi;have:i=n:=by omega
          subst this;exact hX _ _ he (fun _ h=>h.elim)
  | succ k ih=>intro i hi;exact hX _ _ (hs i (by omega)) (fun s' e=>e▸ih (i+1) (by omega))
 exact key n 0 (by omega)
theorem Loop.find {α:Type} (xs:List α) (p:α→Bool) {body:Int→(Int→Prop)→Prop} (hs:∀(i:Nat) x,i<xs.length→xs[i]?=some x→p x=false→body (i:Int) (fun s=>s=((i+1:Nat):Int)))
  (hh:∀(i:Nat) x,i<xs.length→xs[i]?=some x→p x=true→xs.findIdx? p=some i→body (i:Int) (fun _=>False)) (he:(∀x,x∈xs→p x=false)→xs.findIdx? p=none→body (xs.length:Int) (fun _=>False)):Loop body 0:=by
 cases hf:xs.findIdx? p with
 | none=>
  have hn:∀x,x∈xs→p x=false:=by simpa [List.findIdx?_eq_none_iff] using hf
  refine Loop.up xs.length (fun i=>(i:Int)) rfl (fun i hi=>?_) (he hn hf)
  exact hs i _ hi (List.getElem?_eq_getElem hi) (hn _ (List.getElem_mem hi))
 | some m=>
  obtain⟨hm,hp,hlt⟩:=List.findIdx?_eq_some_iff_getElem.1 hf
  refine Loop.up m (fun i=>(i:Int)) rfl (fun i hi=>?_) ?_
  ·have:=hlt i hi
   exact hs i _ (by omega) (List.getElem?_eq_getElem (by omega)) (by simpa using this)
  ·exact hh m _ hm (List.getElem?_eq_getElem hm) hp hf
def fidx {α:Type} (p:α→Bool) (xs:List α):Int:=match xs.findIdx? p with | some i=>i | none=>-1
theorem Yl {α:Type} {p:α→Bool} {xs:List α}:decide (fidx p xs≥0)=xs.any p:=by
 unfold fidx
 cases hf:xs.findIdx? p with
 | none=>
  have hn:∀x,x∈xs→p x=false:=by simpa [List.findIdx?_eq_none_iff] using hf
  have:xs.any p=false:=by rw [List.any_eq_false];intro x hx;simp [hn x hx]
  simp [this]
 | some m=>
  obtain⟨hm,hp,_⟩:=List.findIdx?_eq_some_iff_getElem.1 hf
  have:xs.any p=true:=List.any_eq_true.2 ⟨_,List.getElem_mem hm,hp⟩
  simp [this]
theorem Q4N {α:Type} {p:α→Bool} {xs:List α}:-1≤fidx p xs∧fidx p xs<xs.length:=by
 unfold fidx
 cases hf:xs.findIdx? p with
 | none=>simp;omega
 | some m=>obtain⟨hm,_,_⟩:=List.findIdx?_eq_some_iff_getElem.1 hf;simp;omega
section
variable {κ α:Type} [DecidableEq κ]
theorem GG:∀(xs:List (κ×α)) (k:κ) (y:α) (j:κ),lk (upd xs k y) j=if k=j then some y else lk xs j
 | [],k,y,j=>by simp only [upd,lk]
 | p :: r,k,y,j=>by
  unfold upd
  by_cases h:p.1=k
  ·rw [if_pos h]
   simp only [lk]
   by_cases h2:k=j
   ·simp [h2]
   ·rw [if_neg h2,if_neg h2,if_neg (by rw [h];exact h2)]
  ·rw [if_neg h]
   simp only [lk,GG r k y j]
   by_cases h2:p.1=j
   ·rw [if_pos h2,if_pos h2,if_neg (fun e=>h (h2.trans e.symm))]
   ·rw [if_neg h2,if_neg h2]
end
section
variable {κ α:Type} [DecidableEq κ]
def left (xs:List (κ×α)) (seen:List κ):Nat:=(xs.filter fun p=>decide (p.1∉seen)).length
theorem Q3C (xs:List (κ×α)) (x:κ) (seen:List κ):left xs (x :: seen)≤left xs seen:=by
 induction xs with
 | nil=>simp [left]
 | cons p r ih=>
  unfold left at ih ⊢
  by_cases h1:p.1∉x :: seen
  ·have h2:p.1∉seen:=fun e=>h1 (List.mem_cons_of_mem _ e)
   rw [List.filter_cons_of_pos (by simpa using h1),List.filter_cons_of_pos (by simpa using h2)]
   simp only [List.length_cons];omega
  ·rw [List.filter_cons_of_neg (by simpa using h1)]
   by_cases h2:p.1∉seen
   ·rw [List.filter_cons_of_pos (by simpa using h2)];simp only [List.length_cons];omega
   ·rw [List.filter_cons_of_neg (by simpa using h2)];exact ih
theorem Q1D:∀(xs:List (κ×α)) {x:κ} {v:α} {seen:List κ},lk xs x=some v→x∉seen→left xs (x :: seen)<left xs seen
 | [],x,v,seen,h,_=>by simp [lk] at h
 | p :: r,x,v,seen,h,hn=>by
  unfold lk at h
  by_cases h1:p.1=x
  ·subst h1
   have:=Q3C r p.1 seen
   unfold left at this ⊢
   rw [List.filter_cons_of_neg (by simp),List.filter_cons_of_pos (by simpa using hn)]
   simp only [List.length_cons];omega
  ·rw [if_neg h1] at h
   have ih:=Q1D r h hn
   unfold left at ih ⊢
   by_cases h2:p.1∈seen
   ·rw [List.filter_cons_of_neg (by simp [h2]),List.filter_cons_of_neg (by simp [h2])];exact ih
   ·rw [List.filter_cons_of_pos (by simp [h2,h1]),List.filter_cons_of_pos (by simp [h2])]
    simp only [List.length_cons];omega
end
theorem set_idx {α:Type} {xs:List α} {i:Int} {x:α} (h:idx xs i=some x):xs.set i.toNat x=xs:=by
 unfold idx at h
 split at h
 ·apply List.ext_getElem?
  intro j
  rw [List.getElem?_set]
  split
  ·rename_i e;subst e
   split
   ·exact h.symm
   ·rename_i h3;rw [List.getElem?_eq_none (by omega)]
  ·rfl
 ·cases h
end Go.Taq
/- The mathematics, part B: right floors, and the cells beside a cell. -/
set_option linter.unusedVariables false
namespace Go.Taq
open Go
structure RF (f:ApiFloor):Prop where
 W1:1≤f.W
 H1:1≤f.H
 D1:1≤f.D
 D4:f.D≤4
 W4:f.W≤4096
 H4:f.H≤4096
 n4:f.W*f.H*f.D≤4096
 kl:(f.Kind.length:Int)=f.W*f.H*f.D
 ol:(f.Out.length:Int)=f.W*f.H*f.D
 ko:∀(i:Nat) x y,f.Kind[i]?=some x→f.Out[i]?=some y→0≤x∧x<7∧0≤y∧y≤63
theorem Q3A {a b p q:Int} (ha:0≤a) (hb:0≤b) (h1:a≤p) (h2:b≤q):0≤a*b∧a*b≤p*q:=
 ⟨Int.mul_nonneg ha hb,Int.mul_le_mul h1 h2 hb (by omega)⟩
theorem Q2w {f:ApiFloor} (w1:1≤f.W) (h1:1≤f.H) (d1:1≤f.D) (d4:f.D≤4) (w4:f.W≤4096) (h4:f.H≤4096):w64 ((w64 (f.W*f.H))*f.D)=f.W*f.H*f.D∧w64 (f.W*f.H)=f.W*f.H∧1≤f.W*f.H∧f.W*f.H≤16777216:=by
 have a:=Q3A (by omega:0≤f.W) (by omega:0≤f.H) w4 h4
 have b:=Q3A a.1 (by omega:0≤f.D) a.2 d4
 have c:1*1≤f.W*f.H:=Int.mul_le_mul w1 h1 (by omega) (by omega)
 rw [K8 (x:=f.W*f.H) (by omega) (by omega),K8 (x:=f.W*f.H*f.D) (by omega) (by omega)]
 exact⟨rfl,rfl,by omega,by omega⟩
theorem RF.size {f:ApiFloor} (h:RF f):w64 ((w64 (f.W*f.H))*f.D)=f.Kind.length:=by rw [(Q2w h.W1 h.H1 h.D1 h.D4 h.W4 h.H4).1,h.kl]
theorem RF.wh {f:ApiFloor} (h:RF f):w64 (f.W*f.H)=f.W*f.H∧1≤f.W*f.H∧f.W*f.H≤4096:=by
 have e:=Q2w h.W1 h.H1 h.D1 h.D4 h.W4 h.H4
 refine⟨e.2.1,e.2.2.1,?_⟩
 have:f.W*f.H*1≤f.W*f.H*f.D:=Int.mul_le_mul_of_nonneg_left h.D1 (by omega)
 have:=h.n4;omega
theorem RF.len {f:ApiFloor} (h:RF f):f.Kind.length≤4096∧f.Out.length=f.Kind.length:=by
 have:=h.kl;have:=h.ol;have:=h.n4;omega
def isC (f:ApiFloor) (c:Int):Bool:=decide (0≤c)&&decide (c<f.Kind.length)
theorem Q1X {f:ApiFloor} (h:RF f) {post:Int→Prop} (hp:post f.Kind.length):XU f post:=by
 unfold XU;rw [h.size];exact hp
theorem Q0Z {f:ApiFloor} (h:RF f) {c:Int} {post:Bool→Prop} (hp:post (isC f c)):GS f c post:=by
 unfold GS
 refine Jn.eq (isC f c) (Ite.mk (fun h1=>Q1X h ?_) (fun h1=>?_)) hp
 ·simp at h1;simp [isC,h1]
 ·simp at h1;simp [isC];omega
def kd (f:ApiFloor) (c:Int):Int:=f.Kind.getD c.toNat 0
def ot (f:ApiFloor) (c:Int):Int:=f.Out.getD c.toNat 0
theorem Xx {f:ApiFloor} {c:Int}:isC f c=true↔0≤c∧c<f.Kind.length:=by simp [isC]
theorem Q5g {f:ApiFloor} {c:Int}:isC f c=false↔¬(0≤c∧c<f.Kind.length):=by rw [←Xx];simp
theorem Q0r {f:ApiFloor} {c:Int} (h:isC f c=true):idx f.Kind c=some (kd f c):=by
 rw [Xx] at h
 rw [YG h.1 h.2,kd,List.getD_eq_getElem?_getD,List.getElem?_eq_getElem (by omega)];rfl
theorem Q61 {f:ApiFloor} (hf:RF f) {c:Int} (h:isC f c=true):idx f.Out c=some (ot f c):=by
 rw [Xx] at h
 have:=hf.len.2
 rw [YG h.1 (by omega),ot,List.getD_eq_getElem?_getD,List.getElem?_eq_getElem (by omega)];rfl
theorem Q2j {x y k:Int}:imin x y<k↔x<k∨y<k:=by unfold imin;split <;> omega
def GN (f:ApiFloor) (x y z:Int):Int:=if 0≤x∧x<f.W∧0≤y∧y<f.H∧0≤z∧z<f.D then (z*f.H+y)*f.W+x else -1
theorem Q2F {f:ApiFloor} (h:RF f) {x y z:Int} (h1:0≤x∧x<f.W∧0≤y∧y<f.H∧0≤z∧z<f.D):
  0≤z*f.H∧z*f.H≤16384∧0≤(z*f.H+y)*f.W∧(z*f.H+y)*f.W+x<f.Kind.length:=by
 obtain⟨a1,a2,a3,a4,a5,a6⟩:=h1
 have w:=h.W4;have hh:=h.H4;have d:=h.D4
 have b:=Q3A a5 (by omega:0≤f.H) (by omega:z≤4) hh
 have e1:(z+1)*f.H≤f.D*f.H:=Int.mul_le_mul_of_nonneg_right (by omega) (by omega)
 have e2:(z+1)*f.H=z*f.H+f.H:=by rw [Int.add_mul];omega
 have e3:z*f.H+y+1≤f.D*f.H:=by omega
 have e4:(z*f.H+y+1)*f.W≤f.D*f.H*f.W:=Int.mul_le_mul_of_nonneg_right e3 (by omega)
 have e5:(z*f.H+y+1)*f.W=(z*f.H+y)*f.W+f.W:=by rw [Int.add_mul (z*f.H+y)];omega
 have e6:f.D*f.H*f.W=f.W*f.H*f.D:=by rw [Int.mul_comm f.D f.H,Int.mul_comm _ f.W,Int.mul_assoc f.W f.H f.D]
 have e7:0≤(z*f.H+y)*f.W:=Int.mul_nonneg (by omega) (by omega)
 have:=h.kl
 exact⟨b.1,by omega,e7,by omega⟩
theorem Q4b {f:ApiFloor} (h:RF f) (x y z:Int):GN f x y z=-1∨isC f (GN f x y z)=true:=by
 unfold GN
 split
 ·rename_i h1
  have:=Q2F h h1
  exact .inr (Xx.2 (by omega))
 ·exact .inl rfl
theorem Q4O {f:ApiFloor} (h:RF f) {x y z:Int} (h1:0≤x∧x<f.W∧0≤y∧y<f.H∧0≤z∧z<f.D):w64 ((w64 ((w64 ((w64 (z*f.H))+y))*f.W))+x)=GN f x y z:=by
 have:=Q2F h h1
 have:=h.len.1;have:=h.H4
 rw [K8 (x:=z*f.H) (by omega) (by omega),K8 (x:=z*f.H+y) (by omega) (by omega),K8 (x:=(z*f.H+y)*f.W) (by omega) (by omega),K8 (by omega) (by omega),GN,if_pos h1]
def pX (f:ApiFloor) (c:Int):Int:=c % f.W
def pY (f:ApiFloor) (c:Int):Int:=c / f.W % f.H
def pZ (f:ApiFloor) (c:Int):Int:=c / f.W / f.H
theorem p_bd {f:ApiFloor} (h:RF f) {c:Int} (hc:isC f c=true):0≤pX f c∧pX f c<f.W∧0≤pY f c∧pY f c<f.H∧0≤pZ f c∧pZ f c<f.D:=by
 rw [Xx] at hc
 have w:=h.W1;have hh:=h.H1;have hd:=h.D1
 refine⟨Int.emod_nonneg _ (by omega),Int.emod_lt_of_pos _ (by omega),Int.emod_nonneg _ (by omega),Int.emod_lt_of_pos _ (by omega),Int.ediv_nonneg (Int.ediv_nonneg hc.1 (by omega)) (by omega),?_⟩
 unfold pZ
 refine Int.ediv_lt_of_lt_mul (by omega) (Int.ediv_lt_of_lt_mul (by omega) ?_)
 have:=h.kl
 have e6:f.D*f.H*f.W=f.W*f.H*f.D:=by rw [Int.mul_comm f.D f.H,Int.mul_comm _ f.W,Int.mul_assoc f.W f.H f.D]
 omega
def nbr (f:ApiFloor) (c d:Int):Int:=
 if isC f c=false then -1 else
 if d=0 then GN f (pX f c+1) (pY f c) (pZ f c) else if d=1 then GN f (pX f c) (pY f c+1) (pZ f c) else
 if d=2 then GN f (pX f c-1) (pY f c) (pZ f c) else if d=3 then GN f (pX f c) (pY f c-1) (pZ f c) else
 if d=4 then GN f (pX f c) (pY f c) (pZ f c+1) else if d=5 then GN f (pX f c) (pY f c) (pZ f c-1) else -1
theorem Q4d {f:ApiFloor} (h:RF f) (c d:Int):nbr f c d=-1∨isC f (nbr f c d)=true:=by
 unfold nbr
 repeat' split
 all_goals first | exact .inl rfl | exact Q4b h _ _ _
def nx (f:ApiFloor) (c d:Int):Int×Bool:=
 if nbr f c d<0∨kd f c=0∨kd f (nbr f c d)=0∨band .i64 (shrI .i64 (ot f c) d) 1=0 then (0,false)
 else if 4≤d∧(kd f c≠6∨kd f (nbr f c d)≠6) then (0,false) else (nbr f c d,true)
theorem Q47 {f:ApiFloor} (h:RF f) {c d:Int} (hn:(nx f c d).2=true):isC f c=true∧isC f (nx f c d).1=true∧0≤d∧d<6∧kd f (nx f c d).1≠0∧kd f c≠0:=by
 unfold nx at hn ⊢
 split at hn
 ·cases hn
 ·rename_i h1
  split at hn
  ·cases hn
  ·rename_i h2
   rw [if_neg h1,if_neg h2]
   simp only [not_or] at h1
   obtain⟨a1,a2,a3,a4⟩:=h1
   have hb:=Q4d h c d
   have hc:isC f c=true:=by
    cases hc:isC f c
    ·exact absurd (by rw [nbr,if_pos hc];omega) a1
    ·rfl
   have hd:0≤d∧d<6:=by
    unfold nbr at a1
    rw [if_neg (by simp [hc])] at a1
    repeat' split at a1
    all_goals omega
   exact⟨hc,by rcases hb with e | e;(exact absurd (by omega) a1);exact e,hd.1,hd.2,a3,a2⟩
theorem Q0S {f:ApiFloor} (h:RF f) {c:Int} (hc:isC f c=true) {post:(Int×Int×Int)→Prop} (hp:post (pX f c,pY f c,pZ f c)):GR f c post:=by
 unfold GR
 refine Q0Z h ?_
 rw [hc]
 refine Ite.f rfl ?_
 rw [Xx] at hc
 have w:=h.W1;have hh:=h.H1;have hd:=h.D1;have wh:=h.wh;have hl:=h.len.1
 have e1:0≤c / f.W∧c / f.W≤c:=⟨Int.ediv_nonneg hc.1 (by omega),Int.ediv_le_self _ hc.1⟩
 have e2:0≤c / (f.W*f.H)∧c / (f.W*f.H)≤c:=⟨Int.ediv_nonneg hc.1 (by omega),Int.ediv_le_self _ hc.1⟩
 rw [wh.1]
 refine⟨by omega,by omega,by omega,by omega,?_⟩
 rw [Int.tmod_eq_emod_of_nonneg hc.1,Int.tdiv_eq_ediv_of_nonneg hc.1,K8 (x:=c / f.W) (by omega) (by omega),Int.tmod_eq_emod_of_nonneg e1.1,Int.tdiv_eq_ediv_of_nonneg hc.1,K8 (x:=c / (f.W*f.H)) (by omega) (by omega),←Int.ediv_ediv_of_nonneg (by omega:0≤f.W)]
 exact hp
theorem GH {f:ApiFloor} (h:RF f) {x y z:Int} {post:Int→Prop} (hp:post (GN f x y z)):X9 f x y z post:=by
 unfold X9
 refine Jor4 (Ite.mk (fun h1=>?_) (fun h1=>?_))
 ·have:GN f x y z=-1:=by
   unfold GN
   rw [if_neg]
   simp only [Bool.or_eq_true,decide_eq_true_eq,Q2j] at h1
   omega
  rw [←this];exact hp
 ·have:0≤x∧x<f.W∧0≤y∧y<f.H∧0≤z∧z<f.D:=by
   simp only [Bool.or_eq_false_iff,decide_eq_false_iff_not,Q2j] at h1
   omega
  rw [Q4O h this];exact hp
theorem Q0H {f:ApiFloor} (h:RF f) {c d:Int} {post:Int→Prop} (hp:post (nbr f c d)):G8 f c d post:=by
 unfold G8
 refine Jn.eq (!isC f c||decide (d<0)||decide (d≥6)) (Q0Z h ?_) (Ite.mk (fun h1=>?_) (fun h1=>?_))
 ·cases isC f c
  ·exact Ite.f rfl rfl
  ·exact Ite.t rfl (Ite.mk (fun h=>by rw [h];rfl) (fun h=>by rw [h];rfl))
 ·have:nbr f c d=-1:=by
   unfold nbr
   simp only [Bool.or_eq_true,Bool.not_eq_true',decide_eq_true_eq] at h1
   split
   ·rfl
   ·rename_i h2
    have h3:¬(0≤d∧d<6):=by
     rcases h1 with (h1 | h1) | h1
     ·exact absurd h1 h2
     ·omega
     ·omega
    rw [if_neg (by omega),if_neg (by omega),if_neg (by omega),if_neg (by omega),if_neg (by omega),if_neg (by omega)]
  rw [←this];exact hp
 ·simp only [Bool.or_eq_false_iff,Bool.not_eq_false',decide_eq_false_iff_not] at h1
  obtain⟨⟨hc,h2⟩,h3⟩:=h1
  refine Q0S h hc (post:=_) ?_
  unfold GL
  have hb:=p_bd h hc
  have w:=h.W4;have hh:=h.H4;have hd:=h.D4
  have hn:nbr f c d=(if d=0 then GN f (pX f c+1) (pY f c) (pZ f c) else if d=1 then GN f (pX f c) (pY f c+1) (pZ f c) else
    if d=2 then GN f (pX f c-1) (pY f c) (pZ f c) else if d=3 then GN f (pX f c) (pY f c-1) (pZ f c) else
    if d=4 then GN f (pX f c) (pY f c) (pZ f c+1) else if d=5 then GN f (pX f c) (pY f c) (pZ f c-1) else -1):=by
   unfold nbr;rw [if_neg (by simp [hc])]
  have hd6:d=0∨d=1∨d=2∨d=3∨d=4∨d=5:=by omega
  rcases hd6 with e | e | e | e | e | e <;> subst e <;> simp only [if_pos,Int.reduceEq,if_false] at hn <;> rw [hn] at hp <;>
   refine⟨_,rfl,GH h ?_⟩ <;> (try simp only []) <;> rw [K8 (by omega) (by omega),K8 (by omega) (by omega),K8 (by omega) (by omega)] <;>
   first | exact hp | (simpa [Int.sub_eq_add_neg] using hp)
theorem Wf {f:ApiFloor} (h:RF f) {c d:Int} {post:Int×Bool→Prop} (hp:post (nx f c d)):Xt f c d post:=by
 unfold Xt
 refine Q0H h ?_
 have hb:=Q4d h c d
 have hc:0≤nbr f c d→isC f c=true∧0≤d∧d<6:=fun a1=>by
  have hc:isC f c=true:=by
   cases hc:isC f c
   ·exact absurd (by rw [nbr,if_pos hc];omega) (Int.not_lt.2 a1)
   ·rfl
  refine⟨hc,?_⟩
  unfold nbr at a1
  rw [if_neg (by simp [hc])] at a1
  repeat' split at a1
  all_goals omega
 have hn:0≤nbr f c d→isC f (nbr f c d)=true:=fun a1=>by rcases hb with e | e;(exact absurd a1 (by omega));exact e
 refine Jn.eq (decide (nbr f c d<0∨kd f c=0∨kd f (nbr f c d)=0∨band .i64 (shrI .i64 (ot f c) d) 1=0)) (Ite.mk (fun h1=>?_) (fun h1=>?_)) (Ite.mk (fun h1=>?_) (fun h1=>?_))
 ·simp only [decide_eq_true_eq] at h1;simp [h1]
 ·simp only [decide_eq_false_iff_not,Int.not_lt] at h1
  obtain⟨hc,hd⟩:=hc h1
  refine⟨_,Q0r hc,Ite.mk (fun h2=>?_) (fun h2=>⟨_,Q0r (hn h1),Ite.mk (fun h3=>?_) (fun h3=>⟨_,Q61 h hc,hd.1,?_⟩)⟩)⟩
  ·simp at h2;simp [h2]
  ·simp at h3;simp [h3]
  ·simp at h2 h3;simp only [h2,h3,Int.not_lt.2 h1,false_or];rfl
 ·simp only [decide_eq_true_eq] at h1
  have:nx f c d=(0,false):=by unfold nx;rw [if_pos h1]
  rw [←this];exact hp
 ·simp only [decide_eq_false_iff_not] at h1
  have h0:0≤nbr f c d:=by simp only [not_or] at h1;omega
  obtain⟨hc,hd⟩:=hc h0
  have e:nx f c d=if 4≤d∧(kd f c≠6∨kd f (nbr f c d)≠6) then (0,false) else (nbr f c d,true):=by unfold nx;rw [if_neg h1]
  have lift:∀{J:Bool→Prop},J (decide (kd f c≠6∨kd f (nbr f c d)≠6))→∃x15,idx f.Kind c=some x15∧Ite (x15 != 6) (J true) (∃x17,idx f.Kind (nbr f c d)=some x17∧J (x17 != 6)):=fun {J} hJ=>by
   refine⟨_,Q0r hc,Ite.mk (fun h2=>?_) (fun h2=>⟨_,Q0r (hn h0),?_⟩)⟩
   ·simp at h2;simpa [h2] using hJ
   ·simp at h2
    have e:(kd f (nbr f c d) != 6)=decide (kd f c≠6∨kd f (nbr f c d)≠6):=by rw [h2];by_cases h3:kd f (nbr f c d)=6 <;> simp [h3]
    rw [e];exact hJ
  refine Jn.eq (decide (4≤d∧(kd f c≠6∨kd f (nbr f c d)≠6))) (Ite.mk (fun h2=>?_) (fun h2=>Ite.mk (fun h3=>?_) (fun h3=>?_))) (Ite.mk (fun h2=>?_) (fun h2=>?_))
  ·simp at h2;exact lift (J:=fun x=>x=decide (4≤d∧(kd f c≠6∨kd f (nbr f c d)≠6))) (by simp [h2])
  ·simp at h3;exact lift (J:=fun x=>x=decide (4≤d∧(kd f c≠6∨kd f (nbr f c d)≠6))) (by simp [h3])
  ·simp at h2 h3
   have:¬4≤d:=by omega
   simp [this]
  ·simp only [decide_eq_true_eq] at h2
   rw [e,if_pos h2] at hp;exact hp
  ·simp only [decide_eq_false_iff_not] at h2
   rw [e,if_neg h2] at hp;exact hp
end Go.Taq
/- The mathematics, part C: lists: searches, halving. -/
set_option linter.unusedVariables false
namespace Go.Taq
open Go
theorem Q0F {xs:List Int} {v:Int} (hl:xs.length≤maxLen) {post:Int→Prop} (hp:post (fidx (fun x=>v == x) xs)):Ko xs v post:=by
 unfold Ko
 have hm:(xs.length:Int)≤9223372036854775807:=by simp [maxLen] at hl;omega
 refine Jn.mk (fun _=>post (-1)) (Loop.find xs (fun x=>v == x) (fun i x hi hx hpx=>?_) (fun i x hi hx hpx hf=>?_) (fun hn hf=>?_)) (fun _ h=>h)
 ·refine Ite.t (by simp;omega) ⟨x,Qo rfl hx,Ite.f hpx ?_⟩
  rw [K8 (by omega) (by omega)];omega
 ·refine Ite.t (by simp;omega) ⟨x,Qo rfl hx,Ite.t hpx ?_⟩
  simpa [fidx,hf] using hp
 ·refine Ite.f (by simp) ?_
  simpa [fidx,hf] using hp
theorem XZ {xs:List Int} {v:Int} (hl:xs.length≤maxLen) {post:Bool→Prop} (hp:post (xs.contains v)):Qy xs v post:=by
 unfold Qy
 refine Q0F hl ?_
 have:decide (fidx (fun x=>v == x) xs≥0)=xs.contains v:=by rw [Yl,List.contains_eq_any_beq]
 rw [this];exact hp
def Asc (xs:List Int):Prop:=∀(i j:Nat) x y,i<j→xs[i]?=some x→xs[j]?=some y→x<y
theorem Y3 {xs:List Int} {t:Int} (hl:xs.length≤maxLen) (ha:Asc xs) {post:Int×Bool→Prop} (hp:∀i,post (i,xs.contains t)):QR xs t post:=by
 unfold QR
 have hm:(xs.length:Int)≤9223372036854775807:=by simp [maxLen] at hl;omega
 refine Jn.mk (fun i:Int=>0≤i∧i≤xs.length∧(∀(j:Nat) x,(j:Int)<i→xs[j]?=some x→x<t)∧(∀(j:Nat) x,i≤(j:Int)→xs[j]?=some x→t≤x))
  (Loop.mk (fun s:Int×Int=>0≤s.1∧s.1≤s.2∧s.2≤xs.length∧(∀(j:Nat) x,(j:Int)<s.1→xs[j]?=some x→x<t)∧(∀(j:Nat) x,s.2≤(j:Int)→xs[j]?=some x→t≤x)) (fun s=>(s.2-s.1).toNat) ⟨by simp,by simp,by simp,fun j x hj=>absurd hj (by simp),fun j x hj hx=>?_⟩ ?_) ?_
 ·have:=(List.getElem?_eq_some_iff.1 hx).1
  simp at hj;omega
 ·rintro⟨i,j⟩ ⟨h0,h1,h2,h3,h4⟩
  simp only at h0 h1 h2 h3 h4
  refine Ite.mk (fun hlt=>?_) (fun hge=>?_)
  ·simp only [decide_eq_true_eq] at hlt
   have e:IntKind.wrap .i64 (shrI .u64 (IntKind.wrap .u64 (w64 (i+j))) 1)=(i+j) / 2:=by
    have e1:IntKind.wrap .u64 (w64 (i+j))=i+j:=by simp [w64,IntKind.wrap,IntKind.signed,IntKind.bits];omega
    rw [e1,shrI]
    have e2:(i+j).fdiv (2 ^ (min (1:Int).toNat IntKind.u64.bits))=(i+j) / 2:=by
     rw [Int.fdiv_eq_ediv_of_nonneg _ (by decide)];rfl
    rw [e2]
    exact K8 (by omega) (by omega)
   simp only []
   rw [e]
   have hmid:i≤(i+j) / 2∧(i+j) / 2<j:=by omega
   refine⟨_,YG (by omega) (by omega),?_⟩
   generalize hx:xs[((i+j) / 2).toNat]'(by omega)=x
   have hx':xs[((i+j) / 2).toNat]?=some x:=by rw [List.getElem?_eq_getElem (by omega),hx]
   unfold GC XP
   refine Jn.eq (decide (x<t)) (Ite.f (by simp) rfl) ?_
   refine Jn.mk (fun s:Int×Int=>s=(if x<t then (i+j) / 2+1 else i,if x<t then j else (i+j) / 2)) (Ite.mk (fun h5=>?_) (fun h5=>?_)) ?_
   ·simp at h5;simp only [h5,if_true]
    rw [K8 (by omega) (by omega)]
   ·simp at h5;simp [Int.not_lt.2 h5]
   ·rintro⟨a,b⟩ e3
    cases e3
    by_cases h5:x<t
    ·simp only [h5,if_true]
     refine⟨⟨by omega,by omega,by omega,fun q y hq hy=>?_,h4⟩,by omega⟩
     rcases Nat.lt_or_ge q ((i+j) / 2).toNat with h6 | h6
     ·exact Int.lt_trans (ha _ _ _ _ h6 hy hx') h5
     ·have:q=((i+j) / 2).toNat:=by omega
      subst this;rw [hx'] at hy;cases hy;exact h5
    ·simp only [h5,if_false]
     refine⟨⟨by omega,by omega,by omega,h3,fun q y hq hy=>?_⟩,by omega⟩
     rcases Nat.lt_or_ge ((i+j) / 2).toNat q with h6 | h6
     ·have:=ha _ _ _ _ h6 hx' hy;omega
     ·have:q=((i+j) / 2).toNat:=by omega
      subst this;rw [hx'] at hy;cases hy;omega
  ·simp only [decide_eq_false_iff_not] at hge
   have:i=j:=by omega
   subst this
   exact⟨h0,h2,h3,h4⟩
 ·rintro i ⟨h0,h1,h3,h4⟩
  have hc:xs.contains t=true↔∃j:Nat,xs[j]?=some t:=by
   rw [List.contains_iff_mem];exact List.mem_iff_getElem?
  refine Jn.eq (xs.contains t) (Ite.mk (fun hlt=>?_) (fun hge=>?_)) (hp i)
  ·simp only [decide_eq_true_eq] at hlt
   refine⟨_,YG h0 hlt,?_⟩
   generalize hx:xs[i.toNat]'(by omega)=x
   have hx':xs[i.toNat]?=some x:=by rw [List.getElem?_eq_getElem (by omega),hx]
   refine Ite.mk (fun h5=>?_) (fun h5=>?_)
   ·simp at h5;subst h5
    exact (hc.2 ⟨_,hx'⟩).symm
   ·unfold Xg
    refine Ite.f (by simp) ?_
    simp at h5
    cases hcc:xs.contains t
    ·rfl
    ·obtain⟨j,hj⟩:=hc.1 hcc
     exfalso
     rcases Nat.lt_or_ge j i.toNat with h6 | h6
     ·have:=h3 j t (by omega) hj;omega
     ·rcases Nat.lt_or_ge i.toNat j with h7 | h7
      ·have:=ha _ _ _ _ h7 hx' hj
       have:=h4 i.toNat x (by omega) hx'
       omega
      ·have:j=i.toNat:=by omega
       subst this;rw [hx'] at hj;cases hj;exact h5 rfl
  ·simp only [decide_eq_false_iff_not] at hge
   cases hcc:xs.contains t
   ·rfl
   ·obtain⟨j,hj⟩:=hc.1 hcc
    have:=(List.getElem?_eq_some_iff.1 hj).1
    have:=h3 j t (by omega) hj;omega
end Go.Taq
/- The mathematics, part D: zones, what is open, what is taken; a step of a walk. -/
set_option linter.unusedVariables false
namespace Go.Taq
open Go
structure RS (s:ApiSite):Prop where
 fl:RF s.Floor
 asc:∀z,z∈s.Zones→Asc z.Cells
 zc:∀z,z∈s.Zones→∀c,c∈z.Cells→isC s.Floor c=true
 sp:∀z,z∈s.Zones→1≤z.Speed∧z.Speed≤100
def zn (s:ApiSite) (c:Int):Int:=fidx (fun z:Qx=>z.Cells.contains c) s.Zones
def inS (t:Int) (x:QF):Bool:=decide (x.From≤t)&&decide (t<x.To)
def spd (s:ApiSite) (c:Int):Int:=if zn s c<0 then 1 else (s.Zones.getD (zn s c).toNat default).Speed
def opn (s:ApiSite) (c t:Int):Bool:=isC s.Floor c&&(decide (zn s c<0)||!((s.Zones.getD (zn s c).toNat default).Shut.any (inS t)))
theorem zn_lt {s:ApiSite} {c:Int}:-1≤zn s c∧zn s c<s.Zones.length:=Q4N
theorem Q3m {s:ApiSite} {c:Int} (h:0≤zn s c):idx s.Zones (zn s c)=some (s.Zones.getD (zn s c).toNat default):=by
 have:=zn_lt (s:=s) (c:=c)
 rw [YG h (by omega),List.getD_eq_getElem?_getD,List.getElem?_eq_getElem (by omega)];rfl
theorem Q4g {s:ApiSite} {c:Int} (h:0≤zn s c):s.Zones.getD (zn s c).toNat default∈s.Zones:=by
 have:=zn_lt (s:=s) (c:=c)
 rw [List.getD_eq_getElem?_getD,List.getElem?_eq_getElem (by omega)];exact List.getElem_mem _
theorem Q2O {s:ApiSite} (h:RS s) (c:Int):1≤spd s c∧spd s c≤100:=by
 unfold spd
 split
 ·omega
 ·exact h.sp _ (Q4g (by omega))
theorem Yz {s:ApiSite} (k:OkApiSite s) (h:RS s) {c:Int} {post:Int→Prop} (hp:post (zn s c)):XC s c post:=by
 unfold XC Qs
 have hl:=k.Zones.1
 simp only [maxLen] at hl
 have step:∀(x:Qx),x∈s.Zones→∀{post:Bool→Prop},post (x.Cells.contains c)→Xz x c post:=fun x hx post hp=>by
  unfold Xz
  exact Y3 (k.Zones.2 x hx).Cells.1 (h.asc x hx) (fun _=>hp)
 refine Jn.mk (fun _=>post (-1)) (Loop.find s.Zones (fun z:Qx=>z.Cells.contains c) (fun i x hi hx hpx=>?_) (fun i x hi hx hpx hf=>?_) (fun hn hf=>?_)) (fun _ h=>h)
 ·refine Ite.t (by simp;omega) ⟨x,Qo rfl hx,step x (List.mem_of_getElem? hx) (Ite.f hpx ?_)⟩
  rw [K8 (by omega) (by omega)];omega
 ·refine Ite.t (by simp;omega) ⟨x,Qo rfl hx,step x (List.mem_of_getElem? hx) (Ite.t hpx ?_)⟩
  rw [zn,fidx,hf] at hp;exact hp
 ·refine Ite.f (by simp) ?_
  rw [zn,fidx,hf] at hp;exact hp
theorem YE {s:ApiSite} {c:Int} {post:Bool→Prop} (hp:post (isC s.Floor c)):XA s c post:=by
 unfold XA
 refine Q23 ?_
 have:(decide (c≥0)&&decide (c<(s.Floor.Kind.length:Int)))=isC s.Floor c:=rfl
 rw [this];exact hp
theorem WJ {s:ApiSite} (k:OkApiSite s) (h:RS s) {c:Int} {post:Int→Prop} (hp:post (spd s c)):Xy s c post:=by
 unfold Xy
 refine Yz k h (Ite.mk (fun h1=>⟨_,Q3m (by simpa using h1),?_⟩) (fun h1=>?_))
 ·simp at h1;rw [spd,if_neg (by omega)] at hp;exact hp
 ·simp at h1;rw [spd,if_pos (by omega)] at hp;exact hp
theorem Q1l {xs:List QF} {t:Int} (hl:xs.length≤maxLen) {post:Bool→Prop} (hp:post (xs.any (inS t))):Qh xs t post:=by
 unfold Qh Qv
 simp only [maxLen] at hl
 rw [←Yl] at hp
 have step:∀(x:QF) {post:Bool→Prop},post (inS t x)→G6 x t post:=fun x post hp=>by unfold G6;exact Q23 hp
 refine Jn.mk (fun _=>post (decide ((-1:Int)≥0))) (Loop.find xs (inS t) (fun i x hi hx hpx=>?_) (fun i x hi hx hpx hf=>?_) (fun hn hf=>?_)) (fun _ h=>h)
 ·refine Ite.t (by simp;omega) ⟨x,Qo rfl hx,step x (Ite.f hpx ?_)⟩
  rw [K8 (by omega) (by omega)];omega
 ·refine Ite.t (by simp;omega) ⟨x,Qo rfl hx,step x (Ite.t hpx ?_)⟩
  rw [fidx,hf] at hp;exact hp
 ·refine Ite.f (by simp) ?_
  rw [fidx,hf] at hp;exact hp
theorem ZG {s:ApiSite} (k:OkApiSite s) (h:RS s) {c t:Int} {post:Bool→Prop} (hp:post (opn s c t)):Gg s c t post:=by
 unfold Gg
 refine Yz k h ?_
 refine Jn.eq (!isC s.Floor c||decide (zn s c<0)) (YE (Ite.mk (fun h1=>by rw [h1];rfl) (fun h1=>by rw [h1];rfl))) (Ite.mk (fun h1=>YE ?_) (fun h1=>?_))
 ·have:opn s c t=isC s.Floor c:=by
   unfold opn
   cases hc:isC s.Floor c
   ·rfl
   ·rw [hc] at h1;simp only [Bool.not_true,Bool.false_or] at h1;simp [h1]
  rw [←this];exact hp
 ·simp only [Bool.or_eq_false_iff,Bool.not_eq_false',decide_eq_false_iff_not,Int.not_lt] at h1
  refine⟨_,Q3m h1.2,Q1l (k.Zones.2 _ (Q4g h1.2)).Shut.1 ?_⟩
  have:opn s c t=!((s.Zones.getD (zn s c).toNat default).Shut.any (inS t)):=by
   unfold opn;rw [h1.1,decide_eq_false (Int.not_lt.2 h1.2)];rfl
  rw [←this];exact hp
/-! ## what is taken -/
def Wq (taken:List ApiTaken) (c:Int):List QF:=(taken.filter fun x=>decide (x.Cell=c)).map (·.Span)
def Q1M (taken:List ApiTaken) (c t:Int):Bool:=(Wq taken c).any (inS t)
theorem Q01 (l:List ApiTaken) (x:ApiTaken) (c:Int):Wq (l++[x]) c=Wq l c++(if x.Cell=c then [x.Span] else []):=by
 unfold Wq
 rw [List.filter_append,List.map_append]
 by_cases h:x.Cell=c <;> simp [h]
theorem Q0s (l:List ApiTaken) (c:Int):(Wq l c).length≤l.length:=by
 unfold Wq;rw [List.length_map];exact List.length_filter_le _ _
structure Q3G (s:ApiSite) (tick:Int) (taken:List ApiTaken) (avoid:List Int) (w:RouteWalk):Prop where
 site:w.site=s
 tick:w.tick=tick
 avoid:w.avoid=avoid
 taken:∀c,(lk w.taken c).getD []=Wq taken c
theorem Q3F {s:ApiSite} {tick:Int} {taken:List ApiTaken} {avoid:List Int} (hl:taken.length≤1099511627776) {post:RouteWalk→Prop} (hp:∀w,Q3G s tick taken avoid w→post w):XO s tick taken avoid post:=by
 unfold XO
 refine Jn.mk (fun m=>∀c,(lk m c).getD []=Wq taken c) (Loop.mk (fun q:List (Int×List QF)×Int=>0≤q.2∧q.2≤taken.length∧∀c,(lk q.1 c).getD []=Wq (taken.take q.2.toNat) c) (fun q=>(taken.length-q.2).toNat)
  ⟨by simp,by simp,fun c=>rfl⟩ ?_) (fun m hm=>hp _ ⟨rfl,rfl,rfl,hm⟩)
 rintro⟨m,i⟩ ⟨h0,h1,hi⟩
 simp only at h0 h1 hi
 obtain⟨n,rfl⟩:=Int.eq_ofNat_of_zero_le h0
 refine Ite.mk (fun hlt=>?_) (fun hge=>?_)
 ·simp only [decide_eq_true_eq] at hlt
  have hn:n<taken.length:=by omega
  have hx:taken[n]?=some (taken[n]'hn):=List.getElem?_eq_getElem hn
  generalize hxe:taken[n]'hn=x at hx
  have e1:taken.take (n+1)=taken.take n++[x]:=by rw [List.take_add_one,hx];rfl
  have e2:w64 ((n:Int)+1)=((n+1:Nat):Int):=by rw [K8 (by omega) (by omega)];omega
  refine⟨x,Qo rfl hx,Jn.mk (fun m'=>∀c,(lk m' c).getD []=Wq (taken.take (n+1)) c) ⟨fun y hy=>⟨?_,fun c=>?_⟩,fun hy=>⟨by simp,fun c=>?_⟩⟩ (fun m' hm'=>?_)⟩
  ·have:=hi x.Cell
   rw [hy] at this
   simp only [Option.getD_some] at this
   have h3:=Q0s (taken.take n) x.Cell
   have h4:(taken.take n).length≤n:=by simp;omega
   rw [this];simp only [Int.toNat_natCast,List.length_cons,List.length_nil] at *;omega
  ·have:=hi x.Cell
   rw [hy] at this
   simp only [Option.getD_some,Int.toNat_natCast] at this
   rw [GG,e1,Q01]
   by_cases h:x.Cell=c
   ·subst h;simp [this]
   ·rw [if_neg h,if_neg h,List.append_nil];simpa using hi c
  ·have:=hi x.Cell
   rw [hy] at this
   simp only [Option.getD_none,Int.toNat_natCast] at this
   rw [GG,GG,e1,Q01]
   by_cases h:x.Cell=c
   ·subst h;simp [←this]
   ·rw [if_neg h,if_neg h,if_neg h,List.append_nil];simpa using hi c
  ·simp only []
   rw [e2]
   exact⟨⟨by omega,by omega,by simpa using hm'⟩,by omega⟩
 ·simp only [decide_eq_false_iff_not] at hge
  have:n=taken.length:=by omega
  subst this
  intro c
  simpa using hi c
theorem Q1Y {xs:List QF} {t:Int} (hl:xs.length≤maxLen) {post:Bool→Prop} (hp:post (xs.any (inS t))):Qg xs t post:=by
 unfold Qg Ql
 simp only [maxLen] at hl
 rw [←Yl] at hp
 have step:∀(x:QF) {post:Bool→Prop},post (inS t x)→KY x t post:=fun x post hp=>by unfold KY;exact Q23 hp
 refine Jn.mk (fun _=>post (decide ((-1:Int)≥0))) (Loop.find xs (inS t) (fun i x hi hx hpx=>?_) (fun i x hi hx hpx hf=>?_) (fun hn hf=>?_)) (fun _ h=>h)
 ·refine Ite.t (by simp;omega) ⟨x,Qo rfl hx,step x (Ite.f hpx ?_)⟩
  rw [K8 (by omega) (by omega)];omega
 ·refine Ite.t (by simp;omega) ⟨x,Qo rfl hx,step x (Ite.t hpx ?_)⟩
  rw [fidx,hf] at hp;exact hp
 ·refine Ite.f (by simp) ?_
  rw [fidx,hf] at hp;exact hp
end Go.Taq
/- The mathematics, part E: a step of a walk, and whether a walk is good. -/
set_option linter.unusedVariables false
namespace Go.Taq
open Go
def YZ (s:ApiSite) (taken:List ApiTaken) (avoid:List Int) (t:Int) (q:Int×Int) (a:Int):(Int×Int)×Int:=
 if a=0 then (if Q1M taken q.1 t=true then ((0,0),15) else ((q.1,imax (q.2-1) 0),0))
 else if q.2>0 then ((0,0),8)
 else if (nx s.Floor q.1 (a-1)).2=false∨avoid.contains (nx s.Floor q.1 (a-1)).1=true then ((0,0),14)
 else if opn s (nx s.Floor q.1 (a-1)).1 t=false then ((0,0),18)
 else if Q1M taken q.1 t=true∨Q1M taken (nx s.Floor q.1 (a-1)).1 t=true then ((0,0),15)
 else (((nx s.Floor q.1 (a-1)).1,spd s (nx s.Floor q.1 (a-1)).1-1),0)
def isQ (s:ApiSite) (q:Int×Int):Prop:=isC s.Floor q.1=true∧0≤q.2∧q.2<100
theorem Q1H {s:ApiSite} (h:RS s) {taken:List ApiTaken} {avoid:List Int} {t:Int} {q:Int×Int} {a:Int} (hq:isQ s q) (he:(YZ s taken avoid t q a).2=0):isQ s (YZ s taken avoid t q a).1:=by
 unfold YZ at he ⊢
 split
 ·rename_i h1
  rw [if_pos h1] at he
  split
  ·rename_i h2;rw [if_pos h2] at he;simp at he
  ·refine⟨hq.1,?_,?_⟩ <;> simp only [imax] <;> split <;> have:=hq.2 <;> omega
 ·rename_i h1
  rw [if_neg h1] at he
  split
  ·rename_i h2;rw [if_pos h2] at he;simp at he
  ·rename_i h2
   rw [if_neg h2] at he
   split
   ·rename_i h3;rw [if_pos h3] at he;simp at he
   ·rename_i h3
    rw [if_neg h3] at he
    split
    ·rename_i h4;rw [if_pos h4] at he;simp at he
    ·rename_i h4
     rw [if_neg h4] at he
     split
     ·rename_i h5;rw [if_pos h5] at he;simp at he
     ·simp only [not_or,Bool.not_eq_false] at h3
      have hx:=Q47 h.fl h3.1
      have:=Q2O h (nx s.Floor q.1 (a-1)).1
      exact⟨hx.2.1,by simp only [];omega,by simp only [];omega⟩
section
variable {s:ApiSite} {tick:Int} {taken:List ApiTaken} {avoid:List Int} {w:RouteWalk}
theorem Q2L (hw:Q3G s tick taken avoid w) (hl:taken.length≤maxLen) (ht:0≤tick∧tick≤20000) {c k:Int} (hk:0≤k∧k≤1000000) {post:Bool→Prop} (hp:post (Q1M taken c (tick+k))):Ki w c k post:=by
 unfold Ki
 rw [hw.tick,hw.taken,K8 (by omega) (by omega)]
 exact Q1Y (Nat.le_trans (Q0s _ _) hl) hp
theorem Q2n (k:OkApiSite s) (h:RS s) (hav:avoid.length≤maxLen) (hw:Q3G s tick taken avoid w) (hl:taken.length≤maxLen) (ht:0≤tick∧tick≤20000) {q:QP} {n a:Int} (hq:isQ s (q.cell,q.rest)) (hn:0≤n∧n≤1000000) (ha:0≤a∧a≤1000)
  {post:QP×Int→Prop} (hp:post (⟨(YZ s taken avoid (tick+n) (q.cell,q.rest) a).1.1,(YZ s taken avoid (tick+n) (q.cell,q.rest) a).1.2⟩,(YZ s taken avoid (tick+n) (q.cell,q.rest) a).2)):Xm w q n a post:=by
 unfold Xm
 obtain⟨q1,q2,q3⟩:=hq
 simp only at q1 q2 q3
 unfold YZ at hp
 simp only [] at hp
 refine Ite.mk (fun h1=>?_) (fun h1=>?_)
 ·simp at h1;subst h1
  simp only [if_true] at hp
  refine Q2L hw hl ht hn (Ite.mk (fun h2=>?_) (fun h2=>?_))
  ·rw [if_pos h2] at hp;exact hp
  ·rw [if_neg (by simp [h2])] at hp
   rw [K8 (by omega) (by omega)];exact hp
 ·simp at h1
  rw [if_neg h1] at hp
  rw [K8 (x:=a-1) (by omega) (by omega),hw.site]
  refine Wf h.fl ?_
  generalize nx s.Floor q.cell (a-1)=m at hp ⊢
  refine Ite.mk (fun h2=>?_) (fun h2=>?_)
  ·simp at h2;rw [if_pos h2] at hp;exact hp
  ·simp at h2
   rw [if_neg (by omega)] at hp
   refine Jn.eq (!m.2||avoid.contains m.1) (Ite.mk (fun h3=>?_) (fun h3=>by rw [h3];rfl)) (Ite.mk (fun h3=>?_) (fun h3=>?_))
   ·rw [hw.avoid,h3];exact XZ hav rfl
   ·simp only [Bool.or_eq_true,Bool.not_eq_true'] at h3
    rw [if_pos h3] at hp;exact hp
   ·simp only [Bool.or_eq_false_iff,Bool.not_eq_false'] at h3
    rw [if_neg (by rw [h3.1,h3.2];decide)] at hp
    rw [hw.tick,K8 (x:=tick+n) (by omega) (by omega)]
    refine ZG k h (Ite.mk (fun h4=>?_) (fun h4=>?_))
    ·simp only [Bool.not_eq_true'] at h4
     rw [if_pos h4] at hp;exact hp
    ·simp only [Bool.not_eq_false'] at h4
     rw [if_neg (by simp [h4])] at hp
     refine Jn.eq (Q1M taken q.cell (tick+n)||Q1M taken m.1 (tick+n)) (Q2L hw hl ht hn (Ite.mk (fun h5=>by rw [h5];rfl) (fun h5=>Q2L hw hl ht hn (by rw [h5];rfl)))) (Ite.mk (fun h5=>?_) (fun h5=>?_))
     ·simp only [Bool.or_eq_true] at h5
      rw [if_pos h5] at hp;exact hp
     ·simp only [Bool.or_eq_false_iff] at h5
      rw [if_neg (by simp [h5])] at hp
      refine WJ k h ?_
      have:=Q2O h m.1
      rw [K8 (by omega) (by omega)];exact hp
end
end Go.Taq
/- The mathematics, part F: whether a walk is good. -/
set_option linter.unusedVariables false
namespace Go.Taq
open Go
def YA (s:ApiSite) (a b tick:Int):Bool:=isC s.Floor a&&(kd s.Floor a != 0)&&(isC s.Floor b&&(kd s.Floor b != 0))&&(decide (0≤tick)&&decide (tick≤20000))
def Q0P (s:ApiSite) (c:Int):Bool:=!(isC s.Floor c&&(kd s.Floor c != 0))
theorem Q1e {s:ApiSite} (h:RF s.Floor) {a b tick:Int} {post:Bool→Prop} (hp:post (YA s a b tick)):Gs s a b tick post:=by
 unfold Gs
 have body:∀(x:Int) {k:Bool→Prop},k (Q0P s x)→Jn (fun (J8:Bool→Prop)=>Ite (decide (x<0)) (J8 true) (Ite (decide (x≥(s.Floor.Kind.length:Int))) (J8 true) (∃x11,idx s.Floor.Kind x=some x11∧J8 (x11 == 0)))) k:=fun x k hk=>by
  refine Jn.eq (Q0P s x) (Ite.mk (fun h1=>?_) (fun h1=>Ite.mk (fun h2=>?_) (fun h2=>?_))) hk
  ·simp at h1;unfold Q0P isC;simp;omega
  ·simp at h1 h2;unfold Q0P isC;simp;omega
  ·simp at h1 h2
   have hc:isC s.Floor x=true:=Xx.2 ⟨h1,h2⟩
   refine⟨_,Q0r hc,?_⟩
   unfold Q0P;rw [hc];cases e:(kd s.Floor x == 0) <;> simp [bne,e]
 refine Jn.mk (fun _=>Q0P s a=false∧Q0P s b=false) (Loop.find [a,b] (Q0P s) (fun i x hi hx hpx=>?_) (fun i x hi hx hpx hf=>?_) (fun hn hf=>?_)) (fun _ hw=>?_)
 ·refine Ite.t (by simp at hi ⊢;omega) ⟨x,Qo rfl hx,body x (Ite.f hpx ?_)⟩
  simp at hi
  rw [K8 (by omega) (by omega)];omega
 ·refine Ite.t (by simp at hi ⊢;omega) ⟨x,Qo rfl hx,body x (Ite.t hpx ?_)⟩
  have:YA s a b tick=false:=by
   have hx2:=List.mem_of_getElem? hx
   simp only [List.mem_cons,List.not_mem_nil,or_false] at hx2
   unfold Q0P at hpx
   unfold YA
   rcases hx2 with e | e <;> subst e <;> simp only [Bool.not_eq_true'] at hpx <;> rw [hpx] <;> simp
  rw [←this];exact hp
 ·refine Ite.f (by simp) ⟨hn a (by simp),hn b (by simp)⟩
 ·refine Q23 ?_
  have:(decide (tick≥0)&&decide (tick≤20000))=YA s a b tick:=by
   obtain⟨h1,h2⟩:=hw
   unfold Q0P at h1 h2
   simp only [Bool.not_eq_false'] at h1 h2
   unfold YA;rw [h1,h2];simp
  rw [this];exact hp
def Wd (a:Int):Bool:=decide (a<0)||decide (a≥7)
def runF (s:ApiSite) (taken:List ApiTaken) (avoid:List Int):Int→(Int×Int)→List Int→(Int×Int)×Int
 | _,q,[]=>(q,0)
 | t,q,a :: r=>if (YZ s taken avoid t q a).2=0 then runF s taken avoid (t+1) (YZ s taken avoid t q a).1 r else ((0,0),(YZ s taken avoid t q a).2)
def Q1U (s:ApiSite) (a b tick:Int) (taken:List ApiTaken) (avoid acts:List Int):Int:=
 if YA s a b tick=false∨acts.any Wd=true then 1
 else if (runF s taken avoid tick (a,0) acts).2≠0 then (runF s taken avoid tick (a,0) acts).2
 else if Q1M taken (runF s taken avoid tick (a,0) acts).1.1 (tick+acts.length)=true then 15
 else if (runF s taken avoid tick (a,0) acts).1.1≠b then 13 else 0
theorem Q3f {xs:List Int} (hl:xs.length≤maxLen) {post:Bool→Prop} (hp:post (xs.any Wd)):Qr xs post:=by
 unfold Qr QG
 simp only [maxLen] at hl
 rw [←Yl] at hp
 have step:∀(x:Int) {post:Bool→Prop},post (Wd x)→XJ x post:=fun x post hp=>by unfold XJ;exact Jor2 hp
 refine Jn.mk (fun _=>post (decide ((-1:Int)≥0))) (Loop.find xs Wd (fun i x hi hx hpx=>?_) (fun i x hi hx hpx hf=>?_) (fun hn hf=>?_)) (fun _ h=>h)
 ·refine Ite.t (by simp;omega) ⟨x,Qo rfl hx,step x (Ite.f hpx ?_)⟩
  rw [K8 (by omega) (by omega)];omega
 ·refine Ite.t (by simp;omega) ⟨x,Qo rfl hx,step x (Ite.t hpx ?_)⟩
  rw [fidx,hf] at hp;exact hp
 ·refine Ite.f (by simp) ?_
  rw [fidx,hf] at hp;exact hp
theorem Q1c {s:ApiSite} {a b tick:Int} {taken:List ApiTaken} {avoid acts:List Int} (k:OkApiSite s) (h:RS s) (hav:avoid.length≤maxLen) (hl:taken.length≤1099511627776) (hacts:acts.length≤1000000)
  {post:Int→Prop} (hp:post (Q1U s a b tick taken avoid acts)):Gr s a b tick taken avoid acts post:=by
 unfold Gr
 have hl':taken.length≤maxLen:=by simp [maxLen];omega
 refine Jn.eq (!YA s a b tick||acts.any Wd) (Q1e h.fl (Ite.mk (fun h1=>Q3f (by simp [maxLen];omega) (by rw [h1];rfl)) (fun h1=>by rw [h1];rfl))) (Ite.mk (fun h1=>?_) (fun h1=>?_))
 ·simp only [Bool.or_eq_true,Bool.not_eq_true'] at h1
  rw [Q1U,if_pos h1] at hp;exact hp
 ·simp only [Bool.or_eq_false_iff,Bool.not_eq_false'] at h1
  obtain⟨hr,hf⟩:=h1
  rw [Q1U,if_neg (by rw [hr,hf];decide)] at hp
  have hr':=hr
  simp only [YA,Bool.and_eq_true,decide_eq_true_eq] at hr'
  have ht:0≤tick∧tick≤20000:=hr'.2
  have hfa:∀x,x∈acts→0≤x∧x<7:=fun x hx=>by
   have:=List.any_eq_false.1 hf x hx
   simp [Wd] at this;omega
  refine Q3F hl (fun w hw=>?_)
  refine Jn.mk (fun q=>runF s taken avoid tick (a,0) acts=(q,0)∧isC s.Floor q.1=true) (Loop.mk (fun q:Int×Int×Int=>0≤q.2.2∧q.2.2≤acts.length∧isQ s (q.1,q.2.1)∧runF s taken avoid tick (a,0) acts=runF s taken avoid (tick+q.2.2) (q.1,q.2.1) (acts.drop q.2.2.toNat)) (fun q=>(acts.length-q.2.2).toNat)
   ⟨by simp,by simp,⟨hr'.1.1.1,by simp,by simp⟩,by simp⟩ ?_) ?_
  ·rintro⟨c,r,i⟩ ⟨h0,h1,hq,he⟩
   simp only at h0 h1 hq he
   obtain⟨n,rfl⟩:=Int.eq_ofNat_of_zero_le h0
   refine Ite.mk (fun hlt=>?_) (fun hge=>?_)
   ·simp only [decide_eq_true_eq] at hlt
    have hn:n<acts.length:=by omega
    have hx:acts[n]?=some (acts[n]'hn):=List.getElem?_eq_getElem hn
    generalize hxe:acts[n]'hn=x at hx
    have hd:acts.drop n=x :: acts.drop (n+1):=by rw [List.drop_eq_getElem_cons hn,hxe]
    have hxa:=hfa x (List.mem_of_getElem? hx)
    simp only [Int.toNat_natCast] at he
    rw [hd,runF] at he
    refine⟨x,Qo rfl hx,Q2n k h hav hw hl' ht hq ⟨by simp,by simp;omega⟩ (by omega) ?_⟩
    refine Ite.mk (fun h2=>?_) (fun h2=>?_)
    ·simp at h2
     rw [if_neg h2] at he
     rw [he] at hp
     simp only [ne_eq] at hp
     rw [if_pos h2] at hp;exact hp
    ·simp at h2
     rw [if_pos h2] at he
     have e2:w64 ((n:Int)+1)=((n+1:Nat):Int):=by rw [K8 (by omega) (by omega)];omega
     simp only []
     rw [e2]
     refine⟨⟨by omega,by omega,Q1H h hq h2,?_⟩,by omega⟩
     rw [he]
     simp only [Int.toNat_natCast]
     have e3:tick+(n:Int)+1=tick+((n+1:Nat):Int):=by omega
     rw [e3]
   ·simp only [decide_eq_false_iff_not] at hge
    have:n=acts.length:=by omega
    subst this
    refine⟨?_,hq.1⟩
    rw [he];simp [runF]
  ·rintro⟨c,r⟩ ⟨he,hc⟩
   rw [he] at hp
   simp only [ne_eq,not_true_eq_false,if_false] at hp
   refine Q2L hw hl' ht (by omega) (Ite.mk (fun h2=>?_) (fun h2=>?_))
   ·rw [if_pos h2] at hp;exact hp
   ·rw [if_neg (by simp [h2])] at hp
    refine Ite.mk (fun h3=>?_) (fun h3=>?_)
    ·simp at h3;rw [if_pos h3] at hp;exact hp
    ·simp at h3;rw [if_neg (by simp [h3])] at hp;exact hp
end Go.Taq
