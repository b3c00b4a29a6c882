/- The mathematics, several parts in one text. -/
import Derived.Test.YtlaehjhkcanffaaGreatLibX
import Derived.Test.YtlaehjhkcanffaaGreatVc
/- The mathematics, part A: loops, joins and tests over plain data. -/
set_option linter.unusedVariables false
namespace Go.Taq
open Go
theorem Q6 {x:Int} (h1:-9223372036854775808≤x) (h2:x≤9223372036854775807):w64 x=x:=by
 simp only [w64,IntKind.wrap,IntKind.signed,IntKind.bits]
 simp
 omega
theorem Q3F {α:Type} {xs:List α} {n:Nat}:idx xs (n:Int)=xs[n]?:=by simp [idx]
theorem Wl {α:Type} {xs:List α} {i:Int} (h0:0≤i) (h1:i<xs.length):idx xs i=some (xs[i.toNat]'(by omega)):=by
 simp only [idx,h0,if_true]
 exact List.getElem?_eq_getElem (by omega)
theorem Qe {α:Type} {xs:List α} {i:Int} {n:Nat} {x:α} (h:i=(n:Int)) (hx:xs[n]?=some x):idx xs i=some x:=by rw [h,Q3F];exact hx
theorem Jn.eq {σ:Type} {A:(σ→Prop)→Prop} {k:σ→Prop} (v:σ) (h:A (fun x=>x=v)) (hk:k v):Jn A k:=⟨fun x=>x=v,fun _ e=>e▸hk,h⟩
theorem Q4K {b:Bool} {A B:Prop}:Ite b A B=(if b=true then A else B):=by cases b <;> simp
theorem Ite.t {b:Bool} {A B:Prop} (h:b=true) (k:A):Ite b A B:=by subst h;simpa using k
theorem Ite.f {b:Bool} {A B:Prop} (h:b=false) (k:B):Ite b A B:=by subst h;simpa using k
theorem Jor2 {a1 a2:Bool} {k:Bool→Prop} (h:k (a1||a2)):Jn (fun J=>Ite a1 (J true) (J a2)) k:=⟨k,fun _ h=>h,by cases a1 <;> simpa using h⟩
theorem Q3j {a1 a2:Bool} {k:Bool→Prop} (h:k (a1&&a2)):Jn (fun J=>Ite a1 (J a2) (J false)) k:=⟨k,fun _ h=>h,by cases a1 <;> simpa using h⟩
theorem Jor3 {a1 a2 a3:Bool} {k:Bool→Prop} (h:k (a1||a2||a3)):Jn (fun J=>Ite a1 (J true) (Ite a2 (J true) (J a3))) k:=⟨k,fun _ h=>h,by cases a1 <;> cases a2 <;> simpa using h⟩
theorem Q52 {a1 a2 a3:Bool} {k:Bool→Prop} (h:k (a1&&a2&&a3)):Jn (fun J=>Ite a1 (Ite a2 (J a3) (J false)) (J false)) k:=⟨k,fun _ h=>h,by cases a1 <;> cases a2 <;> simpa using h⟩
theorem Jor4 {a1 a2 a3 a4:Bool} {k:Bool→Prop} (h:k (a1||a2||a3||a4)):Jn (fun J=>Ite a1 (J true) (Ite a2 (J true) (Ite a3 (J true) (J a4)))) k:=⟨k,fun _ h=>h,by cases a1 <;> cases a2 <;> cases a3 <;> simpa using h⟩
theorem Jor5 {a1 a2 a3 a4 a5:Bool} {k:Bool→Prop} (h:k (a1||a2||a3||a4||a5)):Jn (fun J=>Ite a1 (J true) (Ite a2 (J true) (Ite a3 (J true) (Ite a4 (J true) (J a5))))) k:=⟨k,fun _ h=>h,by cases a1 <;> cases a2 <;> cases a3 <;> cases a4 <;> simpa using h⟩
theorem Jor6 {a1 a2 a3 a4 a5 a6:Bool} {k:Bool→Prop} (h:k (a1||a2||a3||a4||a5||a6)):Jn (fun J=>Ite a1 (J true) (Ite a2 (J true) (Ite a3 (J true) (Ite a4 (J true) (Ite a5 (J true) (J a6)))))) k:=⟨k,fun _ h=>h,by cases a1 <;> cases a2 <;> cases a3 <;> cases a4 <;> cases a5 <;> simpa using h⟩
theorem Jn.or {a:Bool} {A:(Bool→Prop)→Prop} {k:Bool→Prop} (b:Bool) (hA:a=false→A (fun x=>x=b)) (hk:k (a||b)):Jn (fun J=>Ite a (J true) (A J)) k:=
 Jn.eq (a||b) (Ite.mk (fun h=>by simp [h]) (fun h=>by simpa [h] using hA h)) hk
theorem Jn.and {a:Bool} {A:(Bool→Prop)→Prop} {k:Bool→Prop} (b:Bool) (hA:a=true→A (fun x=>x=b)) (hk:k (a&&b)):Jn (fun J=>Ite a (A J) (J false)) k:=
 Jn.eq (a&&b) (Ite.mk (fun h=>by simpa [h] using hA h) (fun h=>by simp [h])) hk
theorem Loop.up {σ:Type} {body:σ→(σ→Prop)→Prop} (n:Nat) (st:Nat→σ) {s0:σ} (h0:s0=st 0) (hs:∀i,i<n→body (st i) (fun s=>s=st (i+1))) (he:body (st n) (fun _=>False)):Loop body s0:=by
 subst h0
 intro X hX
 have key:∀k i,i+k=n→X (st i):=by
  intro k
  induction k with
  | zero=>intro i hi;have:i=n:=by omega
          subst this;exact hX _ _ he (fun _ h=>h.elim)
  | succ k ih=>intro i hi;exact hX _ _ (hs i (by omega)) (fun s' e=>e▸ih (i+1) (by omega))
 exact key n 0 (by omega)
theorem Loop.find {α:Type} (xs:List α) (p:α→Bool) {body:Int→(Int→Prop)→Prop} (hs:∀(i:Nat) x,i<xs.length→xs[i]?=some x→p x=false→body (i:Int) (fun s=>s=((i+1:Nat):Int)))
  (hh:∀(i:Nat) x,i<xs.length→xs[i]?=some x→p x=true→xs.findIdx? p=some i→body (i:Int) (fun _=>False)) (he:(∀x,x∈xs→p x=false)→xs.findIdx? p=none→body (xs.length:Int) (fun _=>False)):Loop body 0:=by
 cases hf:xs.findIdx? p with
 | none=>
  have hn:∀x,x∈xs→p x=false:=by simpa [List.findIdx?_eq_none_iff] using hf
  refine Loop.up xs.length (fun i=>(i:Int)) rfl (fun i hi=>?_) (he hn hf)
  exact hs i _ hi (List.getElem?_eq_getElem hi) (hn _ (List.getElem_mem hi))
 | some m=>
  obtain⟨hm,hp,hlt⟩:=List.findIdx?_eq_some_iff_getElem.1 hf
  refine Loop.up m (fun i=>(i:Int)) rfl (fun i hi=>?_) ?_
  ·have:=hlt i hi
   exact hs i _ (by omega) (List.getElem?_eq_getElem (by omega)) (by simpa using this)
  ·exact hh m _ hm (List.getElem?_eq_getElem hm) hp hf
def fidx {α:Type} (p:α→Bool) (xs:List α):Int:=match xs.findIdx? p with | some i=>i | none=>-1
theorem Zm {α:Type} {p:α→Bool} {xs:List α}:decide (fidx p xs≥0)=xs.any p:=by
 unfold fidx
 cases hf:xs.findIdx? p with
 | none=>
  have hn:∀x,x∈xs→p x=false:=by simpa [List.findIdx?_eq_none_iff] using hf
  have:xs.any p=false:=by rw [List.any_eq_false];intro x hx;simp [hn x hx]
  simp [this]
 | some m=>
  obtain⟨hm,hp,_⟩:=List.findIdx?_eq_some_iff_getElem.1 hf
  have:xs.any p=true:=List.any_eq_true.2 ⟨_,List.getElem_mem hm,hp⟩
  simp [this]
theorem Q2I {α:Type} {p:α→Bool} {xs:List α}:-1≤fidx p xs∧fidx p xs<xs.length:=by
 unfold fidx
 cases hf:xs.findIdx? p with
 | none=>simp;omega
 | some m=>obtain⟨hm,_,_⟩:=List.findIdx?_eq_some_iff_getElem.1 hf;simp;omega
section
variable {κ α:Type} [DecidableEq κ]
theorem YG:∀(xs:List (κ×α)) (k:κ) (y:α) (j:κ),lk (upd xs k y) j=if k=j then some y else lk xs j
 | [],k,y,j=>by simp only [upd,lk]
 | p :: r,k,y,j=>by
  unfold upd
  by_cases h:p.1=k
  ·rw [if_pos h]
   simp only [lk]
   by_cases h2:k=j
   ·simp [h2]
   ·rw [if_neg h2,if_neg h2,if_neg (by rw [h];exact h2)]
  ·rw [if_neg h]
   simp only [lk,YG r k y j]
   by_cases h2:p.1=j
   ·rw [if_pos h2,if_pos h2,if_neg (fun e=>h (h2.trans e.symm))]
   ·rw [if_neg h2,if_neg h2]
end
section
variable {κ α:Type} [DecidableEq κ]
def left (xs:List (κ×α)) (seen:List κ):Nat:=(xs.filter fun p=>decide (p.1∉seen)).length
end
end Go.Taq
/- The mathematics, part B: right floors, and the cells beside a cell. -/
set_option linter.unusedVariables false
namespace Go.Taq
open Go
structure RF (f:ApiFloor):Prop where
 W1:1≤f.W
 H1:1≤f.H
 D1:1≤f.D
 D4:f.D≤4
 W4:f.W≤4096
 H4:f.H≤4096
 n4:f.W*f.H*f.D≤4096
 kl:(f.Kind.length:Int)=f.W*f.H*f.D
 ol:(f.Out.length:Int)=f.W*f.H*f.D
 ko:∀(i:Nat) x y,f.Kind[i]?=some x→f.Out[i]?=some y→0≤x∧x<7∧0≤y∧y≤63
theorem Q2L {a b p q:Int} (ha:0≤a) (hb:0≤b) (h1:a≤p) (h2:b≤q):0≤a*b∧a*b≤p*q:=
 ⟨Int.mul_nonneg ha hb,Int.mul_le_mul h1 h2 hb (by omega)⟩
theorem Q1T {f:ApiFloor} (w1:1≤f.W) (h1:1≤f.H) (d1:1≤f.D) (d4:f.D≤4) (w4:f.W≤4096) (h4:f.H≤4096):w64 ((w64 (f.W*f.H))*f.D)=f.W*f.H*f.D∧w64 (f.W*f.H)=f.W*f.H∧1≤f.W*f.H∧f.W*f.H≤16777216:=by
 have a:=Q2L (by omega:0≤f.W) (by omega:0≤f.H) w4 h4
 have b:=Q2L a.1 (by omega:0≤f.D) a.2 d4
 have c:1*1≤f.W*f.H:=Int.mul_le_mul w1 h1 (by omega) (by omega)
 rw [Q6 (x:=f.W*f.H) (by omega) (by omega),Q6 (x:=f.W*f.H*f.D) (by omega) (by omega)]
 exact⟨rfl,rfl,by omega,by omega⟩
theorem RF.size {f:ApiFloor} (h:RF f):w64 ((w64 (f.W*f.H))*f.D)=f.Kind.length:=by rw [(Q1T h.W1 h.H1 h.D1 h.D4 h.W4 h.H4).1,h.kl]
theorem RF.wh {f:ApiFloor} (h:RF f):w64 (f.W*f.H)=f.W*f.H∧1≤f.W*f.H∧f.W*f.H≤4096:=by
 have e:=Q1T h.W1 h.H1 h.D1 h.D4 h.W4 h.H4
 refine⟨e.2.1,e.2.2.1,?_⟩
 have:f.W*f.H*1≤f.W*f.H*f.D:=Int.mul_le_mul_of_nonneg_left h.D1 (by omega)
 have:=h.n4;omega
theorem RF.len {f:ApiFloor} (h:RF f):f.Kind.length≤4096∧f.Out.length=f.Kind.length:=by
 have:=h.kl;have:=h.ol;have:=h.n4;omega
theorem Q0P {f:ApiFloor} {post:Bool→Prop} (hF:post false) (hT:RF f→post true):Kx f post:=by
 unfold Kx
 refine Jor6 ?_
 refine Ite.mk (fun _=>hF) (fun h1=>?_)
 simp only [Bool.or_eq_false_iff,decide_eq_false_iff_not] at h1
 obtain⟨⟨⟨⟨⟨a1,a2⟩,a3⟩,a4⟩,a5⟩,a6⟩:=h1
 have e:=Q1T (f:=f) (by omega) (by omega) (by omega) (by omega) (by omega) (by omega)
 rw [e.1]
 refine Jor3 ?_
 refine Ite.mk (fun _=>hF) (fun h2=>?_)
 simp only [Bool.or_eq_false_iff,decide_eq_false_iff_not,bne_eq_false_iff_eq] at h2
 obtain⟨⟨b1,b2⟩,b3⟩:=h2
 rw [←b2]
 refine Jn.mk (fun _=>∀i:Nat,i<f.Kind.length→∀x y,f.Kind[i]?=some x→f.Out[i]?=some y→0≤x∧x<7∧0≤y∧y≤63)
  (Loop.mk (fun s:Int=>0≤s∧s≤f.Kind.length∧∀i:Nat,(i:Int)<s→∀x y,f.Kind[i]?=some x→f.Out[i]?=some y→0≤x∧x<7∧0≤y∧y≤63) (fun s=>(f.Kind.length-s).toNat) ⟨by omega,by omega,fun i hi=>by omega⟩ ?_) ?_
 ·rintro s ⟨h0,hn,hall⟩
  refine Ite.mk (fun hlt=>?_) (fun hge=>?_)
  ·simp only [decide_eq_true_eq] at hlt
   obtain⟨n,rfl⟩:=Int.eq_ofNat_of_zero_le h0
   have hk:f.Kind[n]?=some (f.Kind[n]'(by omega)):=List.getElem?_eq_getElem _
   have ho:f.Out[n]?=some (f.Out[n]'(by omega)):=List.getElem?_eq_getElem _
   refine Jn.eq (decide (f.Kind[n]'(by omega)<0)||decide (f.Kind[n]'(by omega)≥7)||decide (f.Out[n]'(by omega)<0)||decide (f.Out[n]'(by omega)>63)) ⟨_,Qe rfl hk,?_⟩ ?_
   ·refine Ite.mk (fun h=>by rw [h];rfl) (fun h=>Ite.mk (fun h'=>by rw [h,h'];rfl) (fun h'=>⟨_,Qe rfl ho,Ite.mk (fun h''=>by rw [h,h',h''];rfl) (fun h''=>by rw [h,h',h''];rfl)⟩))
   ·refine Ite.mk (fun _=>hF) (fun h3=>?_)
    simp only [Bool.or_eq_false_iff,decide_eq_false_iff_not] at h3
    rw [Q6 (by omega) (by omega)]
    refine⟨⟨by omega,by omega,fun i hi x y hx hy=>?_⟩,by omega⟩
    rcases Nat.lt_or_ge i n with hlt' | hge'
    ·exact hall i (by omega) x y hx hy
    ·have:i=n:=by omega
     subst this
     rw [hk] at hx;rw [ho] at hy
     cases hx;cases hy
     omega
  ·simp only [decide_eq_false_iff_not] at hge
   exact fun i hi=>hall i (by omega)
 ·exact fun _ h3=>hT ⟨by omega,by omega,by omega,by omega,by omega,by omega,by omega,b2,b3,fun i x y hx hy=>h3 i (List.getElem?_eq_some_iff.1 hx).1 x y hx hy⟩
def isC (f:ApiFloor) (c:Int):Bool:=decide (0≤c)&&decide (c<f.Kind.length)
theorem Q18 {f:ApiFloor} (h:RF f) {post:Int→Prop} (hp:post f.Kind.length):XN f post:=by
 unfold XN;rw [h.size];exact hp
theorem Q0j {f:ApiFloor} (h:RF f) {c:Int} {post:Bool→Prop} (hp:post (isC f c)):XX f c post:=by
 unfold XX
 refine Jn.eq (isC f c) (Ite.mk (fun h1=>Q18 h ?_) (fun h1=>?_)) hp
 ·simp at h1;simp [isC,h1]
 ·simp at h1;simp [isC];omega
def kd (f:ApiFloor) (c:Int):Int:=f.Kind.getD c.toNat 0
def ot (f:ApiFloor) (c:Int):Int:=f.Out.getD c.toNat 0
theorem Qp {f:ApiFloor} {c:Int}:isC f c=true↔0≤c∧c<f.Kind.length:=by simp [isC]
theorem Q34 {f:ApiFloor} {c:Int}:isC f c=false↔¬(0≤c∧c<f.Kind.length):=by rw [←Qp];simp
theorem Xl {f:ApiFloor} {c:Int} (h:isC f c=true):idx f.Kind c=some (kd f c):=by
 rw [Qp] at h
 rw [Wl h.1 h.2,kd,List.getD_eq_getElem?_getD,List.getElem?_eq_getElem (by omega)];rfl
theorem Q3C {f:ApiFloor} (hf:RF f) {c:Int} (h:isC f c=true):idx f.Out c=some (ot f c):=by
 rw [Qp] at h
 have:=hf.len.2
 rw [Wl h.1 (by omega),ot,List.getD_eq_getElem?_getD,List.getElem?_eq_getElem (by omega)];rfl
theorem Q36 {x y k:Int}:imin x y<k↔x<k∨y<k:=by unfold imin;split <;> omega
def Xr (f:ApiFloor) (x y z:Int):Int:=if 0≤x∧x<f.W∧0≤y∧y<f.H∧0≤z∧z<f.D then (z*f.H+y)*f.W+x else -1
theorem Q2k {f:ApiFloor} (h:RF f) {x y z:Int} (h1:0≤x∧x<f.W∧0≤y∧y<f.H∧0≤z∧z<f.D):
  0≤z*f.H∧z*f.H≤16384∧0≤(z*f.H+y)*f.W∧(z*f.H+y)*f.W+x<f.Kind.length:=by
 obtain⟨a1,a2,a3,a4,a5,a6⟩:=h1
 have w:=h.W4;have hh:=h.H4;have d:=h.D4
 have b:=Q2L a5 (by omega:0≤f.H) (by omega:z≤4) hh
 have e1:(z+1)*f.H≤f.D*f.H:=Int.mul_le_mul_of_nonneg_right (by omega) (by omega)
 have e2:(z+1)*f.H=z*f.H+f.H:=by rw [Int.add_mul];omega
 have e3:z*f.H+y+1≤f.D*f.H:=by omega
 have e4:(z*f.H+y+1)*f.W≤f.D*f.H*f.W:=Int.mul_le_mul_of_nonneg_right e3 (by omega)
 have e5:(z*f.H+y+1)*f.W=(z*f.H+y)*f.W+f.W:=by rw [Int.add_mul (z*f.H+y)];omega
 have e6:f.D*f.H*f.W=f.W*f.H*f.D:=by rw [Int.mul_comm f.D f.H,Int.mul_comm _ f.W,Int.mul_assoc f.W f.H f.D]
 have e7:0≤(z*f.H+y)*f.W:=Int.mul_nonneg (by omega) (by omega)
 have:=h.kl
 exact⟨b.1,by omega,e7,by omega⟩
theorem Q3l {f:ApiFloor} (h:RF f) (x y z:Int):Xr f x y z=-1∨isC f (Xr f x y z)=true:=by
 unfold Xr
 split
 ·rename_i h1
  have:=Q2k h h1
  exact .inr (Qp.2 (by omega))
 ·exact .inl rfl
theorem Q2N {f:ApiFloor} (h:RF f) {x y z:Int} (h1:0≤x∧x<f.W∧0≤y∧y<f.H∧0≤z∧z<f.D):w64 ((w64 ((w64 ((w64 (z*f.H))+y))*f.W))+x)=Xr f x y z:=by
 have:=Q2k h h1
 have:=h.len.1;have:=h.H4
 rw [Q6 (x:=z*f.H) (by omega) (by omega),Q6 (x:=z*f.H+y) (by omega) (by omega),Q6 (x:=(z*f.H+y)*f.W) (by omega) (by omega),Q6 (by omega) (by omega),Xr,if_pos h1]
def pX (f:ApiFloor) (c:Int):Int:=c % f.W
def pY (f:ApiFloor) (c:Int):Int:=c / f.W % f.H
def pZ (f:ApiFloor) (c:Int):Int:=c / f.W / f.H
theorem p_bd {f:ApiFloor} (h:RF f) {c:Int} (hc:isC f c=true):0≤pX f c∧pX f c<f.W∧0≤pY f c∧pY f c<f.H∧0≤pZ f c∧pZ f c<f.D:=by
 rw [Qp] at hc
 have w:=h.W1;have hh:=h.H1;have hd:=h.D1
 refine⟨Int.emod_nonneg _ (by omega),Int.emod_lt_of_pos _ (by omega),Int.emod_nonneg _ (by omega),Int.emod_lt_of_pos _ (by omega),Int.ediv_nonneg (Int.ediv_nonneg hc.1 (by omega)) (by omega),?_⟩
 unfold pZ
 refine Int.ediv_lt_of_lt_mul (by omega) (Int.ediv_lt_of_lt_mul (by omega) ?_)
 have:=h.kl
 have e6:f.D*f.H*f.W=f.W*f.H*f.D:=by rw [Int.mul_comm f.D f.H,Int.mul_comm _ f.W,Int.mul_assoc f.W f.H f.D]
 omega
def nbr (f:ApiFloor) (c d:Int):Int:=
 if isC f c=false then -1 else
 if d=0 then Xr f (pX f c+1) (pY f c) (pZ f c) else if d=1 then Xr f (pX f c) (pY f c+1) (pZ f c) else
 if d=2 then Xr f (pX f c-1) (pY f c) (pZ f c) else if d=3 then Xr f (pX f c) (pY f c-1) (pZ f c) else
 if d=4 then Xr f (pX f c) (pY f c) (pZ f c+1) else if d=5 then Xr f (pX f c) (pY f c) (pZ f c-1) else -1
theorem Q2C {f:ApiFloor} (h:RF f) (c d:Int):nbr f c d=-1∨isC f (nbr f c d)=true:=by
 unfold nbr
 repeat' split
 all_goals first | exact .inl rfl | exact Q3l h _ _ _
def nx (f:ApiFloor) (c d:Int):Int×Bool:=
 if nbr f c d<0∨kd f c=0∨kd f (nbr f c d)=0∨band .i64 (shrI .i64 (ot f c) d) 1=0 then (0,false)
 else if 4≤d∧(kd f c≠6∨kd f (nbr f c d)≠6) then (0,false) else (nbr f c d,true)
theorem WD {f:ApiFloor} (h:RF f) {c d:Int} (hn:(nx f c d).2=true):isC f c=true∧isC f (nx f c d).1=true∧0≤d∧d<6∧kd f (nx f c d).1≠0∧kd f c≠0:=by
 unfold nx at hn ⊢
 split at hn
 ·cases hn
 ·rename_i h1
  split at hn
  ·cases hn
  ·rename_i h2
   rw [if_neg h1,if_neg h2]
   simp only [not_or] at h1
   obtain⟨a1,a2,a3,a4⟩:=h1
   have hb:=Q2C h c d
   have hc:isC f c=true:=by
    cases hc:isC f c
    ·exact absurd (by rw [nbr,if_pos hc];omega) a1
    ·rfl
   have hd:0≤d∧d<6:=by
    unfold nbr at a1
    rw [if_neg (by simp [hc])] at a1
    repeat' split at a1
    all_goals omega
   exact⟨hc,by rcases hb with e | e;(exact absurd (by omega) a1);exact e,hd.1,hd.2,a3,a2⟩
theorem Q2t {f:ApiFloor} (h:RF f) {c:Int} (hc:isC f c=true) {post:(Int×Int×Int)→Prop} (hp:post (pX f c,pY f c,pZ f c)):Gy f c post:=by
 unfold Gy
 refine Q0j h ?_
 rw [hc]
 refine Ite.f rfl ?_
 rw [Qp] at hc
 have w:=h.W1;have hh:=h.H1;have hd:=h.D1;have wh:=h.wh;have hl:=h.len.1
 have e1:0≤c / f.W∧c / f.W≤c:=⟨Int.ediv_nonneg hc.1 (by omega),Int.ediv_le_self _ hc.1⟩
 have e2:0≤c / (f.W*f.H)∧c / (f.W*f.H)≤c:=⟨Int.ediv_nonneg hc.1 (by omega),Int.ediv_le_self _ hc.1⟩
 rw [wh.1]
 refine⟨by omega,by omega,by omega,by omega,?_⟩
 rw [Int.tmod_eq_emod_of_nonneg hc.1,Int.tdiv_eq_ediv_of_nonneg hc.1,Q6 (x:=c / f.W) (by omega) (by omega),Int.tmod_eq_emod_of_nonneg e1.1,Int.tdiv_eq_ediv_of_nonneg hc.1,Q6 (x:=c / (f.W*f.H)) (by omega) (by omega),←Int.ediv_ediv_of_nonneg (by omega:0≤f.W)]
 exact hp
theorem Q1j {f:ApiFloor} (h:RF f) {x y z:Int} {post:Int→Prop} (hp:post (Xr f x y z)):XL f x y z post:=by
 unfold XL
 refine Jor4 (Ite.mk (fun h1=>?_) (fun h1=>?_))
 ·have:Xr f x y z=-1:=by
   unfold Xr
   rw [if_neg]
   simp only [Bool.or_eq_true,decide_eq_true_eq,Q36] at h1
   omega
  rw [←this];exact hp
 ·have:0≤x∧x<f.W∧0≤y∧y<f.H∧0≤z∧z<f.D:=by
   simp only [Bool.or_eq_false_iff,decide_eq_false_iff_not,Q36] at h1
   omega
  rw [Q2N h this];exact hp
theorem Q00 {f:ApiFloor} (h:RF f) {c d:Int} {post:Int→Prop} (hp:post (nbr f c d)):Xj f c d post:=by
 unfold Xj
 refine Jn.eq (!isC f c||decide (d<0)||decide (d≥6)) (Q0j h ?_) (Ite.mk (fun h1=>?_) (fun h1=>?_))
 ·cases isC f c
  ·exact Ite.f rfl rfl
  ·exact Ite.t rfl (Ite.mk (fun h=>by rw [h];rfl) (fun h=>by rw [h];rfl))
 ·have:nbr f c d=-1:=by
   unfold nbr
   simp only [Bool.or_eq_true,Bool.not_eq_true',decide_eq_true_eq] at h1
   split
   ·rfl
   ·rename_i h2
    have h3:¬(0≤d∧d<6):=by
     rcases h1 with (h1 | h1) | h1
     ·exact absurd h1 h2
     ·omega
     ·omega
    rw [if_neg (by omega),if_neg (by omega),if_neg (by omega),if_neg (by omega),if_neg (by omega),if_neg (by omega)]
  rw [←this];exact hp
 ·simp only [Bool.or_eq_false_iff,Bool.not_eq_false',decide_eq_false_iff_not] at h1
  obtain⟨⟨hc,h2⟩,h3⟩:=h1
  refine Q2t h hc (post:=_) ?_
  unfold XT
  have hb:=p_bd h hc
  have w:=h.W4;have hh:=h.H4;have hd:=h.D4
  have hn:nbr f c d=(if d=0 then Xr f (pX f c+1) (pY f c) (pZ f c) else if d=1 then Xr f (pX f c) (pY f c+1) (pZ f c) else
    if d=2 then Xr f (pX f c-1) (pY f c) (pZ f c) else if d=3 then Xr f (pX f c) (pY f c-1) (pZ f c) else
    if d=4 then Xr f (pX f c) (pY f c) (pZ f c+1) else if d=5 then Xr f (pX f c) (pY f c) (pZ f c-1) else -1):=by
   unfold nbr;rw [if_neg (by simp [hc])]
  have hd6:d=0∨d=1∨d=2∨d=3∨d=4∨d=5:=by omega
  rcases hd6 with e | e | e | e | e | e <;> subst e <;> simp only [if_pos,Int.reduceEq,if_false] at hn <;> rw [hn] at hp <;>
   refine⟨_,rfl,Q1j h ?_⟩ <;> (try simp only []) <;> rw [Q6 (by omega) (by omega),Q6 (by omega) (by omega),Q6 (by omega) (by omega)] <;>
   first | exact hp | (simpa [Int.sub_eq_add_neg] using hp)
theorem Q1a {f:ApiFloor} (h:RF f) {c d:Int} {post:Int×Bool→Prop} (hp:post (nx f c d)):XK f c d post:=by
 unfold XK
 refine Q00 h ?_
 have hb:=Q2C h c d
 have hc:0≤nbr f c d→isC f c=true∧0≤d∧d<6:=fun a1=>by
  have hc:isC f c=true:=by
   cases hc:isC f c
   ·exact absurd (by rw [nbr,if_pos hc];omega) (Int.not_lt.2 a1)
   ·rfl
  refine⟨hc,?_⟩
  unfold nbr at a1
  rw [if_neg (by simp [hc])] at a1
  repeat' split at a1
  all_goals omega
 have hn:0≤nbr f c d→isC f (nbr f c d)=true:=fun a1=>by rcases hb with e | e;(exact absurd a1 (by omega));exact e
 refine Jn.eq (decide (nbr f c d<0∨kd f c=0∨kd f (nbr f c d)=0∨band .i64 (shrI .i64 (ot f c) d) 1=0)) (Ite.mk (fun h1=>?_) (fun h1=>?_)) (Ite.mk (fun h1=>?_) (fun h1=>?_))
 ·simp only [decide_eq_true_eq] at h1;simp [h1]
 ·simp only [decide_eq_false_iff_not,Int.not_lt] at h1
  obtain⟨hc,hd⟩:=hc h1
  refine⟨_,Xl hc,Ite.mk (fun h2=>?_) (fun h2=>⟨_,Xl (hn h1),Ite.mk (fun h3=>?_) (fun h3=>⟨_,Q3C h hc,hd.1,?_⟩)⟩)⟩
  ·simp at h2;simp [h2]
  ·simp at h3;simp [h3]
  ·simp at h2 h3;simp only [h2,h3,Int.not_lt.2 h1,false_or];rfl
 ·simp only [decide_eq_true_eq] at h1
  have:nx f c d=(0,false):=by unfold nx;rw [if_pos h1]
  rw [←this];exact hp
 ·simp only [decide_eq_false_iff_not] at h1
  have h0:0≤nbr f c d:=by simp only [not_or] at h1;omega
  obtain⟨hc,hd⟩:=hc h0
  have e:nx f c d=if 4≤d∧(kd f c≠6∨kd f (nbr f c d)≠6) then (0,false) else (nbr f c d,true):=by unfold nx;rw [if_neg h1]
  have lift:∀{J:Bool→Prop},J (decide (kd f c≠6∨kd f (nbr f c d)≠6))→∃x15,idx f.Kind c=some x15∧Ite (x15 != 6) (J true) (∃x17,idx f.Kind (nbr f c d)=some x17∧J (x17 != 6)):=fun {J} hJ=>by
   refine⟨_,Xl hc,Ite.mk (fun h2=>?_) (fun h2=>⟨_,Xl (hn h0),?_⟩)⟩
   ·simp at h2;simpa [h2] using hJ
   ·simp at h2
    have e:(kd f (nbr f c d) != 6)=decide (kd f c≠6∨kd f (nbr f c d)≠6):=by rw [h2];by_cases h3:kd f (nbr f c d)=6 <;> simp [h3]
    rw [e];exact hJ
  refine Jn.eq (decide (4≤d∧(kd f c≠6∨kd f (nbr f c d)≠6))) (Ite.mk (fun h2=>?_) (fun h2=>Ite.mk (fun h3=>?_) (fun h3=>?_))) (Ite.mk (fun h2=>?_) (fun h2=>?_))
  ·simp at h2;exact lift (J:=fun x=>x=decide (4≤d∧(kd f c≠6∨kd f (nbr f c d)≠6))) (by simp [h2])
  ·simp at h3;exact lift (J:=fun x=>x=decide (4≤d∧(kd f c≠6∨kd f (nbr f c d)≠6))) (by simp [h3])
  ·simp at h2 h3
   have:¬4≤d:=by omega
   simp [this]
  ·simp only [decide_eq_true_eq] at h2
   rw [e,if_pos h2] at hp;exact hp
  ·simp only [decide_eq_false_iff_not] at h2
   rw [e,if_neg h2] at hp;exact hp
end Go.Taq
/- The mathematics, part R0: more about loops and joins, and lists. -/
set_option linter.unusedVariables false
namespace Go.Taq
open Go
theorem Loop.inv {σ:Type} {body:σ→(σ→Prop)→Prop} {s0:σ} (n:Nat) (I:Nat→σ→Prop) (h0:I 0 s0) (hs:∀i s,i<n→I i s→body s (I (i+1))) (he:∀s,I n s→body s (fun _=>False)):Loop body s0:=by
 intro X hX
 have key:∀k i,i+k=n→∀s,I i s→X s:=by
  intro k
  induction k with
  | zero=>intro i hi s h;have:i=n:=by omega
          subst this;exact hX _ _ (he s h) (fun _ h=>h.elim)
  | succ k ih=>intro i hi s h;exact hX _ _ (hs i s (by omega) h) (fun s' e=>ih (i+1) (by omega) s' e)
 exact key n 0 (by omega) s0 h0
theorem Loop.upto {body:Int→(Int→Prop)→Prop} (n:Nat) (I:Nat→Prop) (h0:I 0) (hs:∀i:Nat,i<n→I i→∀Y:Int→Prop,(I (i+1)→Y ((i+1:Nat):Int))→body (i:Int) Y) (he:I n→body (n:Int) (fun _=>False)):Loop body 0:=
 Loop.inv n (fun i s=>s=(i:Int)∧I i) ⟨rfl,h0⟩ (fun i s hi h=>by obtain⟨rfl,h⟩:=h;exact hs i hi h _ (fun h'=>⟨rfl,h'⟩)) (fun s h=>by obtain⟨rfl,h⟩:=h;exact he h)
theorem Loop.each {α:Type} (xs:List α) {body:Int→(Int→Prop)→Prop} (hm:xs.length≤maxLen) (I:Nat→Prop) (h0:I 0)
  (hs:∀(i:Nat) (x:α),xs[i]?=some x→idx xs (i:Int)=some x→(i:Int)<xs.length→I i→∀Y:Int→Prop,(I (i+1)→Y (w64 ((i:Int)+1)))→body (i:Int) Y) (he:I xs.length→body (xs.length:Int) (fun _=>False)):Loop body 0:=
 Loop.upto xs.length I h0 (fun i hi h Y hY=>hs i _ (List.getElem?_eq_getElem hi) (Qe rfl (List.getElem?_eq_getElem hi)) (by omega) h Y (fun h'=>by
  have:=hY h'
  rw [Q6 (by omega) (by simp [maxLen] at hm;omega)]
  simpa using this)) he
theorem Jn.ex {σ α:Type} {P:α→Prop} {A:α→(σ→Prop)→Prop} {k:σ→Prop} (x:α) (hx:P x) (h:Jn (A x) k):Jn (fun J=>∃x,P x∧A x J) k:=by
 obtain⟨J,h1,h2⟩:=h
 exact⟨J,h1,x,hx,h2⟩
theorem GU {i n:Nat} (h:i<n) (hn:n≤maxLen):w64 ((i:Int)+1)=((i+1:Nat):Int):=by
 rw [Q6 (by omega) (by simp [maxLen] at hn;omega)];simp
theorem Ite.lt {i n:Int} {A B:Prop} (h:i<n) (k:A):Ite (decide (i<n)) A B:=Ite.t (by simpa using h) k
theorem Ite.nlt {i n:Int} {A B:Prop} (h:¬i<n) (k:B):Ite (decide (i<n)) A B:=Ite.f (by simpa using h) k
theorem Q2B {α:Type} {xs:List α} (hm:xs.length≤maxLen) (p:α→Bool) {T:α→(Bool→Prop)→Prop} (hT:∀x,x∈xs→∀{post:Bool→Prop},post (p x)→T x post) {A:Int→α→Prop} {B:Prop}
  (hA:∀(i:Nat) x,xs[i]?=some x→p x=true→xs.findIdx? p=some i→A (i:Int) x) (hB:(∀x,x∈xs→p x=false)→xs.findIdx? p=none→B):
  Jn (fun (J:Unit→Prop)=>Loop (fun (s:Int) Y=>Ite (decide (s<(xs.length:Int))) (∃x,idx xs s=some x∧T x (fun b=>Ite b (A s x) (Y (w64 (s+1))))) (J ())) 0) (fun _=>B):=by
 refine Jn.mk (fun _=>B) (Loop.find xs p (fun i x hi hx hp=>?_) (fun i x hi hx hp hf=>?_) (fun hn hf=>?_)) (fun _ h=>h)
 ·exact Ite.lt (by omega) ⟨x,Qe rfl hx,hT x (List.mem_of_getElem? hx) (Ite.f hp (GU hi hm))⟩
 ·exact Ite.lt (by omega) ⟨x,Qe rfl hx,hT x (List.mem_of_getElem? hx) (Ite.t hp (hA i x hx hp hf))⟩
 ·exact Ite.nlt (by omega) (hB hn hf)
theorem Q3t {α:Type} {p:α→Bool} {xs:List α} {i:Nat} (h:xs.findIdx? p=some i):xs.any p=true:=by
 obtain⟨hm,hp,_⟩:=List.findIdx?_eq_some_iff_getElem.1 h
 exact List.any_eq_true.2 ⟨_,List.getElem_mem hm,hp⟩
theorem Q3n {α:Type} {p:α→Bool} {xs:List α} (h:∀x,x∈xs→p x=false):xs.any p=false:=by
 rw [List.any_eq_false];intro x hx;simp [h x hx]
section
variable {α:Type} {xs:List α} (hm:xs.length≤maxLen)
include hm
theorem Q2Y (p:α→Bool) {T:α→(Bool→Prop)→Prop} (hT:∀x,x∈xs→∀{post:Bool→Prop},post (p x)→T x post) {post:Bool→Prop} (hp:post (xs.any p)):
  Jn (fun (J:Unit→Prop)=>Loop (fun (s:Int) Y=>Ite (decide (s<(xs.length:Int))) (∃x,idx xs s=some x∧T x (fun b=>Ite b (post true) (Y (w64 (s+1))))) (J ())) 0) (fun _=>post false):=
 Q2B hm p hT (A:=fun _ _=>post true) (fun i x _ _ hf=>by rw [←Q3t hf];exact hp) (fun hn _=>by rw [←Q3n hn];exact hp)
theorem Q1P (p:α→Bool) {T:α→(Bool→Prop)→Prop} (hT:∀x,x∈xs→∀{post:Bool→Prop},post (p x)→T x post) {post:Int→Prop} (hp:post (fidx p xs)):
  Jn (fun (J:Unit→Prop)=>Loop (fun (s:Int) Y=>Ite (decide (s<(xs.length:Int))) (∃x,idx xs s=some x∧T x (fun b=>Ite b (post s) (Y (w64 (s+1))))) (J ())) 0) (fun _=>post (-1)):=
 Q2B hm p hT (A:=fun s _=>post s) (fun i x _ _ hf=>by rw [fidx,hf] at hp;exact hp) (fun hn hf=>by rw [fidx,hf] at hp;exact hp)
theorem Q4w {p:α→Bool} {post:Bool→Prop} (hp:post (xs.any p)):
  Jn (fun (J:Unit→Prop)=>Loop (fun (s:Int) Y=>Ite (decide (s<(xs.length:Int))) (∃x,idx xs s=some x∧Ite (p x) (post true) (Y (w64 (s+1)))) (J ())) 0) (fun _=>post false):=
 Q2Y hm p (T:=fun x post=>post (p x)) (fun _ _ _ h=>h) hp
theorem Q3x {p:α→Bool} {post:Int→Prop} (hp:post (fidx p xs)):
  Jn (fun (J:Unit→Prop)=>Loop (fun (s:Int) Y=>Ite (decide (s<(xs.length:Int))) (∃x,idx xs s=some x∧Ite (p x) (post s) (Y (w64 (s+1)))) (J ())) 0) (fun _=>post (-1)):=
 Q1P hm p (T:=fun x post=>post (p x)) (fun _ _ _ h=>h) hp
end
theorem any_beq {xs:List Int} {v:Int}:xs.any (fun x=>x == v)=xs.contains v:=by
 rw [List.contains_eq_any_beq];congr 1;funext x;exact Bool.eq_iff_iff.2 ⟨fun h=>by simp at h ⊢;exact h.symm,fun h=>by simp at h ⊢;exact h.symm⟩
theorem Q3G {α:Type} (xs:List α) (hl:xs.length≤maxLen) {most:Int} {T:Int→(Bool→Prop)→Prop} (P:α→Prop) {E:Prop} {post:Bool→Prop} (hT:∀(i:Nat) x,idx xs (i:Int)=some x→∀{q:Bool→Prop},q true→(P x→q false)→T (i:Int) q) (hF:post false) (hE:(xs.length≤most→∀x,x∈xs→P x)→E):
  Jn (fun (J2:Unit→Prop)=>Loop (fun (s3:Int) Y4=>Jn (fun (J6:Bool→Prop)=>Ite (decide (s3<(xs.length:Int))) (J6 (decide (s3≤most))) (J6 false)) (fun (x5:Bool)=>Ite x5 (T s3 (fun b=>Ite b (post false) (Y4 (w64 (s3+1))))) (J2 ()))) 0) (fun _=>E):=by
 refine Jn.mk (fun _=>xs.length≤most→∀x,x∈xs→P x) (Loop.inv xs.length (fun i (t:Int)=>t=(i:Int)∧∀(j:Nat) x,j<i→xs[j]?=some x→P x) ⟨rfl,fun j x h=>by omega⟩ (fun i t hi h=>?_) (fun t h=>?_)) (fun _ h=>hE h)
 ·obtain⟨rfl,h⟩:=h
  refine Q3j (Ite.mk (fun h1=>?_) (fun h1 h2=>?_))
  ·have hx:xs[i]?=some (xs[i]'hi):=List.getElem?_eq_getElem hi
   refine hT i _ (Qe rfl hx) (Ite.t rfl hF) (fun hP=>Ite.f rfl ⟨GU hi hl,fun j x hj hxj=>?_⟩)
   by_cases e:j=i
   ·subst e;rw [hx] at hxj;cases hxj;exact hP
   ·exact h j x (by omega) hxj
  ·simp at h1;omega
 ·obtain⟨rfl,h⟩:=h
  refine Q3j (Ite.f (by simp) (fun _ x hx=>?_))
  obtain⟨j,hj⟩:=List.getElem?_of_mem hx
  exact h j x (List.getElem?_eq_some_iff.1 hj).1 hj
theorem sub0 {α:Type} {xs:List α} {i:Nat}:sub xs 0 (i:Int)=xs.take i:=by simp [sub]
end Go.Taq
