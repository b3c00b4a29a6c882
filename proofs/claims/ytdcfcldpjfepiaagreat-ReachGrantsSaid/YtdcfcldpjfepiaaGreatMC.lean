/- The mathematics, several parts in one text. -/
import Derived.Test.YtdcfcldpjfepiaaGreatLibX
import Derived.Test.YtdcfcldpjfepiaaGreatVc
/- The mathematics, part A: loops, joins and tests over plain data. -/
set_option linter.unusedVariables false
namespace Go.Taq
open Go
theorem QH {x:Int} (h1:-9223372036854775808≤x) (h2:x≤9223372036854775807):w64 x=x:=by
 simp only [w64,IntKind.wrap,IntKind.signed,IntKind.bits]
 simp
 omega
theorem Q4X {α:Type} {xs:List α} {n:Nat}:idx xs (n:Int)=xs[n]?:=by simp [idx]
theorem YZ {α:Type} {xs:List α} {i:Int} (h0:0≤i) (h1:i<xs.length):idx xs i=some (xs[i.toNat]'(by omega)):=by
 simp only [idx,h0,if_true]
 exact List.getElem?_eq_getElem (by omega)
theorem QG {α:Type} {xs:List α} {i:Int} {n:Nat} {x:α} (h:i=(n:Int)) (hx:xs[n]?=some x):idx xs i=some x:=by rw [h,Q4X];exact hx
theorem Jn.eq {σ:Type} {A:(σ→Prop)→Prop} {k:σ→Prop} (v:σ) (h:A (fun x=>x=v)) (hk:k v):Jn A k:=⟨fun x=>x=v,fun _ e=>e▸hk,h⟩
theorem Q5h {b:Bool} {A B:Prop}:Ite b A B=(if b=true then A else B):=by cases b <;> simp
theorem Ite.t {b:Bool} {A B:Prop} (h:b=true) (k:A):Ite b A B:=by subst h;simpa using k
theorem Ite.f {b:Bool} {A B:Prop} (h:b=false) (k:B):Ite b A B:=by subst h;simpa using k
theorem Jor2 {a1 a2:Bool} {k:Bool→Prop} (h:k (a1||a2)):Jn (fun J=>Ite a1 (J true) (J a2)) k:=⟨k,fun _ h=>h,by cases a1 <;> simpa using h⟩
theorem Zx {a1 a2:Bool} {k:Bool→Prop} (h:k (a1&&a2)):Jn (fun J=>Ite a1 (J a2) (J false)) k:=⟨k,fun _ h=>h,by cases a1 <;> simpa using h⟩
theorem Jor3 {a1 a2 a3:Bool} {k:Bool→Prop} (h:k (a1||a2||a3)):Jn (fun J=>Ite a1 (J true) (Ite a2 (J true) (J a3))) k:=⟨k,fun _ h=>h,by cases a1 <;> cases a2 <;> simpa using h⟩
theorem Q6c {a1 a2 a3:Bool} {k:Bool→Prop} (h:k (a1&&a2&&a3)):Jn (fun J=>Ite a1 (Ite a2 (J a3) (J false)) (J false)) k:=⟨k,fun _ h=>h,by cases a1 <;> cases a2 <;> simpa using h⟩
theorem Jor4 {a1 a2 a3 a4:Bool} {k:Bool→Prop} (h:k (a1||a2||a3||a4)):Jn (fun J=>Ite a1 (J true) (Ite a2 (J true) (Ite a3 (J true) (J a4)))) k:=⟨k,fun _ h=>h,by cases a1 <;> cases a2 <;> cases a3 <;> simpa using h⟩
theorem Jor5 {a1 a2 a3 a4 a5:Bool} {k:Bool→Prop} (h:k (a1||a2||a3||a4||a5)):Jn (fun J=>Ite a1 (J true) (Ite a2 (J true) (Ite a3 (J true) (Ite a4 (J true) (J a5))))) k:=⟨k,fun _ h=>h,by cases a1 <;> cases a2 <;> cases a3 <;> cases a4 <;> simpa using h⟩
theorem Jn.or {a:Bool} {A:(Bool→Prop)→Prop} {k:Bool→Prop} (b:Bool) (hA:a=false→A (fun x=>x=b)) (hk:k (a||b)):Jn (fun J=>Ite a (J true) (A J)) k:=
 Jn.eq (a||b) (Ite.mk (fun h=>by simp [h]) (fun h=>by simpa [h] using hA h)) hk
theorem Jn.and {a:Bool} {A:(Bool→Prop)→Prop} {k:Bool→Prop} (b:Bool) (hA:a=true→A (fun x=>x=b)) (hk:k (a&&b)):Jn (fun J=>Ite a (A J) (J false)) k:=
 Jn.eq (a&&b) (Ite.mk (fun h=>by simpa [h] using hA h) (fun h=>by simp [h])) hk
theorem Loop.up {σ:Type} {body:σ→(σ→Prop)→Prop} (n:Nat) (st:Nat→σ) {s0:σ} (h0:s0=st 0) (hs:∀i,i<n→body (st i) (fun s=>s=st (i+1))) (he:body (st n) (fun _=>False)):Loop body s0:=by
 subst h0
 intro X hX
 have key:∀k i,i+k=n→X (st i):=by
  intro k
  induction k with
  | zero=>intro i hi;have:i=n:=by omega
          subst this;exact hX _ _ he (fun _ h=>h.elim)
  | succ k ih=>intro i hi;exact hX _ _ (hs i (by omega)) (fun s' e=>e▸ih (i+1) (by omega))
 exact key n 0 (by omega)
theorem Loop.find {α:Type} (xs:List α) (p:α→Bool) {body:Int→(Int→Prop)→Prop} (hs:∀(i:Nat) x,i<xs.length→xs[i]?=some x→p x=false→body (i:Int) (fun s=>s=((i+1:Nat):Int)))
  (hh:∀(i:Nat) x,i<xs.length→xs[i]?=some x→p x=true→xs.findIdx? p=some i→body (i:Int) (fun _=>False)) (he:(∀x,x∈xs→p x=false)→xs.findIdx? p=none→body (xs.length:Int) (fun _=>False)):Loop body 0:=by
 cases hf:xs.findIdx? p with
 | none=>
  have hn:∀x,x∈xs→p x=false:=by simpa [List.findIdx?_eq_none_iff] using hf
  refine Loop.up xs.length (fun i=>(i:Int)) rfl (fun i hi=>?_) (he hn hf)
  exact hs i _ hi (List.getElem?_eq_getElem hi) (hn _ (List.getElem_mem hi))
 | some m=>
  obtain⟨hm,hp,hlt⟩:=List.findIdx?_eq_some_iff_getElem.1 hf
  refine Loop.up m (fun i=>(i:Int)) rfl (fun i hi=>?_) ?_
  ·have:=hlt i hi
   exact hs i _ (by omega) (List.getElem?_eq_getElem (by omega)) (by simpa using this)
  ·exact hh m _ hm (List.getElem?_eq_getElem hm) hp hf
def fidx {α:Type} (p:α→Bool) (xs:List α):Int:=match xs.findIdx? p with | some i=>i | none=>-1
theorem YK {α:Type} {p:α→Bool} {xs:List α}:decide (fidx p xs≥0)=xs.any p:=by
 unfold fidx
 cases hf:xs.findIdx? p with
 | none=>
  have hn:∀x,x∈xs→p x=false:=by simpa [List.findIdx?_eq_none_iff] using hf
  have:xs.any p=false:=by rw [List.any_eq_false];intro x hx;simp [hn x hx]
  simp [this]
 | some m=>
  obtain⟨hm,hp,_⟩:=List.findIdx?_eq_some_iff_getElem.1 hf
  have:xs.any p=true:=List.any_eq_true.2 ⟨_,List.getElem_mem hm,hp⟩
  simp [this]
theorem Q4R {α:Type} {p:α→Bool} {xs:List α}:-1≤fidx p xs∧fidx p xs<xs.length:=by
 unfold fidx
 cases hf:xs.findIdx? p with
 | none=>simp;omega
 | some m=>obtain⟨hm,_,_⟩:=List.findIdx?_eq_some_iff_getElem.1 hf;simp;omega
section
variable {κ α:Type} [DecidableEq κ]
theorem Gu:∀(xs:List (κ×α)) (k:κ) (y:α) (j:κ),lk (upd xs k y) j=if k=j then some y else lk xs j
 | [],k,y,j=>by simp only [upd,lk]
 | p :: r,k,y,j=>by
  unfold upd
  by_cases h:p.1=k
  ·rw [if_pos h]
   simp only [lk]
   by_cases h2:k=j
   ·simp [h2]
   ·rw [if_neg h2,if_neg h2,if_neg (by rw [h];exact h2)]
  ·rw [if_neg h]
   simp only [lk,Gu r k y j]
   by_cases h2:p.1=j
   ·rw [if_pos h2,if_pos h2,if_neg (fun e=>h (h2.trans e.symm))]
   ·rw [if_neg h2,if_neg h2]
end
section
variable {κ α:Type} [DecidableEq κ]
def left (xs:List (κ×α)) (seen:List κ):Nat:=(xs.filter fun p=>decide (p.1∉seen)).length
theorem Q3j (xs:List (κ×α)) (x:κ) (seen:List κ):left xs (x :: seen)≤left xs seen:=by
 induction xs with
 | nil=>simp [left]
 | cons p r ih=>
  unfold left at ih ⊢
  by_cases h1:p.1∉x :: seen
  ·have h2:p.1∉seen:=fun e=>h1 (List.mem_cons_of_mem _ e)
   rw [List.filter_cons_of_pos (by simpa using h1),List.filter_cons_of_pos (by simpa using h2)]
   simp only [List.length_cons];omega
  ·rw [List.filter_cons_of_neg (by simpa using h1)]
   by_cases h2:p.1∉seen
   ·rw [List.filter_cons_of_pos (by simpa using h2)];simp only [List.length_cons];omega
   ·rw [List.filter_cons_of_neg (by simpa using h2)];exact ih
theorem Q36:∀(xs:List (κ×α)) {x:κ} {v:α} {seen:List κ},lk xs x=some v→x∉seen→left xs (x :: seen)<left xs seen
 | [],x,v,seen,h,_=>by simp [lk] at h
 | p :: r,x,v,seen,h,hn=>by
  unfold lk at h
  by_cases h1:p.1=x
  ·subst h1
   have:=Q3j r p.1 seen
   unfold left at this ⊢
   rw [List.filter_cons_of_neg (by simp),List.filter_cons_of_pos (by simpa using hn)]
   simp only [List.length_cons];omega
  ·rw [if_neg h1] at h
   have ih:=Q36 r h hn
   unfold left at ih ⊢
   by_cases h2:p.1∈seen
   ·rw [List.filter_cons_of_neg (by simp [h2]),List.filter_cons_of_neg (by simp [h2])];exact ih
   ·rw [List.filter_cons_of_pos (by simp [h2,h1]),List.filter_cons_of_pos (by simp [h2])]
    simp only [List.length_cons];omega
end
end Go.Taq
/- The mathematics, part R0: more about loops and joins, and lists. -/
set_option linter.unusedVariables false
namespace Go.Taq
open Go
theorem Loop.inv {σ:Type} {body:σ→(σ→Prop)→Prop} {s0:σ} (n:Nat) (I:Nat→σ→Prop) (h0:I 0 s0) (hs:∀i s,i<n→I i s→body s (I (i+1))) (he:∀s,I n s→body s (fun _=>False)):Loop body s0:=by
 intro X hX
 have key:∀k i,i+k=n→∀s,I i s→X s:=by
  intro k
  induction k with
  | zero=>intro i hi s h;have:i=n:=by omega
          subst this;exact hX _ _ (he s h) (fun _ h=>h.elim)
  | succ k ih=>intro i hi s h;exact hX _ _ (hs i s (by omega) h) (fun s' e=>ih (i+1) (by omega) s' e)
 exact key n 0 (by omega) s0 h0
theorem Jn.ex {σ α:Type} {P:α→Prop} {A:α→(σ→Prop)→Prop} {k:σ→Prop} (x:α) (hx:P x) (h:Jn (A x) k):Jn (fun J=>∃x,P x∧A x J) k:=by
 obtain⟨J,h1,h2⟩:=h
 exact⟨J,h1,x,hx,h2⟩
theorem ZE {i n:Nat} (h:i<n) (hn:n≤maxLen):w64 ((i:Int)+1)=((i+1:Nat):Int):=by
 rw [QH (by omega) (by simp [maxLen] at hn;omega)];simp
theorem Ite.lt {i n:Int} {A B:Prop} (h:i<n) (k:A):Ite (decide (i<n)) A B:=Ite.t (by simpa using h) k
theorem Ite.nlt {i n:Int} {A B:Prop} (h:¬i<n) (k:B):Ite (decide (i<n)) A B:=Ite.f (by simpa using h) k
theorem Ite.of {b:Bool} {A B:Prop} (h:if b=true then A else B):Ite b A B:=by rw [Q5h];exact h
theorem Q35 {α:Type} {xs:List α} (hm:xs.length≤maxLen) (p:α→Bool) {T:α→(Bool→Prop)→Prop} (hT:∀x,x∈xs→∀{post:Bool→Prop},post (p x)→T x post) {A:Int→α→Prop} {B:Prop}
  (hA:∀(i:Nat) x,xs[i]?=some x→p x=true→xs.findIdx? p=some i→A (i:Int) x) (hB:(∀x,x∈xs→p x=false)→xs.findIdx? p=none→B):
  Jn (fun (J:Unit→Prop)=>Loop (fun (s:Int) Y=>Ite (decide (s<(xs.length:Int))) (∃x,idx xs s=some x∧T x (fun b=>Ite b (A s x) (Y (w64 (s+1))))) (J ())) 0) (fun _=>B):=by
 refine Jn.mk (fun _=>B) (Loop.find xs p (fun i x hi hx hp=>?_) (fun i x hi hx hp hf=>?_) (fun hn hf=>?_)) (fun _ h=>h)
 ·exact Ite.lt (by omega) ⟨x,QG rfl hx,hT x (List.mem_of_getElem? hx) (Ite.f hp (ZE hi hm))⟩
 ·exact Ite.lt (by omega) ⟨x,QG rfl hx,hT x (List.mem_of_getElem? hx) (Ite.t hp (hA i x hx hp hf))⟩
 ·exact Ite.nlt (by omega) (hB hn hf)
theorem Q3P {α:Type} {p:α→Bool} {xs:List α} {i:Nat} (h:xs.findIdx? p=some i):xs.any p=true:=by
 obtain⟨hm,hp,_⟩:=List.findIdx?_eq_some_iff_getElem.1 h
 exact List.any_eq_true.2 ⟨_,List.getElem_mem hm,hp⟩
theorem Q3Y {α:Type} {p:α→Bool} {xs:List α} (h:∀x,x∈xs→p x=false):xs.any p=false:=by
 rw [List.any_eq_false];intro x hx;simp [h x hx]
section
variable {α:Type} {xs:List α} (hm:xs.length≤maxLen)
include hm
theorem Q4c (p:α→Bool) {T:α→(Bool→Prop)→Prop} (hT:∀x,x∈xs→∀{post:Bool→Prop},post (p x)→T x post) {post:Bool→Prop} (hp:post (xs.any p)):
  Jn (fun (J:Unit→Prop)=>Loop (fun (s:Int) Y=>Ite (decide (s<(xs.length:Int))) (∃x,idx xs s=some x∧T x (fun b=>Ite b (post true) (Y (w64 (s+1))))) (J ())) 0) (fun _=>post false):=
 Q35 hm p hT (A:=fun _ _=>post true) (fun i x _ _ hf=>by rw [←Q3P hf];exact hp) (fun hn _=>by rw [←Q3Y hn];exact hp)
theorem Q00 (p:α→Bool) {T:α→(Bool→Prop)→Prop} (hT:∀x,x∈xs→∀{post:Bool→Prop},post (p x)→T x post) {post:Int→Prop} (hp:post (fidx p xs)):
  Jn (fun (J:Unit→Prop)=>Loop (fun (s:Int) Y=>Ite (decide (s<(xs.length:Int))) (∃x,idx xs s=some x∧T x (fun b=>Ite b (post s) (Y (w64 (s+1))))) (J ())) 0) (fun _=>post (-1)):=
 Q35 hm p hT (A:=fun s _=>post s) (fun i x _ _ hf=>by rw [fidx,hf] at hp;exact hp) (fun hn hf=>by rw [fidx,hf] at hp;exact hp)
theorem Q6G {p:α→Bool} {post:Bool→Prop} (hp:post (xs.any p)):
  Jn (fun (J:Unit→Prop)=>Loop (fun (s:Int) Y=>Ite (decide (s<(xs.length:Int))) (∃x,idx xs s=some x∧Ite (p x) (post true) (Y (w64 (s+1)))) (J ())) 0) (fun _=>post false):=
 Q4c hm p (T:=fun x post=>post (p x)) (fun _ _ _ h=>h) hp
theorem Q5U {p:α→Bool} {post:Int→Prop} (hp:post (fidx p xs)):
  Jn (fun (J:Unit→Prop)=>Loop (fun (s:Int) Y=>Ite (decide (s<(xs.length:Int))) (∃x,idx xs s=some x∧Ite (p x) (post s) (Y (w64 (s+1)))) (J ())) 0) (fun _=>post (-1)):=
 Q00 hm p (T:=fun x post=>post (p x)) (fun _ _ _ h=>h) hp
end
theorem Q4s {α:Type} (xs:List α) (hl:xs.length≤maxLen) {most:Int} {T:Int→(Bool→Prop)→Prop} (P:α→Prop) {E:Prop} {post:Bool→Prop} (hT:∀(i:Nat) x,idx xs (i:Int)=some x→∀{q:Bool→Prop},q true→(P x→q false)→T (i:Int) q) (hF:post false) (hE:(xs.length≤most→∀x,x∈xs→P x)→E):
  Jn (fun (J2:Unit→Prop)=>Loop (fun (s3:Int) Y4=>Jn (fun (J6:Bool→Prop)=>Ite (decide (s3<(xs.length:Int))) (J6 (decide (s3≤most))) (J6 false)) (fun (x5:Bool)=>Ite x5 (T s3 (fun b=>Ite b (post false) (Y4 (w64 (s3+1))))) (J2 ()))) 0) (fun _=>E):=by
 refine Jn.mk (fun _=>xs.length≤most→∀x,x∈xs→P x) (Loop.inv xs.length (fun i (t:Int)=>t=(i:Int)∧∀(j:Nat) x,j<i→xs[j]?=some x→P x) ⟨rfl,fun j x h=>by omega⟩ (fun i t hi h=>?_) (fun t h=>?_)) (fun _ h=>hE h)
 ·obtain⟨rfl,h⟩:=h
  refine Zx (Ite.mk (fun h1=>?_) (fun h1 h2=>?_))
  ·have hx:xs[i]?=some (xs[i]'hi):=List.getElem?_eq_getElem hi
   refine hT i _ (QG rfl hx) (Ite.t rfl hF) (fun hP=>Ite.f rfl ⟨ZE hi hl,fun j x hj hxj=>?_⟩)
   by_cases e:j=i
   ·subst e;rw [hx] at hxj;cases hxj;exact hP
   ·exact h j x (by omega) hxj
  ·simp at h1;omega
 ·obtain⟨rfl,h⟩:=h
  refine Zx (Ite.f (by simp) (fun _ x hx=>?_))
  obtain⟨j,hj⟩:=List.getElem?_of_mem hx
  exact h j x (List.getElem?_eq_some_iff.1 hj).1 hj
theorem Zm {x y:ByteArray}:seq x y=true↔x=y:=by
 unfold seq
 rw [beq_iff_eq]
 constructor
 ·intro h
  have:x.data.toList=y.data.toList:=by simpa [ByteArray.toList_eq] using h
  cases x;cases y;simp_all
 ·rintro rfl;rfl
end Go.Taq
/- The mathematics, part B: right floors, and the cells beside a cell. -/
set_option linter.unusedVariables false
namespace Go.Taq
open Go
structure RF (f:ApiFloor):Prop where
 W1:1≤f.W
 H1:1≤f.H
 D1:1≤f.D
 D4:f.D≤4
 W4:f.W≤4096
 H4:f.H≤4096
 n4:f.W*f.H*f.D≤4096
 kl:(f.Kind.length:Int)=f.W*f.H*f.D
 ol:(f.Out.length:Int)=f.W*f.H*f.D
 ko:∀(i:Nat) x y,f.Kind[i]?=some x→f.Out[i]?=some y→0≤x∧x<7∧0≤y∧y≤63
theorem Q3l {a b p q:Int} (ha:0≤a) (hb:0≤b) (h1:a≤p) (h2:b≤q):0≤a*b∧a*b≤p*q:=
 ⟨Int.mul_nonneg ha hb,Int.mul_le_mul h1 h2 hb (by omega)⟩
theorem Q25 {f:ApiFloor} (w1:1≤f.W) (h1:1≤f.H) (d1:1≤f.D) (d4:f.D≤4) (w4:f.W≤4096) (h4:f.H≤4096):w64 ((w64 (f.W*f.H))*f.D)=f.W*f.H*f.D∧w64 (f.W*f.H)=f.W*f.H∧1≤f.W*f.H∧f.W*f.H≤16777216:=by
 have a:=Q3l (by omega:0≤f.W) (by omega:0≤f.H) w4 h4
 have b:=Q3l a.1 (by omega:0≤f.D) a.2 d4
 have c:1*1≤f.W*f.H:=Int.mul_le_mul w1 h1 (by omega) (by omega)
 rw [QH (x:=f.W*f.H) (by omega) (by omega),QH (x:=f.W*f.H*f.D) (by omega) (by omega)]
 exact⟨rfl,rfl,by omega,by omega⟩
theorem RF.size {f:ApiFloor} (h:RF f):w64 ((w64 (f.W*f.H))*f.D)=f.Kind.length:=by rw [(Q25 h.W1 h.H1 h.D1 h.D4 h.W4 h.H4).1,h.kl]
theorem RF.wh {f:ApiFloor} (h:RF f):w64 (f.W*f.H)=f.W*f.H∧1≤f.W*f.H∧f.W*f.H≤4096:=by
 have e:=Q25 h.W1 h.H1 h.D1 h.D4 h.W4 h.H4
 refine⟨e.2.1,e.2.2.1,?_⟩
 have:f.W*f.H*1≤f.W*f.H*f.D:=Int.mul_le_mul_of_nonneg_left h.D1 (by omega)
 have:=h.n4;omega
theorem RF.len {f:ApiFloor} (h:RF f):f.Kind.length≤4096∧f.Out.length=f.Kind.length:=by
 have:=h.kl;have:=h.ol;have:=h.n4;omega
def isC (f:ApiFloor) (c:Int):Bool:=decide (0≤c)&&decide (c<f.Kind.length)
theorem Q1z {f:ApiFloor} (h:RF f) {post:Int→Prop} (hp:post f.Kind.length):Xg f post:=by
 unfold Xg;rw [h.size];exact hp
theorem Zh {f:ApiFloor} (h:RF f) {c:Int} {post:Bool→Prop} (hp:post (isC f c)):XO f c post:=by
 unfold XO
 refine Jn.eq (isC f c) (Ite.mk (fun h1=>Q1z h ?_) (fun h1=>?_)) hp
 ·simp at h1;simp [isC,h1]
 ·simp at h1;simp [isC];omega
def kd (f:ApiFloor) (c:Int):Int:=f.Kind.getD c.toNat 0
def ot (f:ApiFloor) (c:Int):Int:=f.Out.getD c.toNat 0
theorem K0 {f:ApiFloor} {c:Int}:isC f c=true↔0≤c∧c<f.Kind.length:=by simp [isC]
theorem Q1U {f:ApiFloor} {c:Int}:isC f c=false↔¬(0≤c∧c<f.Kind.length):=by rw [←K0];simp
theorem Wp {f:ApiFloor} {c:Int} (h:isC f c=true):idx f.Kind c=some (kd f c):=by
 rw [K0] at h
 rw [YZ h.1 h.2,kd,List.getD_eq_getElem?_getD,List.getElem?_eq_getElem (by omega)];rfl
theorem Q5I {f:ApiFloor} (hf:RF f) {c:Int} (h:isC f c=true):idx f.Out c=some (ot f c):=by
 rw [K0] at h
 have:=hf.len.2
 rw [YZ h.1 (by omega),ot,List.getD_eq_getElem?_getD,List.getElem?_eq_getElem (by omega)];rfl
theorem Q1W {x y k:Int}:imin x y<k↔x<k∨y<k:=by unfold imin;split <;> omega
def G9 (f:ApiFloor) (x y z:Int):Int:=if 0≤x∧x<f.W∧0≤y∧y<f.H∧0≤z∧z<f.D then (z*f.H+y)*f.W+x else -1
theorem Q2g {f:ApiFloor} (h:RF f) {x y z:Int} (h1:0≤x∧x<f.W∧0≤y∧y<f.H∧0≤z∧z<f.D):
  0≤z*f.H∧z*f.H≤16384∧0≤(z*f.H+y)*f.W∧(z*f.H+y)*f.W+x<f.Kind.length:=by
 obtain⟨a1,a2,a3,a4,a5,a6⟩:=h1
 have w:=h.W4;have hh:=h.H4;have d:=h.D4
 have b:=Q3l a5 (by omega:0≤f.H) (by omega:z≤4) hh
 have e1:(z+1)*f.H≤f.D*f.H:=Int.mul_le_mul_of_nonneg_right (by omega) (by omega)
 have e2:(z+1)*f.H=z*f.H+f.H:=by rw [Int.add_mul];omega
 have e3:z*f.H+y+1≤f.D*f.H:=by omega
 have e4:(z*f.H+y+1)*f.W≤f.D*f.H*f.W:=Int.mul_le_mul_of_nonneg_right e3 (by omega)
 have e5:(z*f.H+y+1)*f.W=(z*f.H+y)*f.W+f.W:=by rw [Int.add_mul (z*f.H+y)];omega
 have e6:f.D*f.H*f.W=f.W*f.H*f.D:=by rw [Int.mul_comm f.D f.H,Int.mul_comm _ f.W,Int.mul_assoc f.W f.H f.D]
 have e7:0≤(z*f.H+y)*f.W:=Int.mul_nonneg (by omega) (by omega)
 have:=h.kl
 exact⟨b.1,by omega,e7,by omega⟩
theorem Q3W {f:ApiFloor} (h:RF f) (x y z:Int):G9 f x y z=-1∨isC f (G9 f x y z)=true:=by
 unfold G9
 split
 ·rename_i h1
  have:=Q2g h h1
  exact .inr (K0.2 (by omega))
 ·exact .inl rfl
theorem Q4G {f:ApiFloor} (h:RF f) {x y z:Int} (h1:0≤x∧x<f.W∧0≤y∧y<f.H∧0≤z∧z<f.D):w64 ((w64 ((w64 ((w64 (z*f.H))+y))*f.W))+x)=G9 f x y z:=by
 have:=Q2g h h1
 have:=h.len.1;have:=h.H4
 rw [QH (x:=z*f.H) (by omega) (by omega),QH (x:=z*f.H+y) (by omega) (by omega),QH (x:=(z*f.H+y)*f.W) (by omega) (by omega),QH (by omega) (by omega),G9,if_pos h1]
def pX (f:ApiFloor) (c:Int):Int:=c % f.W
def pY (f:ApiFloor) (c:Int):Int:=c / f.W % f.H
def pZ (f:ApiFloor) (c:Int):Int:=c / f.W / f.H
theorem p_bd {f:ApiFloor} (h:RF f) {c:Int} (hc:isC f c=true):0≤pX f c∧pX f c<f.W∧0≤pY f c∧pY f c<f.H∧0≤pZ f c∧pZ f c<f.D:=by
 rw [K0] at hc
 have w:=h.W1;have hh:=h.H1;have hd:=h.D1
 refine⟨Int.emod_nonneg _ (by omega),Int.emod_lt_of_pos _ (by omega),Int.emod_nonneg _ (by omega),Int.emod_lt_of_pos _ (by omega),Int.ediv_nonneg (Int.ediv_nonneg hc.1 (by omega)) (by omega),?_⟩
 unfold pZ
 refine Int.ediv_lt_of_lt_mul (by omega) (Int.ediv_lt_of_lt_mul (by omega) ?_)
 have:=h.kl
 have e6:f.D*f.H*f.W=f.W*f.H*f.D:=by rw [Int.mul_comm f.D f.H,Int.mul_comm _ f.W,Int.mul_assoc f.W f.H f.D]
 omega
def nbr (f:ApiFloor) (c d:Int):Int:=
 if isC f c=false then -1 else
 if d=0 then G9 f (pX f c+1) (pY f c) (pZ f c) else if d=1 then G9 f (pX f c) (pY f c+1) (pZ f c) else
 if d=2 then G9 f (pX f c-1) (pY f c) (pZ f c) else if d=3 then G9 f (pX f c) (pY f c-1) (pZ f c) else
 if d=4 then G9 f (pX f c) (pY f c) (pZ f c+1) else if d=5 then G9 f (pX f c) (pY f c) (pZ f c-1) else -1
theorem Q4f {f:ApiFloor} (h:RF f) (c d:Int):nbr f c d=-1∨isC f (nbr f c d)=true:=by
 unfold nbr
 repeat' split
 all_goals first | exact .inl rfl | exact Q3W h _ _ _
def nx (f:ApiFloor) (c d:Int):Int×Bool:=
 if nbr f c d<0∨kd f c=0∨kd f (nbr f c d)=0∨band .i64 (shrI .i64 (ot f c) d) 1=0 then (0,false)
 else if 4≤d∧(kd f c≠6∨kd f (nbr f c d)≠6) then (0,false) else (nbr f c d,true)
theorem Zy {f:ApiFloor} (h:RF f) {c d:Int} (hn:(nx f c d).2=true):isC f c=true∧isC f (nx f c d).1=true∧0≤d∧d<6∧kd f (nx f c d).1≠0∧kd f c≠0:=by
 unfold nx at hn ⊢
 split at hn
 ·cases hn
 ·rename_i h1
  split at hn
  ·cases hn
  ·rename_i h2
   rw [if_neg h1,if_neg h2]
   simp only [not_or] at h1
   obtain⟨a1,a2,a3,a4⟩:=h1
   have hb:=Q4f h c d
   have hc:isC f c=true:=by
    cases hc:isC f c
    ·exact absurd (by rw [nbr,if_pos hc];omega) a1
    ·rfl
   have hd:0≤d∧d<6:=by
    unfold nbr at a1
    rw [if_neg (by simp [hc])] at a1
    repeat' split at a1
    all_goals omega
   exact⟨hc,by rcases hb with e | e;(exact absurd (by omega) a1);exact e,hd.1,hd.2,a3,a2⟩
theorem Q0y {f:ApiFloor} (h:RF f) {c:Int} (hc:isC f c=true) {post:(Int×Int×Int)→Prop} (hp:post (pX f c,pY f c,pZ f c)):Gi f c post:=by
 unfold Gi
 refine Zh h ?_
 rw [hc]
 refine Ite.f rfl ?_
 rw [K0] at hc
 have w:=h.W1;have hh:=h.H1;have hd:=h.D1;have wh:=h.wh;have hl:=h.len.1
 have e1:0≤c / f.W∧c / f.W≤c:=⟨Int.ediv_nonneg hc.1 (by omega),Int.ediv_le_self _ hc.1⟩
 have e2:0≤c / (f.W*f.H)∧c / (f.W*f.H)≤c:=⟨Int.ediv_nonneg hc.1 (by omega),Int.ediv_le_self _ hc.1⟩
 rw [wh.1]
 refine⟨by omega,by omega,by omega,by omega,?_⟩
 rw [Int.tmod_eq_emod_of_nonneg hc.1,Int.tdiv_eq_ediv_of_nonneg hc.1,QH (x:=c / f.W) (by omega) (by omega),Int.tmod_eq_emod_of_nonneg e1.1,Int.tdiv_eq_ediv_of_nonneg hc.1,QH (x:=c / (f.W*f.H)) (by omega) (by omega),←Int.ediv_ediv_of_nonneg (by omega:0≤f.W)]
 exact hp
theorem XZ {f:ApiFloor} (h:RF f) {x y z:Int} {post:Int→Prop} (hp:post (G9 f x y z)):KA f x y z post:=by
 unfold KA
 refine Jor4 (Ite.mk (fun h1=>?_) (fun h1=>?_))
 ·have:G9 f x y z=-1:=by
   unfold G9
   rw [if_neg]
   simp only [Bool.or_eq_true,decide_eq_true_eq,Q1W] at h1
   omega
  rw [←this];exact hp
 ·have:0≤x∧x<f.W∧0≤y∧y<f.H∧0≤z∧z<f.D:=by
   simp only [Bool.or_eq_false_iff,decide_eq_false_iff_not,Q1W] at h1
   omega
  rw [Q4G h this];exact hp
theorem Ys {f:ApiFloor} (h:RF f) {c d:Int} {post:Int→Prop} (hp:post (nbr f c d)):KB f c d post:=by
 unfold KB
 refine Jn.eq (!isC f c||decide (d<0)||decide (d≥6)) (Zh h ?_) (Ite.mk (fun h1=>?_) (fun h1=>?_))
 ·cases isC f c
  ·exact Ite.f rfl rfl
  ·exact Ite.t rfl (Ite.mk (fun h=>by rw [h];rfl) (fun h=>by rw [h];rfl))
 ·have:nbr f c d=-1:=by
   unfold nbr
   simp only [Bool.or_eq_true,Bool.not_eq_true',decide_eq_true_eq] at h1
   split
   ·rfl
   ·rename_i h2
    have h3:¬(0≤d∧d<6):=by
     rcases h1 with (h1 | h1) | h1
     ·exact absurd h1 h2
     ·omega
     ·omega
    rw [if_neg (by omega),if_neg (by omega),if_neg (by omega),if_neg (by omega),if_neg (by omega),if_neg (by omega)]
  rw [←this];exact hp
 ·simp only [Bool.or_eq_false_iff,Bool.not_eq_false',decide_eq_false_iff_not] at h1
  obtain⟨⟨hc,h2⟩,h3⟩:=h1
  refine Q0y h hc (post:=_) ?_
  unfold Ga
  have hb:=p_bd h hc
  have w:=h.W4;have hh:=h.H4;have hd:=h.D4
  have hn:nbr f c d=(if d=0 then G9 f (pX f c+1) (pY f c) (pZ f c) else if d=1 then G9 f (pX f c) (pY f c+1) (pZ f c) else
    if d=2 then G9 f (pX f c-1) (pY f c) (pZ f c) else if d=3 then G9 f (pX f c) (pY f c-1) (pZ f c) else
    if d=4 then G9 f (pX f c) (pY f c) (pZ f c+1) else if d=5 then G9 f (pX f c) (pY f c) (pZ f c-1) else -1):=by
   unfold nbr;rw [if_neg (by simp [hc])]
  have hd6:d=0∨d=1∨d=2∨d=3∨d=4∨d=5:=by omega
  rcases hd6 with e | e | e | e | e | e <;> subst e <;> simp only [if_pos,Int.reduceEq,if_false] at hn <;> rw [hn] at hp <;>
   refine⟨_,rfl,XZ h ?_⟩ <;> (try simp only []) <;> rw [QH (by omega) (by omega),QH (by omega) (by omega),QH (by omega) (by omega)] <;>
   first | exact hp | (simpa [Int.sub_eq_add_neg] using hp)
theorem WR {f:ApiFloor} (h:RF f) {c d:Int} {post:Int×Bool→Prop} (hp:post (nx f c d)):Xj f c d post:=by
 unfold Xj
 refine Ys h ?_
 have hb:=Q4f h c d
 have hc:0≤nbr f c d→isC f c=true∧0≤d∧d<6:=fun a1=>by
  have hc:isC f c=true:=by
   cases hc:isC f c
   ·exact absurd (by rw [nbr,if_pos hc];omega) (Int.not_lt.2 a1)
   ·rfl
  refine⟨hc,?_⟩
  unfold nbr at a1
  rw [if_neg (by simp [hc])] at a1
  repeat' split at a1
  all_goals omega
 have hn:0≤nbr f c d→isC f (nbr f c d)=true:=fun a1=>by rcases hb with e | e;(exact absurd a1 (by omega));exact e
 refine Jn.eq (decide (nbr f c d<0∨kd f c=0∨kd f (nbr f c d)=0∨band .i64 (shrI .i64 (ot f c) d) 1=0)) (Ite.mk (fun h1=>?_) (fun h1=>?_)) (Ite.mk (fun h1=>?_) (fun h1=>?_))
 ·simp only [decide_eq_true_eq] at h1;simp [h1]
 ·simp only [decide_eq_false_iff_not,Int.not_lt] at h1
  obtain⟨hc,hd⟩:=hc h1
  refine⟨_,Wp hc,Ite.mk (fun h2=>?_) (fun h2=>⟨_,Wp (hn h1),Ite.mk (fun h3=>?_) (fun h3=>⟨_,Q5I h hc,hd.1,?_⟩)⟩)⟩
  ·simp at h2;simp [h2]
  ·simp at h3;simp [h3]
  ·simp at h2 h3;simp only [h2,h3,Int.not_lt.2 h1,false_or];rfl
 ·simp only [decide_eq_true_eq] at h1
  have:nx f c d=(0,false):=by unfold nx;rw [if_pos h1]
  rw [←this];exact hp
 ·simp only [decide_eq_false_iff_not] at h1
  have h0:0≤nbr f c d:=by simp only [not_or] at h1;omega
  obtain⟨hc,hd⟩:=hc h0
  have e:nx f c d=if 4≤d∧(kd f c≠6∨kd f (nbr f c d)≠6) then (0,false) else (nbr f c d,true):=by unfold nx;rw [if_neg h1]
  have lift:∀{J:Bool→Prop},J (decide (kd f c≠6∨kd f (nbr f c d)≠6))→∃x15,idx f.Kind c=some x15∧Ite (x15 != 6) (J true) (∃x17,idx f.Kind (nbr f c d)=some x17∧J (x17 != 6)):=fun {J} hJ=>by
   refine⟨_,Wp hc,Ite.mk (fun h2=>?_) (fun h2=>⟨_,Wp (hn h0),?_⟩)⟩
   ·simp at h2;simpa [h2] using hJ
   ·simp at h2
    have e:(kd f (nbr f c d) != 6)=decide (kd f c≠6∨kd f (nbr f c d)≠6):=by rw [h2];by_cases h3:kd f (nbr f c d)=6 <;> simp [h3]
    rw [e];exact hJ
  refine Jn.eq (decide (4≤d∧(kd f c≠6∨kd f (nbr f c d)≠6))) (Ite.mk (fun h2=>?_) (fun h2=>Ite.mk (fun h3=>?_) (fun h3=>?_))) (Ite.mk (fun h2=>?_) (fun h2=>?_))
  ·simp at h2;exact lift (J:=fun x=>x=decide (4≤d∧(kd f c≠6∨kd f (nbr f c d)≠6))) (by simp [h2])
  ·simp at h3;exact lift (J:=fun x=>x=decide (4≤d∧(kd f c≠6∨kd f (nbr f c d)≠6))) (by simp [h3])
  ·simp at h2 h3
   have:¬4≤d:=by omega
   simp [this]
  ·simp only [decide_eq_true_eq] at h2
   rw [e,if_pos h2] at hp;exact hp
  ·simp only [decide_eq_false_iff_not] at h2
   rw [e,if_neg h2] at hp;exact hp
end Go.Taq
/- The mathematics, part C: lists: searches, halving. -/
set_option linter.unusedVariables false
namespace Go.Taq
open Go
theorem Q05 {xs:List Int} {v:Int} (hl:xs.length≤maxLen) {post:Int→Prop} (hp:post (fidx (fun x=>v == x) xs)):K2 xs v post:=by
 unfold K2
 have hm:(xs.length:Int)≤9223372036854775807:=by simp [maxLen] at hl;omega
 refine Jn.mk (fun _=>post (-1)) (Loop.find xs (fun x=>v == x) (fun i x hi hx hpx=>?_) (fun i x hi hx hpx hf=>?_) (fun hn hf=>?_)) (fun _ h=>h)
 ·refine Ite.t (by simp;omega) ⟨x,QG rfl hx,Ite.f hpx ?_⟩
  rw [QH (by omega) (by omega)];omega
 ·refine Ite.t (by simp;omega) ⟨x,QG rfl hx,Ite.t hpx ?_⟩
  simpa [fidx,hf] using hp
 ·refine Ite.f (by simp) ?_
  simpa [fidx,hf] using hp
theorem Kl {xs:List Int} {v:Int} (hl:xs.length≤maxLen) {post:Bool→Prop} (hp:post (xs.contains v)):Qg xs v post:=by
 unfold Qg
 refine Q05 hl ?_
 have:decide (fidx (fun x=>v == x) xs≥0)=xs.contains v:=by rw [YK,List.contains_eq_any_beq]
 rw [this];exact hp
def Asc (xs:List Int):Prop:=∀(i j:Nat) x y,i<j→xs[i]?=some x→xs[j]?=some y→x<y
theorem WP {xs:List Int} {t:Int} (hl:xs.length≤maxLen) (ha:Asc xs) {post:Int×Bool→Prop} (hp:∀i,post (i,xs.contains t)):QK xs t post:=by
 unfold QK
 have hm:(xs.length:Int)≤9223372036854775807:=by simp [maxLen] at hl;omega
 refine Jn.mk (fun i:Int=>0≤i∧i≤xs.length∧(∀(j:Nat) x,(j:Int)<i→xs[j]?=some x→x<t)∧(∀(j:Nat) x,i≤(j:Int)→xs[j]?=some x→t≤x))
  (Loop.mk (fun s:Int×Int=>0≤s.1∧s.1≤s.2∧s.2≤xs.length∧(∀(j:Nat) x,(j:Int)<s.1→xs[j]?=some x→x<t)∧(∀(j:Nat) x,s.2≤(j:Int)→xs[j]?=some x→t≤x)) (fun s=>(s.2-s.1).toNat) ⟨by simp,by simp,by simp,fun j x hj=>absurd hj (by simp),fun j x hj hx=>?_⟩ ?_) ?_
 ·have:=(List.getElem?_eq_some_iff.1 hx).1
  simp at hj;omega
 ·rintro⟨i,j⟩ ⟨h0,h1,h2,h3,h4⟩
  simp only at h0 h1 h2 h3 h4
  refine Ite.mk (fun hlt=>?_) (fun hge=>?_)
  ·simp only [decide_eq_true_eq] at hlt
   have e:IntKind.wrap .i64 (shrI .u64 (IntKind.wrap .u64 (w64 (i+j))) 1)=(i+j) / 2:=by
    have e1:IntKind.wrap .u64 (w64 (i+j))=i+j:=by simp [w64,IntKind.wrap,IntKind.signed,IntKind.bits];omega
    rw [e1,shrI]
    have e2:(i+j).fdiv (2 ^ (min (1:Int).toNat IntKind.u64.bits))=(i+j) / 2:=by
     rw [Int.fdiv_eq_ediv_of_nonneg _ (by decide)];rfl
    rw [e2]
    exact QH (by omega) (by omega)
   simp only []
   rw [e]
   have hmid:i≤(i+j) / 2∧(i+j) / 2<j:=by omega
   refine⟨_,YZ (by omega) (by omega),?_⟩
   generalize hx:xs[((i+j) / 2).toNat]'(by omega)=x
   have hx':xs[((i+j) / 2).toNat]?=some x:=by rw [List.getElem?_eq_getElem (by omega),hx]
   unfold XS Xf
   refine Jn.eq (decide (x<t)) (Ite.f (by simp) rfl) ?_
   refine Jn.mk (fun s:Int×Int=>s=(if x<t then (i+j) / 2+1 else i,if x<t then j else (i+j) / 2)) (Ite.mk (fun h5=>?_) (fun h5=>?_)) ?_
   ·simp at h5;simp only [h5,if_true]
    rw [QH (by omega) (by omega)]
   ·simp at h5;simp [Int.not_lt.2 h5]
   ·rintro⟨a,b⟩ e3
    cases e3
    by_cases h5:x<t
    ·simp only [h5,if_true]
     refine⟨⟨by omega,by omega,by omega,fun q y hq hy=>?_,h4⟩,by omega⟩
     rcases Nat.lt_or_ge q ((i+j) / 2).toNat with h6 | h6
     ·exact Int.lt_trans (ha _ _ _ _ h6 hy hx') h5
     ·have:q=((i+j) / 2).toNat:=by omega
      subst this;rw [hx'] at hy;cases hy;exact h5
    ·simp only [h5,if_false]
     refine⟨⟨by omega,by omega,by omega,h3,fun q y hq hy=>?_⟩,by omega⟩
     rcases Nat.lt_or_ge ((i+j) / 2).toNat q with h6 | h6
     ·have:=ha _ _ _ _ h6 hx' hy;omega
     ·have:q=((i+j) / 2).toNat:=by omega
      subst this;rw [hx'] at hy;cases hy;omega
  ·simp only [decide_eq_false_iff_not] at hge
   have:i=j:=by omega
   subst this
   exact⟨h0,h2,h3,h4⟩
 ·rintro i ⟨h0,h1,h3,h4⟩
  have hc:xs.contains t=true↔∃j:Nat,xs[j]?=some t:=by
   rw [List.contains_iff_mem];exact List.mem_iff_getElem?
  refine Jn.eq (xs.contains t) (Ite.mk (fun hlt=>?_) (fun hge=>?_)) (hp i)
  ·simp only [decide_eq_true_eq] at hlt
   refine⟨_,YZ h0 hlt,?_⟩
   generalize hx:xs[i.toNat]'(by omega)=x
   have hx':xs[i.toNat]?=some x:=by rw [List.getElem?_eq_getElem (by omega),hx]
   refine Ite.mk (fun h5=>?_) (fun h5=>?_)
   ·simp at h5;subst h5
    exact (hc.2 ⟨_,hx'⟩).symm
   ·unfold Kz
    refine Ite.f (by simp) ?_
    simp at h5
    cases hcc:xs.contains t
    ·rfl
    ·obtain⟨j,hj⟩:=hc.1 hcc
     exfalso
     rcases Nat.lt_or_ge j i.toNat with h6 | h6
     ·have:=h3 j t (by omega) hj;omega
     ·rcases Nat.lt_or_ge i.toNat j with h7 | h7
      ·have:=ha _ _ _ _ h7 hx' hj
       have:=h4 i.toNat x (by omega) hx'
       omega
      ·have:j=i.toNat:=by omega
       subst this;rw [hx'] at hj;cases hj;exact h5 rfl
  ·simp only [decide_eq_false_iff_not] at hge
   cases hcc:xs.contains t
   ·rfl
   ·obtain⟨j,hj⟩:=hc.1 hcc
    have:=(List.getElem?_eq_some_iff.1 hj).1
    have:=h3 j t (by omega) hj;omega
end Go.Taq
