/- The mathematics, several parts in one text. -/
import Derived.Test.YtdcfcldpjfepiaaGreatLibX
/- The mathematics, part A: loops, joins and tests over plain data. -/
set_option linter.unusedVariables false
namespace Go.Taq
open Go
theorem Qx {x:Int} (h1:-9223372036854775808≤x) (h2:x≤9223372036854775807):w64 x=x:=by
 simp only [w64,IntKind.wrap,IntKind.signed,IntKind.bits]
 simp
 omega
theorem Q7r {α:Type} {xs:List α} {n:Nat}:idx xs (n:Int)=xs[n]?:=by simp [idx]
theorem Yu {α:Type} {xs:List α} {i:Int} (h0:0≤i) (h1:i<xs.length):idx xs i=some (xs[i.toNat]'(by omega)):=by
 simp only [idx,h0,if_true]
 exact List.getElem?_eq_getElem (by omega)
theorem Qq {α:Type} {xs:List α} {i:Int} {n:Nat} {x:α} (h:i=(n:Int)) (hx:xs[n]?=some x):idx xs i=some x:=by rw [h,Q7r];exact hx
theorem Jn.eq {σ:Type} {A:(σ→Prop)→Prop} {k:σ→Prop} (v:σ) (h:A (fun x=>x=v)) (hk:k v):Jn A k:=⟨fun x=>x=v,fun _ e=>e▸hk,h⟩
theorem Q6C {b:Bool} {A B:Prop}:Ite b A B=(if b=true then A else B):=by cases b <;> simp
theorem Ite.t {b:Bool} {A B:Prop} (h:b=true) (k:A):Ite b A B:=by subst h;simpa using k
theorem Ite.f {b:Bool} {A B:Prop} (h:b=false) (k:B):Ite b A B:=by subst h;simpa using k
theorem Jor2 {a1 a2:Bool} {k:Bool→Prop} (h:k (a1||a2)):Jn (fun J=>Ite a1 (J true) (J a2)) k:=⟨k,fun _ h=>h,by cases a1 <;> simpa using h⟩
theorem YS {a1 a2:Bool} {k:Bool→Prop} (h:k (a1&&a2)):Jn (fun J=>Ite a1 (J a2) (J false)) k:=⟨k,fun _ h=>h,by cases a1 <;> simpa using h⟩
theorem Jor3 {a1 a2 a3:Bool} {k:Bool→Prop} (h:k (a1||a2||a3)):Jn (fun J=>Ite a1 (J true) (Ite a2 (J true) (J a3))) k:=⟨k,fun _ h=>h,by cases a1 <;> cases a2 <;> simpa using h⟩
theorem Q9m {a1 a2 a3:Bool} {k:Bool→Prop} (h:k (a1&&a2&&a3)):Jn (fun J=>Ite a1 (Ite a2 (J a3) (J false)) (J false)) k:=⟨k,fun _ h=>h,by cases a1 <;> cases a2 <;> simpa using h⟩
theorem Jor4 {a1 a2 a3 a4:Bool} {k:Bool→Prop} (h:k (a1||a2||a3||a4)):Jn (fun J=>Ite a1 (J true) (Ite a2 (J true) (Ite a3 (J true) (J a4)))) k:=⟨k,fun _ h=>h,by cases a1 <;> cases a2 <;> cases a3 <;> simpa using h⟩
theorem Jor5 {a1 a2 a3 a4 a5:Bool} {k:Bool→Prop} (h:k (a1||a2||a3||a4||a5)):Jn (fun J=>Ite a1 (J true) (Ite a2 (J true) (Ite a3 (J true) (Ite a4 (J true) (J a5))))) k:=⟨k,fun _ h=>h,by cases a1 <;> cases a2 <;> cases a3 <;> cases a4 <;> simpa using h⟩
theorem Jor6 {a1 a2 a3 a4 a5 a6:Bool} {k:Bool→Prop} (h:k (a1||a2||a3||a4||a5||a6)):Jn (fun J=>Ite a1 (J true) (Ite a2 (J true) (Ite a3 (J true) (Ite a4 (J true) (Ite a5 (J true) (J a6)))))) k:=⟨k,fun _ h=>h,by cases a1 <;> cases a2 <;> cases a3 <;> cases a4 <;> cases a5 <;> simpa using h⟩
theorem Jn.or {a:Bool} {A:(Bool→Prop)→Prop} {k:Bool→Prop} (b:Bool) (hA:a=false→A (fun x=>x=b)) (hk:k (a||b)):Jn (fun J=>Ite a (J true) (A J)) k:=
 Jn.eq (a||b) (Ite.mk (fun h=>by simp [h]) (fun h=>by simpa [h] using hA h)) hk
theorem Jn.and {a:Bool} {A:(Bool→Prop)→Prop} {k:Bool→Prop} (b:Bool) (hA:a=true→A (fun x=>x=b)) (hk:k (a&&b)):Jn (fun J=>Ite a (A J) (J false)) k:=
 Jn.eq (a&&b) (Ite.mk (fun h=>by simpa [h] using hA h) (fun h=>by simp [h])) hk
theorem Loop.up {σ:Type} {body:σ→(σ→Prop)→Prop} (n:Nat) (st:Nat→σ) {s0:σ} (h0:s0=st 0) (hs:∀i,i<n→body (st i) (fun s=>s=st (i+1))) (he:body (st n) (fun _=>False)):Loop body s0:=by
 subst h0
 intro X hX
 have key:∀k i,i+k=n→X (st i):=by
  intro k
  induction k with
  | zero=>intro i hi;have:i=n:=by omega
          subst this;exact hX _ _ he (fun _ h=>h.elim)
  | succ k ih=>intro i hi;exact hX _ _ (hs i (by omega)) (fun s' e=>e▸ih (i+1) (by omega))
 exact key n 0 (by omega)
theorem Loop.find {α:Type} (xs:List α) (p:α→Bool) {body:Int→(Int→Prop)→Prop} (hs:∀(i:Nat) x,i<xs.length→xs[i]?=some x→p x=false→body (i:Int) (fun s=>s=((i+1:Nat):Int)))
  (hh:∀(i:Nat) x,i<xs.length→xs[i]?=some x→p x=true→xs.findIdx? p=some i→body (i:Int) (fun _=>False)) (he:(∀x,x∈xs→p x=false)→xs.findIdx? p=none→body (xs.length:Int) (fun _=>False)):Loop body 0:=by
 cases hf:xs.findIdx? p with
 | none=>
  have hn:∀x,x∈xs→p x=false:=by simpa [List.findIdx?_eq_none_iff] using hf
  refine Loop.up xs.length (fun i=>(i:Int)) rfl (fun i hi=>?_) (he hn hf)
  exact hs i _ hi (List.getElem?_eq_getElem hi) (hn _ (List.getElem_mem hi))
 | some m=>
  obtain⟨hm,hp,hlt⟩:=List.findIdx?_eq_some_iff_getElem.1 hf
  refine Loop.up m (fun i=>(i:Int)) rfl (fun i hi=>?_) ?_
  ·have:=hlt i hi
   exact hs i _ (by omega) (List.getElem?_eq_getElem (by omega)) (by simpa using this)
  ·exact hh m _ hm (List.getElem?_eq_getElem hm) hp hf
def fidx {α:Type} (p:α→Bool) (xs:List α):Int:=match xs.findIdx? p with | some i=>i | none=>-1
theorem Q0p {α:Type} {p:α→Bool} {xs:List α}:decide (fidx p xs≥0)=xs.any p:=by
 unfold fidx
 cases hf:xs.findIdx? p with
 | none=>
  have hn:∀x,x∈xs→p x=false:=by simpa [List.findIdx?_eq_none_iff] using hf
  have:xs.any p=false:=by rw [List.any_eq_false];intro x hx;simp [hn x hx]
  simp [this]
 | some m=>
  obtain⟨hm,hp,_⟩:=List.findIdx?_eq_some_iff_getElem.1 hf
  have:xs.any p=true:=List.any_eq_true.2 ⟨_,List.getElem_mem hm,hp⟩
  simp [this]
theorem Q73 {α:Type} {p:α→Bool} {xs:List α}:-1≤fidx p xs∧fidx p xs<xs.length:=by
 unfold fidx
 cases hf:xs.findIdx? p with
 | none=>simp;omega
 | some m=>obtain⟨hm,_,_⟩:=List.findIdx?_eq_some_iff_getElem.1 hf;simp;omega
section
variable {κ α:Type} [DecidableEq κ]
theorem WV:∀(xs:List (κ×α)) (k:κ) (y:α) (j:κ),lk (upd xs k y) j=if k=j then some y else lk xs j
 | [],k,y,j=>by simp only [upd,lk]
 | p :: r,k,y,j=>by
  unfold upd
  by_cases h:p.1=k
  ·rw [if_pos h]
   simp only [lk]
   by_cases h2:k=j
   ·simp [h2]
   ·rw [if_neg h2,if_neg h2,if_neg (by rw [h];exact h2)]
  ·rw [if_neg h]
   simp only [lk,WV r k y j]
   by_cases h2:p.1=j
   ·rw [if_pos h2,if_pos h2,if_neg (fun e=>h (h2.trans e.symm))]
   ·rw [if_neg h2,if_neg h2]
end
section
variable {κ α:Type} [DecidableEq κ]
def left (xs:List (κ×α)) (seen:List κ):Nat:=(xs.filter fun p=>decide (p.1∉seen)).length
theorem Q5G (xs:List (κ×α)) (x:κ) (seen:List κ):left xs (x :: seen)≤left xs seen:=by
 induction xs with
 | nil=>simp [left]
 | cons p r ih=>
  unfold left at ih ⊢
  by_cases h1:p.1∉x :: seen
  ·have h2:p.1∉seen:=fun e=>h1 (List.mem_cons_of_mem _ e)
   rw [List.filter_cons_of_pos (by simpa using h1),List.filter_cons_of_pos (by simpa using h2)]
   simp only [List.length_cons];omega
  ·rw [List.filter_cons_of_neg (by simpa using h1)]
   by_cases h2:p.1∉seen
   ·rw [List.filter_cons_of_pos (by simpa using h2)];simp only [List.length_cons];omega
   ·rw [List.filter_cons_of_neg (by simpa using h2)];exact ih
theorem Q5v:∀(xs:List (κ×α)) {x:κ} {v:α} {seen:List κ},lk xs x=some v→x∉seen→left xs (x :: seen)<left xs seen
 | [],x,v,seen,h,_=>by simp [lk] at h
 | p :: r,x,v,seen,h,hn=>by
  unfold lk at h
  by_cases h1:p.1=x
  ·subst h1
   have:=Q5G r p.1 seen
   unfold left at this ⊢
   rw [List.filter_cons_of_neg (by simp),List.filter_cons_of_pos (by simpa using hn)]
   simp only [List.length_cons];omega
  ·rw [if_neg h1] at h
   have ih:=Q5v r h hn
   unfold left at ih ⊢
   by_cases h2:p.1∈seen
   ·rw [List.filter_cons_of_neg (by simp [h2]),List.filter_cons_of_neg (by simp [h2])];exact ih
   ·rw [List.filter_cons_of_pos (by simp [h2,h1]),List.filter_cons_of_pos (by simp [h2])]
    simp only [List.length_cons];omega
end
end Go.Taq
/- The mathematics, part R0: more about loops and joins, and lists. -/
set_option linter.unusedVariables false
namespace Go.Taq
open Go
theorem Loop.inv {σ:Type} {body:σ→(σ→Prop)→Prop} {s0:σ} (n:Nat) (I:Nat→σ→Prop) (h0:I 0 s0) (hs:∀i s,i<n→I i s→body s (I (i+1))) (he:∀s,I n s→body s (fun _=>False)):Loop body s0:=by
 intro X hX
 have key:∀k i,i+k=n→∀s,I i s→X s:=by
  intro k
  induction k with
  | zero=>intro i hi s h;have:i=n:=by omega
          subst this;exact hX _ _ (he s h) (fun _ h=>h.elim)
  | succ k ih=>intro i hi s h;exact hX _ _ (hs i s (by omega) h) (fun s' e=>ih (i+1) (by omega) s' e)
 exact key n 0 (by omega) s0 h0
theorem Jn.ex {σ α:Type} {P:α→Prop} {A:α→(σ→Prop)→Prop} {k:σ→Prop} (x:α) (hx:P x) (h:Jn (A x) k):Jn (fun J=>∃x,P x∧A x J) k:=by
 obtain⟨J,h1,h2⟩:=h
 exact⟨J,h1,x,hx,h2⟩
theorem Yt {i n:Nat} (h:i<n) (hn:n≤maxLen):w64 ((i:Int)+1)=((i+1:Nat):Int):=by
 rw [Qx (by omega) (by simp [maxLen] at hn;omega)];simp
theorem Ite.lt {i n:Int} {A B:Prop} (h:i<n) (k:A):Ite (decide (i<n)) A B:=Ite.t (by simpa using h) k
theorem Ite.nlt {i n:Int} {A B:Prop} (h:¬i<n) (k:B):Ite (decide (i<n)) A B:=Ite.f (by simpa using h) k
theorem Ite.of {b:Bool} {A B:Prop} (h:if b=true then A else B):Ite b A B:=by rw [Q6C];exact h
theorem Q4J {α:Type} {xs:List α} (hm:xs.length≤maxLen) (p:α→Bool) {T:α→(Bool→Prop)→Prop} (hT:∀x,x∈xs→∀{post:Bool→Prop},post (p x)→T x post) {A:Int→α→Prop} {B:Prop}
  (hA:∀(i:Nat) x,xs[i]?=some x→p x=true→xs.findIdx? p=some i→A (i:Int) x) (hB:(∀x,x∈xs→p x=false)→xs.findIdx? p=none→B):
  Jn (fun (J:Unit→Prop)=>Loop (fun (s:Int) Y=>Ite (decide (s<(xs.length:Int))) (∃x,idx xs s=some x∧T x (fun b=>Ite b (A s x) (Y (w64 (s+1))))) (J ())) 0) (fun _=>B):=by
 refine Jn.mk (fun _=>B) (Loop.find xs p (fun i x hi hx hp=>?_) (fun i x hi hx hp hf=>?_) (fun hn hf=>?_)) (fun _ h=>h)
 ·exact Ite.lt (by omega) ⟨x,Qq rfl hx,hT x (List.mem_of_getElem? hx) (Ite.f hp (Yt hi hm))⟩
 ·exact Ite.lt (by omega) ⟨x,Qq rfl hx,hT x (List.mem_of_getElem? hx) (Ite.t hp (hA i x hx hp hf))⟩
 ·exact Ite.nlt (by omega) (hB hn hf)
theorem Q50 {α:Type} {p:α→Bool} {xs:List α} {i:Nat} (h:xs.findIdx? p=some i):xs.any p=true:=by
 obtain⟨hm,hp,_⟩:=List.findIdx?_eq_some_iff_getElem.1 h
 exact List.any_eq_true.2 ⟨_,List.getElem_mem hm,hp⟩
theorem Q4O {α:Type} {p:α→Bool} {xs:List α} (h:∀x,x∈xs→p x=false):xs.any p=false:=by
 rw [List.any_eq_false];intro x hx;simp [h x hx]
section
variable {α:Type} {xs:List α} (hm:xs.length≤maxLen)
include hm
theorem Q6I (p:α→Bool) {T:α→(Bool→Prop)→Prop} (hT:∀x,x∈xs→∀{post:Bool→Prop},post (p x)→T x post) {post:Bool→Prop} (hp:post (xs.any p)):
  Jn (fun (J:Unit→Prop)=>Loop (fun (s:Int) Y=>Ite (decide (s<(xs.length:Int))) (∃x,idx xs s=some x∧T x (fun b=>Ite b (post true) (Y (w64 (s+1))))) (J ())) 0) (fun _=>post false):=
 Q4J hm p hT (A:=fun _ _=>post true) (fun i x _ _ hf=>by rw [←Q50 hf];exact hp) (fun hn _=>by rw [←Q4O hn];exact hp)
theorem Q7N (p:α→Bool) {T:α→(Bool→Prop)→Prop} (hT:∀x,x∈xs→∀{post:Bool→Prop},post (p x)→T x post) {post:Bool→Prop} (hp:post (!xs.any p)):
  Jn (fun (J:Unit→Prop)=>Loop (fun (s:Int) Y=>Ite (decide (s<(xs.length:Int))) (∃x,idx xs s=some x∧T x (fun b=>Ite b (post false) (Y (w64 (s+1))))) (J ())) 0) (fun _=>post true):=
 Q4J hm p hT (A:=fun _ _=>post false) (fun i x _ _ hf=>by rw [Q50 hf] at hp;exact hp) (fun hn _=>by rw [Q4O hn] at hp;exact hp)
theorem Q11 (p:α→Bool) {T:α→(Bool→Prop)→Prop} (hT:∀x,x∈xs→∀{post:Bool→Prop},post (p x)→T x post) {post:Int→Prop} (hp:post (fidx p xs)):
  Jn (fun (J:Unit→Prop)=>Loop (fun (s:Int) Y=>Ite (decide (s<(xs.length:Int))) (∃x,idx xs s=some x∧T x (fun b=>Ite b (post s) (Y (w64 (s+1))))) (J ())) 0) (fun _=>post (-1)):=
 Q4J hm p hT (A:=fun s _=>post s) (fun i x _ _ hf=>by rw [fidx,hf] at hp;exact hp) (fun hn hf=>by rw [fidx,hf] at hp;exact hp)
theorem Q7j {p:α→Bool} {post:Bool→Prop} (hp:post (xs.any p)):
  Jn (fun (J:Unit→Prop)=>Loop (fun (s:Int) Y=>Ite (decide (s<(xs.length:Int))) (∃x,idx xs s=some x∧Ite (p x) (post true) (Y (w64 (s+1)))) (J ())) 0) (fun _=>post false):=
 Q6I hm p (T:=fun x post=>post (p x)) (fun _ _ _ h=>h) hp
theorem Q7T {p:α→Bool} {post:Int→Prop} (hp:post (fidx p xs)):
  Jn (fun (J:Unit→Prop)=>Loop (fun (s:Int) Y=>Ite (decide (s<(xs.length:Int))) (∃x,idx xs s=some x∧Ite (p x) (post s) (Y (w64 (s+1)))) (J ())) 0) (fun _=>post (-1)):=
 Q11 hm p (T:=fun x post=>post (p x)) (fun _ _ _ h=>h) hp
end
theorem any_beq {xs:List Int} {v:Int}:xs.any (fun x=>x == v)=xs.contains v:=by
 rw [List.contains_eq_any_beq];congr 1;funext x;exact Bool.eq_iff_iff.2 ⟨fun h=>by simp at h ⊢;exact h.symm,fun h=>by simp at h ⊢;exact h.symm⟩
theorem Q6Y {α:Type} (xs:List α) (hl:xs.length≤maxLen) {most:Int} {T:Int→(Bool→Prop)→Prop} (P:α→Prop) {E:Prop} {post:Bool→Prop} (hT:∀(i:Nat) x,idx xs (i:Int)=some x→∀{q:Bool→Prop},q true→(P x→q false)→T (i:Int) q) (hF:post false) (hE:(xs.length≤most→∀x,x∈xs→P x)→E):
  Jn (fun (J2:Unit→Prop)=>Loop (fun (s3:Int) Y4=>Jn (fun (J6:Bool→Prop)=>Ite (decide (s3<(xs.length:Int))) (J6 (decide (s3≤most))) (J6 false)) (fun (x5:Bool)=>Ite x5 (T s3 (fun b=>Ite b (post false) (Y4 (w64 (s3+1))))) (J2 ()))) 0) (fun _=>E):=by
 refine Jn.mk (fun _=>xs.length≤most→∀x,x∈xs→P x) (Loop.inv xs.length (fun i (t:Int)=>t=(i:Int)∧∀(j:Nat) x,j<i→xs[j]?=some x→P x) ⟨rfl,fun j x h=>by omega⟩ (fun i t hi h=>?_) (fun t h=>?_)) (fun _ h=>hE h)
 ·obtain⟨rfl,h⟩:=h
  refine YS (Ite.mk (fun h1=>?_) (fun h1 h2=>?_))
  ·have hx:xs[i]?=some (xs[i]'hi):=List.getElem?_eq_getElem hi
   refine hT i _ (Qq rfl hx) (Ite.t rfl hF) (fun hP=>Ite.f rfl ⟨Yt hi hl,fun j x hj hxj=>?_⟩)
   by_cases e:j=i
   ·subst e;rw [hx] at hxj;cases hxj;exact hP
   ·exact h j x (by omega) hxj
  ·simp at h1;omega
 ·obtain⟨rfl,h⟩:=h
  refine YS (Ite.f (by simp) (fun _ x hx=>?_))
  obtain⟨j,hj⟩:=List.getElem?_of_mem hx
  exact h j x (List.getElem?_eq_some_iff.1 hj).1 hj
theorem Q1q {x y:ByteArray}:seq x y=true↔x=y:=by
 unfold seq
 rw [beq_iff_eq]
 constructor
 ·intro h
  have:x.data.toList=y.data.toList:=by simpa [ByteArray.toList_eq] using h
  cases x;cases y;simp_all
 ·rintro rfl;rfl
end Go.Taq
