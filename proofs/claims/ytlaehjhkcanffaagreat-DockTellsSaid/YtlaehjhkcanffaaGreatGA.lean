/- The mathematics, several parts in one text. -/
import Derived.Test.YtlaehjhkcanffaaGreatAC
import Derived.Test.YtlaehjhkcanffaaGreatNA
import Derived.Test.YtlaehjhkcanffaaGreatVc
import Derived.IntWalk
/- The mathematics, part AD: what happens, and what robots do, leaves a state right. -/
set_option linter.unusedVariables false
set_option linter.unusedSimpArgs false
namespace Go.Taq
open Go
section
variable {s:ApiSite} {st st':ApiState}
theorem Q4N (hf:RF s.Floor) (hs:RS s) (h:RSt s st) (hz:Sz st):LS s st:=⟨hf,hs,hz,h.cells,fun i r hr=>⟨(h.rob i r hr).cell,(h.rob i r hr).load.1,(h.rob i r hr).load.2⟩⟩
end
end Go.Taq
/- The mathematics, part AE: the end of a tick; a whole tick (arena.Step and its reference). -/
set_option linter.unusedVariables false
set_option linter.unusedSimpArgs false
namespace Go.Taq
open Go
def endR (b r:Qz):Qz:={r with Rest:=if r.Cell=b.Cell then imax (r.Rest-1) 0 else r.Rest,Mute:=imax (r.Mute-1) 0}
section
variable {st b:ApiState}
/-! ## lengths -/
structure SzN (n:Nat) (st:ApiState):Prop where
 sh:st.Shelves.length≤20
 rb:st.Robots.length≤20
 pp:st.People.length≤20
 dd:st.Dead.length≤n
 sk:st.Stuck.length≤n
theorem SzN.sz {n:Nat} (h:SzN n st) (hn:n≤1000):Sz st:=⟨by have:=h.sh;omega,by have:=h.rb;omega,by have:=h.pp;omega,by have:=h.dd;omega,by have:=h.sk;omega⟩
theorem SzN.mono {n m:Nat} (h:SzN n st) (hn:n≤m):SzN m st:=⟨h.sh,h.rb,h.pp,by have:=h.dd;omega,by have:=h.sk;omega⟩
end
end Go.Taq
/- The mathematics, part AF: right states and right sites by the program's own functions; the bounds of the statements of chapter 16. -/
set_option linter.unusedVariables false
set_option linter.unusedSimpArgs false
namespace Go.Taq
open Go
section
/-! ## a bare site is right -/
/-! ## bounds -/
end
end Go.Taq
/- The mathematics, part AR: slices.Repeat of one number. -/
set_option linter.unusedVariables false
set_option linter.unusedSimpArgs false
namespace Go.Taq
open Go
theorem wu64 {x:Int} (h0:0≤x) (h1:x<18446744073709551616):IntKind.wrap .u64 x=x:=by
 show x % 18446744073709551616=x;omega
theorem Q2X {n:Int} (h0:0≤n) (h1:n<4294967296):band .u64 n 4294967295=n:=by
 obtain⟨m,rfl⟩:=Int.eq_ofNat_of_zero_le h0
 have hm:m<4294967296:=by omega
 unfold band
 have e:(BitVec.ofInt IntKind.u64.bits (m:Int) &&& BitVec.ofInt IntKind.u64.bits 4294967295).toNat=m:=by
  show (BitVec.ofInt 64 (m:Int) &&& BitVec.ofInt 64 4294967295).toNat=m
  rw [BitVec.toNat_and]
  have e1:(BitVec.ofInt 64 (m:Int)).toNat=m:=by
   rw [BitVec.toNat_ofInt]
   have:((m:Int) % ((2 ^ 64:Nat):Int))=m:=by omega
   rw [this];simp
  have e2:(BitVec.ofInt 64 4294967295).toNat=2 ^ 32-1:=by decide
  rw [e1,e2,Nat.and_two_pow_sub_one_eq_mod]
  omega
 rw [e]
 exact wu64 h0 (by omega)
theorem Q3T {n:Int} (h0:0≤n) (h1:n<4294967296):shrI .u64 n 32=0:=by
 show n.fdiv (2 ^ (min (32:Int).toNat IntKind.u64.bits))=0
 have:(2:Int) ^ (min (32:Int).toNat IntKind.u64.bits)=4294967296:=by decide
 rw [this,Int.fdiv_eq_ediv_of_nonneg _ (by decide)]
 omega
theorem Q1W {n:Nat} (hn:n<4294967296) {post:Int×Int→Prop} (hp:post (0,(n:Int))):X5 1 (n:Int) post:=by
 unfold X5 Xf
 have a1:=Q3T (n:=1) (by decide) (by decide)
 have a2:=Q3T (n:=(n:Int)) (by omega) (by omega)
 have a3:=Q2X (n:=1) (by decide) (by decide)
 have a4:=Q2X (n:=(n:Int)) (by omega) (by omega)
 rw [a1,a2,a3,a4]
 simp only [Int.zero_mul,Int.mul_zero,Int.one_mul,Int.zero_add,Int.add_zero]
 rw [wu64 (x:=(n:Int)) (by omega) (by omega),wu64 (x:=0) (by decide) (by decide)]
 have z:shrI .u64 0 32=0:=Q3T (by decide) (by decide)
 have b0:band .u64 0 4294967295=0:=Q2X (by decide) (by decide)
 simp only [a2,z,b0,Int.zero_add,Int.add_zero,wu64 (x:=0) (by decide) (by decide)]
 exact hp
theorem Zg {x:Int} {n:Nat} (hn:n≤1000000) {post:List Int→Prop} (hp:post (List.replicate n x)):QP [x] (n:Int) post:=by
 unfold QP
 refine Ite.f (by simp) ?_
 have e1:IntKind.wrap .u64 ((([x]:List Int).length:Nat):Int)=1:=wu64 (by simp) (by simp)
 have e2:IntKind.wrap .u64 (n:Int)=n:=wu64 (by omega) (by omega)
 rw [e1,e2]
 refine Q1W (by omega) (Jor2 (Ite.f (by simp;omega) ?_))
 have e3:IntKind.wrap .i64 (n:Int)=n:=Q6 (by omega) (by omega)
 simp only [e3]
 refine⟨⟨by omega,by omega⟩,?_⟩
 have tn:((n:Int)).toNat=n:=by omega
 simp only [tn,List.length_replicate,List.length_singleton,List.take_zero,List.nil_append,Nat.zero_add]
 refine Jn.mk (fun l=>l=List.replicate n x) (Loop.mk (fun t:List Int×Int=>t.1.length=n∧∃k:Nat,t.2=(k:Int)∧k≤n∧(n=0∨1≤k)∧t.1.take k=List.replicate k x) (fun t=>n-t.2.toNat) ?_ ?_) (fun l hl=>hl▸hp)
 ·refine⟨by simp;omega,min 1 n,by (first | (simp;done) | (simp;omega)),by omega,by omega,?_⟩
  cases n with
  | zero=>simp
  | succ m=>
   have:min 1 (m+1)=1:=by omega
   rw [this];simp
 ·rintro⟨l,t⟩ ⟨hl,k,ht,hk,h0,htk⟩
  simp only at hl ht htk
  subst ht
  refine Ite.mk (fun h=>?_) (fun h=>?_)
  ·have hlt:k<n:=by simp [hl] at h;omega
   have t1:((k:Int)).toNat=k:=by omega
   have t2:((k:Int)-0).toNat=k:=by omega
   have t3:((l.length:Int)-(k:Int)).toNat=n-k:=by omega
   simp only [t1,t2,t3]
   have d0:l.drop (Int.toNat 0)=l:=by simp
   rw [d0,htk]
   simp only [List.length_replicate,List.take_replicate]
   refine⟨⟨by omega,by omega,by omega⟩,⟨by omega,by omega,by omega⟩,by omega,by omega,⟨?_,k+min k (n-k),?_,by omega,by omega,?_⟩,?_⟩
   ·simp [hl];omega
   ·rw [Q6 (by omega) (by omega)];(first | (simp;done) | (simp;omega))
   ·rw [←List.append_assoc,List.take_append_of_le_length (by simp)]
    rw [List.take_of_length_le (by simp)]
    rw [List.replicate_append_replicate];congr 1;omega
   ·rw [Q6 (by omega) (by omega)];omega
  ·have hlt:¬k<n:=by simp [hl] at h;omega
   have:k=n:=by omega
   subst this
   show l=_
   rw [←htk,List.take_of_length_le (by omega)]
end Go.Taq
/- The mathematics, part AG: the examples of chapter 16; ArenaTells. -/
set_option linter.unusedVariables false
set_option linter.unusedSimpArgs false
namespace Go.Taq
open Go
end Go.Taq
/- The mathematics, part GA: moves with prices, walks to a charger, the least fuel (chapter 33). -/
set_option linter.unusedVariables false
set_option linter.unusedSimpArgs false
namespace Go.Taq
open Go
def fu (f:List Int) (c:Nat):Int:=f.getD c (-1)
theorem Wi {f:List Int} {c:Nat} (h:c<f.length):idx f (c:Int)=some (fu f c):=by
 have hx:=List.getElem?_eq_getElem h
 rw [Qe rfl hx];unfold fu;rw [List.getD_eq_getElem?_getD,hx];rfl
theorem Q0d {f:List Int} {c:Nat} (h:c<f.length):f[c]?=some (fu f c):=by
 have hx:=List.getElem?_eq_getElem h
 rw [hx];unfold fu;rw [List.getD_eq_getElem?_getD,hx];rfl
theorem ZE {f:List Int} {c d:Nat} {v:Int} (h:c<f.length):fu (f.set c v) d=if d=c then v else fu f d:=by
 unfold fu
 rw [List.getD_eq_getElem?_getD,List.getElem?_set,List.getD_eq_getElem?_getD]
 by_cases e:c=d
 ·subst e;simp [h]
 ·rw [if_neg e,if_neg (fun h=>e h.symm)]
section
end
/-! ## sums and counts over a table -/
theorem Q0I {α:Type} (w:α→Nat):∀{l:List α} {i:Nat} {x y:α},l[i]?=some x→((l.set i y).map w).sum+w x=(l.map w).sum+w y
 | a :: l,0,x,y,h=>by simp at h;subst h;simp;omega
 | a :: l,i+1,x,y,h=>by
  simp at h
  have:=Q0I w (y:=y) h
  simp only [List.set_cons_succ,List.map_cons,List.sum_cons];omega
theorem Q2Z {α:Type} (p:α→Bool) {l:List α} {i:Nat} {x y:α} (h:l[i]?=some x):(l.set i y).countP p+(if p x=true then 1 else 0)=l.countP p+(if p y=true then 1 else 0):=by
 have e:∀l:List α,l.countP p=(l.map fun a=>if p a=true then 1 else 0).sum:=fun l=>by
  induction l with
  | nil=>rfl
  | cons a l ih=>rw [List.countP_cons,ih,List.map_cons,List.sum_cons];omega
 rw [e,e];exact Q0I _ h
end Go.Taq
