/- The mathematics, several parts in one text. -/
import Derived.Test.YtlaehjhkcanffaaAA
import Derived.Test.YtlaehjhkcanffaaNE
import Derived.Test.YtlaehjhkcanffaaVc
import Derived.IntWalk
/- The mathematics, part AB: faults: which can happen, and what they do (arena.Possible, Happen and their references). -/
set_option linter.unusedVariables false
set_option linter.unusedSimpArgs false
namespace Go.Taq
open Go
def k0 (f:ApiFloor) (c:Int):Int:=if isC f c=true then kd f c else 0
section
/-! ## what happens -/
end
end Go.Taq
/- The mathematics, part AC: what a fault does (arena.Happen and its reference). -/
set_option linter.unusedVariables false
set_option linter.unusedSimpArgs false
namespace Go.Taq
open Go
section
end
end Go.Taq
/- The mathematics, part AD: what happens, and what robots do, leaves a state right. -/
set_option linter.unusedVariables false
set_option linter.unusedSimpArgs false
namespace Go.Taq
open Go
section
end
end Go.Taq
/- The mathematics, part AE: the end of a tick; a whole tick (arena.Step and its reference). -/
set_option linter.unusedVariables false
set_option linter.unusedSimpArgs false
namespace Go.Taq
open Go
section
/-! ## lengths -/
end
end Go.Taq
/- The mathematics, part AF: right states and right sites by the program's own functions; the bounds of the statements of chapter 16. -/
set_option linter.unusedVariables false
set_option linter.unusedSimpArgs false
namespace Go.Taq
open Go
section
/-! ## a bare site is right -/
/-! ## bounds -/
end
end Go.Taq
/- The mathematics, part AR: slices.Repeat of one number. -/
set_option linter.unusedVariables false
set_option linter.unusedSimpArgs false
namespace Go.Taq
open Go
theorem wu64 {x:Int} (h0:0≤x) (h1:x<18446744073709551616):IntKind.wrap .u64 x=x:=by
 show x % 18446744073709551616=x;omega
theorem Q0W {n:Int} (h0:0≤n) (h1:n<4294967296):band .u64 n 4294967295=n:=by
 obtain⟨m,rfl⟩:=Int.eq_ofNat_of_zero_le h0
 have hm:m<4294967296:=by omega
 unfold band
 have e:(BitVec.ofInt IntKind.u64.bits (m:Int) &&& BitVec.ofInt IntKind.u64.bits 4294967295).toNat=m:=by
  show (BitVec.ofInt 64 (m:Int) &&& BitVec.ofInt 64 4294967295).toNat=m
  rw [BitVec.toNat_and]
  have e1:(BitVec.ofInt 64 (m:Int)).toNat=m:=by
   rw [BitVec.toNat_ofInt]
   have:((m:Int) % ((2 ^ 64:Nat):Int))=m:=by omega
   rw [this];simp
  have e2:(BitVec.ofInt 64 4294967295).toNat=2 ^ 32-1:=by decide
  rw [e1,e2,Nat.and_two_pow_sub_one_eq_mod]
  omega
 rw [e]
 exact wu64 h0 (by omega)
theorem Q20 {n:Int} (h0:0≤n) (h1:n<4294967296):shrI .u64 n 32=0:=by
 show n.fdiv (2 ^ (min (32:Int).toNat IntKind.u64.bits))=0
 have:(2:Int) ^ (min (32:Int).toNat IntKind.u64.bits)=4294967296:=by decide
 rw [this,Int.fdiv_eq_ediv_of_nonneg _ (by decide)]
 omega
theorem ZO {n:Nat} (hn:n<4294967296) {post:Int×Int→Prop} (hp:post (0,(n:Int))):Ky 1 (n:Int) post:=by
 unfold Ky KF
 have a1:=Q20 (n:=1) (by decide) (by decide)
 have a2:=Q20 (n:=(n:Int)) (by omega) (by omega)
 have a3:=Q0W (n:=1) (by decide) (by decide)
 have a4:=Q0W (n:=(n:Int)) (by omega) (by omega)
 rw [a1,a2,a3,a4]
 simp only [Int.zero_mul,Int.mul_zero,Int.one_mul,Int.zero_add,Int.add_zero]
 rw [wu64 (x:=(n:Int)) (by omega) (by omega),wu64 (x:=0) (by decide) (by decide)]
 have z:shrI .u64 0 32=0:=Q20 (by decide) (by decide)
 have b0:band .u64 0 4294967295=0:=Q0W (by decide) (by decide)
 simp only [a2,z,b0,Int.zero_add,Int.add_zero,wu64 (x:=0) (by decide) (by decide)]
 exact hp
theorem WR {x:Int} {n:Nat} (hn:n≤1000000) {post:List Int→Prop} (hp:post (List.replicate n x)):QD [x] (n:Int) post:=by
 unfold QD
 refine Ite.f (by simp) ?_
 have e1:IntKind.wrap .u64 ((([x]:List Int).length:Nat):Int)=1:=wu64 (by simp) (by simp)
 have e2:IntKind.wrap .u64 (n:Int)=n:=wu64 (by omega) (by omega)
 rw [e1,e2]
 refine ZO (by omega) (Jor2 (Ite.f (by simp;omega) ?_))
 have e3:IntKind.wrap .i64 (n:Int)=n:=Qn (by omega) (by omega)
 simp only [e3]
 refine⟨⟨by omega,by omega⟩,?_⟩
 have tn:((n:Int)).toNat=n:=by omega
 simp only [tn,List.length_replicate,List.length_singleton,List.take_zero,List.nil_append,Nat.zero_add]
 refine Jn.mk (fun l=>l=List.replicate n x) (Loop.mk (fun t:List Int×Int=>t.1.length=n∧∃k:Nat,t.2=(k:Int)∧k≤n∧(n=0∨1≤k)∧t.1.take k=List.replicate k x) (fun t=>n-t.2.toNat) ?_ ?_) (fun l hl=>hl▸hp)
 ·refine⟨by simp;omega,min 1 n,by (first | (simp;done) | (simp;omega)),by omega,by omega,?_⟩
  cases n with
  | zero=>simp
  | succ m=>
   have:min 1 (m+1)=1:=by omega
   rw [this];simp
 ·rintro⟨l,t⟩ ⟨hl,k,ht,hk,h0,htk⟩
  simp only at hl ht htk
  subst ht
  refine Ite.mk (fun h=>?_) (fun h=>?_)
  ·have hlt:k<n:=by simp [hl] at h;omega
   have t1:((k:Int)).toNat=k:=by omega
   have t2:((k:Int)-0).toNat=k:=by omega
   have t3:((l.length:Int)-(k:Int)).toNat=n-k:=by omega
   simp only [t1,t2,t3]
   have d0:l.drop (Int.toNat 0)=l:=by simp
   rw [d0,htk]
   simp only [List.length_replicate,List.take_replicate]
   refine⟨⟨by omega,by omega,by omega⟩,⟨by omega,by omega,by omega⟩,by omega,by omega,⟨?_,k+min k (n-k),?_,by omega,by omega,?_⟩,?_⟩
   ·simp [hl];omega
   ·rw [Qn (by omega) (by omega)];(first | (simp;done) | (simp;omega))
   ·rw [←List.append_assoc,List.take_append_of_le_length (by simp)]
    rw [List.take_of_length_le (by simp)]
    rw [List.replicate_append_replicate];congr 1;omega
   ·rw [Qn (by omega) (by omega)];omega
  ·have hlt:¬k<n:=by simp [hl] at h;omega
   have:k=n:=by omega
   subst this
   show l=_
   rw [←htk,List.take_of_length_le (by omega)]
end Go.Taq
