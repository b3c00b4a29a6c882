/- The mathematics, several parts in one text. -/
import Derived.Test.YtpckofngkabgbaaGreatBA
import Derived.Test.YtpckofngkabgbaaGreatNG
/- The mathematics, part NV: zones in the reference. -/
set_option linter.unusedVariables false
namespace Go.Taq
open Go
theorem Q2i {r:List Int} (hl:r.length≤1000000000) (ha:Asc r) {c:Int} {post:Bool→Prop} (hp:post (r.contains c)):KU r c post:=by
 unfold KU
 refine Jn.mk (fun i:Int=>0≤i∧i≤r.length∧(∀(j:Nat) x,(j:Int)<i→r[j]?=some x→x<c)∧(∀(j:Nat) x,i≤(j:Int)→r[j]?=some x→c≤x))
  (Loop.mk (fun s:Int×Int=>0≤s.1∧s.1≤s.2∧s.2≤r.length∧(∀(j:Nat) x,(j:Int)<s.1→r[j]?=some x→x<c)∧(∀(j:Nat) x,s.2≤(j:Int)→r[j]?=some x→c≤x)) (fun s=>(s.2-s.1).toNat) ⟨by simp,by simp,by simp,fun j x hj=>absurd hj (by simp),fun j x hj hx=>?_⟩ ?_) ?_
 ·have:=(List.getElem?_eq_some_iff.1 hx).1
  simp at hj;omega
 ·rintro⟨i,j⟩ ⟨h0,h1,h2,h3,h4⟩
  simp only at h0 h1 h2 h3 h4
  refine Ite.mk (fun hlt=>?_) (fun hge=>?_)
  ·simp only [decide_eq_true_eq] at hlt
   have e:w64 ((w64 (i+j)).tdiv 2)=(i+j) / 2:=by
    rw [K8 (x:=i+j) (by omega) (by omega),Int.tdiv_eq_ediv_of_nonneg (by omega),K8 (by omega) (by omega)]
   simp only []
   rw [e]
   have hmid:i≤(i+j) / 2∧(i+j) / 2<j:=by omega
   refine⟨_,YG (by omega) (by omega),?_⟩
   generalize hx:r[((i+j) / 2).toNat]'(by omega)=x
   have hx':r[((i+j) / 2).toNat]?=some x:=by rw [List.getElem?_eq_getElem (by omega),hx]
   refine Jn.mk' (Ite.mk (fun h5=>?_) (fun h5=>?_))
   ·simp at h5
    rw [K8 (by omega) (by omega)]
    refine⟨⟨by omega,by simp only [];omega,by simp only [];omega,fun q y hq hy=>?_,h4⟩,by simp only [];omega⟩
    rcases Nat.lt_or_ge q ((i+j) / 2).toNat with h6 | h6
    ·exact Int.lt_trans (ha _ _ _ _ h6 hy hx') h5
    ·have:q=((i+j) / 2).toNat:=by simp only [] at hq;omega
     subst this;rw [hx'] at hy;cases hy;exact h5
   ·simp at h5
    refine⟨⟨by omega,by simp only [];omega,by simp only [];omega,h3,fun q y hq hy=>?_⟩,by simp only [];omega⟩
    rcases Nat.lt_or_ge ((i+j) / 2).toNat q with h6 | h6
    ·have:=ha _ _ _ _ h6 hx' hy;omega
    ·have:q=((i+j) / 2).toNat:=by simp only [] at hq;omega
     subst this;rw [hx'] at hy;cases hy;omega
  ·simp only [decide_eq_false_iff_not] at hge
   have:i=j:=by omega
   subst this
   exact⟨h0,h2,h3,h4⟩
 ·rintro i ⟨h0,h1,h3,h4⟩
  have hc:r.contains c=true↔∃j:Nat,r[j]?=some c:=by
   rw [List.contains_iff_mem];exact List.mem_iff_getElem?
  refine Ite.mk (fun h5=>?_) (fun h5=>?_)
  ·simp at h5
   cases hcc:r.contains c
   ·rw [hcc] at hp;exact hp
   ·obtain⟨j,hj⟩:=hc.1 hcc
    have:=(List.getElem?_eq_some_iff.1 hj).1
    have:=h3 j c (by omega) hj;omega
  ·simp at h5
   have hlt:i<r.length:=by omega
   refine⟨_,YG h0 hlt,?_⟩
   generalize hx:r[i.toNat]'(by omega)=x
   have hx':r[i.toNat]?=some x:=by rw [List.getElem?_eq_getElem (by omega),hx]
   have:(x == c)=r.contains c:=by
    rw [Bool.eq_iff_iff,hc,beq_iff_eq]
    constructor
    ·rintro rfl;exact⟨_,hx'⟩
    ·rintro⟨j,hj⟩
     rcases Nat.lt_trichotomy j i.toNat with h6 | h6 | h6
     ·have:=h3 j c (by omega) hj;omega
     ·subst h6;rw [hx'] at hj;cases hj;rfl
     ·have:=ha _ _ _ _ h6 hx' hj
      have:=h4 i.toNat x (by omega) hx'
      omega
   rw [this];exact hp
theorem zlen {s:ApiSite} (h:YH s) {z:Qx} (hz:z∈s.Zones):z.Cells.length≤s.Floor.Kind.length:=by
 have ha:=h.rs.asc z hz
 have hc:=h.rs.zc z hz
 have key:∀(i:Nat) x,z.Cells[i]?=some x→(i:Int)≤x:=by
  intro i
  induction i with
  | zero=>intro x hx;have:=Xx.1 (hc x (List.mem_of_getElem? hx));omega
  | succ i ih=>
   intro x hx
   have hlt:=(List.getElem?_eq_some_iff.1 hx).1
   have hy:z.Cells[i]?=some (z.Cells[i]'(by omega)):=List.getElem?_eq_getElem _
   have:=ih _ hy
   have:=ha i (i+1) _ x (by omega) hy hx
   omega
 rcases Nat.eq_zero_or_pos z.Cells.length with e | e
 ·omega
 ·have hx:z.Cells[z.Cells.length-1]?=some (z.Cells[z.Cells.length-1]'(by omega)):=List.getElem?_eq_getElem _
  have h1:=key _ _ hx
  have h2:=Xx.1 (hc _ (List.mem_of_getElem? hx))
  omega
theorem Q0K {s:ApiSite} (k:OkApiSite s) (h:YH s) {c:Int} {post:Int→Prop} (hp:post (zn s c)):KL s c post:=by
 unfold KL
 refine Q00 k.Zones.1 (fun z:Qx=>z.Cells.contains c) (T:=fun z post=>KU z.Cells c post) (fun z hz post hq=>?_) hp
 have:=zlen h hz;have:=h.fl.len.1
 exact Q2i (by omega) (h.rs.asc z hz) hq
theorem Q1k {s:ApiSite} (k:OkApiSite s) (h:YH s) {c:Int} {post:Int→Prop} (hp:post (spd s c)):KZ s c post:=by
 unfold KZ
 refine Q0K k h (Ite.mk (fun h1=>?_) (fun h1=>⟨_,Q3m (by simpa using h1),?_⟩))
 ·simp at h1;rw [spd,if_pos h1] at hp;exact hp
 ·simp at h1;rw [spd,if_neg (by omega)] at hp;exact hp
end Go.Taq
/- The mathematics, part NJ: the reference of the rules; RulesTell. -/
set_option linter.unusedVariables false
set_option linter.unusedSimpArgs false
namespace Go.Taq
open Go
section
end
theorem Q1g {a b:List Int} (hm:a.length≤maxLen) {post:Bool→Prop} (hp:a=b→post true) (hab:a=b):Km a b post:=by
 subst hab
 unfold Km
 refine Ite.f (by simp) ?_
 refine Jn.mk (fun _=>True) (GJ hm (fun t=>t) (fun _ _=>True) rfl trivial (fun n x t hx ht _=>⟨x,by rw [ht];exact Qo rfl hx,Ite.f (by simp) ⟨by rw [ht],trivial⟩⟩) (fun _ _=>trivial)) (fun _ _=>hp rfl)
end Go.Taq
/- The mathematics, part OA: batteries, and the slots of a state. -/
set_option linter.unusedVariables false
set_option linter.unusedSimpArgs false
namespace Go.Taq
open Go
end Go.Taq
/- The mathematics, part OB: the slots of a state, in both; who carries. -/
set_option linter.unusedVariables false
set_option linter.unusedSimpArgs false
namespace Go.Taq
open Go
def low (c:Int):Int:=w64 (2*c)
def high (c:Int):Int:=w64 (w64 (2*c)+1)
section
end
end Go.Taq
/- The mathematics, part OC: right states (taquinref14.Right, Few); the bounds of the statements about actions. -/
set_option linter.unusedVariables false
set_option linter.unusedSimpArgs false
namespace Go.Taq
open Go
def kx (f:ApiFloor) (c:Int):Int:=if isC f c=true then kd f c else -1
section
end
end Go.Taq
/- The mathematics, part NW: a step in the floor's reference. -/
set_option linter.unusedVariables false
namespace Go.Taq
open Go
end Go.Taq
/- The mathematics, part OD: which actions are legal, and what they do. -/
set_option linter.unusedVariables false
set_option linter.unusedSimpArgs false
namespace Go.Taq
open Go
section
end
end Go.Taq
/- The mathematics, part OE: what actions do, in both; equal states. -/
set_option linter.unusedVariables false
set_option linter.unusedSimpArgs false
namespace Go.Taq
open Go
section
theorem S_clone {α:Type} {xs:List α} (hl:xs.length≤1099511627776) {post:List α→Prop} (hp:post xs):∀hb5:Bool,(hb5=true→xs=[])→Ite (hb5 == true) (post []) ((([]:List α).length+xs.length≤1099511627776)∧post (([]:List α)++xs)):=by
 intro b hb
 refine Ite.mk (fun h=>?_) (fun h=>⟨by simp;omega,by rw [List.nil_append];exact hp⟩)
 rw [hb (by simpa using h)] at hp;exact hp
theorem Q04 {xs:List Int} (hl:xs.length≤1000) {post:List Int→Prop} (hp:post xs):QV xs post:=by
 unfold QV;exact S_clone (by omega) hp
end
end Go.Taq
