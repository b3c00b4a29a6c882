/- The mathematics, several parts in one text. -/
import Derived.Test.YtlaehjhkcanffaaGreatGK
import Derived.Test.YtlaehjhkcanffaaGreatGE
import Derived.Test.YtlaehjhkcanffaaGreatNW
/- The mathematics, part GL: margins, who is covered, what is granted; ReachTells (chapter 33). -/
set_option linter.unusedVariables false
set_option linter.unusedSimpArgs false
namespace Go.Taq
open Go
theorem ZD {st:ApiState} (hz:Sz st) {post:List Int→Prop} (hp:∀l,Blk st l→l.length≤2000→post l):K7 st post:=by
 have q1:=hz.rb;have q2:=hz.dd
 unfold K7
 refine⟨by simp;omega,Jn.mk (fun t=>t=blkR st st.Robots.length) (XP (xs:=st.Robots) (by unfold maxLen;omega) (fun t:List Int×Int=>t.2) (fun i t=>t.1=blkR st i) rfl (by simp [blkR]) (fun i r t hr ht hI=>?_) (fun t hI=>hI)) (fun t ht=>?_)⟩
 ·have hi:=(List.getElem?_eq_some_iff.1 hr).1
  have hl:=Yq (st:=st) i
  rw [ht]
  refine Jn.mk (fun u=>u=blkR st (i+1)) (Ite.mk (fun h=>⟨by rw [hI];simp;omega,?_⟩) (fun h=>?_)) (fun u hu=>⟨rfl,hu⟩)
  ·rw [YE hr,if_pos h,hI]
  ·rw [YE hr,if_neg (by rw [h];simp),hI];simp
 ·subst ht
  have hl:=Yq (st:=st) st.Robots.length
  refine Jn.mk (fun o=>Blk st o∧o.length≤2000) (Loop.mk (fun t:List Int×List Int=>t.2.Pairwise (· < ·)∧(∀a,a∈t.2→∀b,b∈t.1→a<b)∧t.1.length+t.2.length≤2000∧∀a,a∈blkR st st.Robots.length↔a∈t.1∨a∈t.2) (fun t=>t.1.length) ⟨List.Pairwise.nil,fun a ha=>(by cases ha),by simp;omega,fun a=>by simp⟩ ?_) (fun o ho=>hp o ho.1 ho.2)
  rintro⟨rest,out⟩ ⟨h1,h2,h3,h4⟩
  simp only at h1 h2 h3 h4
  match rest,h2,h3,h4 with
  | [],h2,h3,h4=>exact Ite.f (by simp) ⟨⟨h1,fun a=>by rw [←Q0Y,h4];simp⟩,by simp at h3;exact h3⟩
  | x0 :: r,h2,h3,h4=>
   have hlen:(x0 :: r).length=r.length+1:=rfl
   rw [hlen] at h3
   refine Ite.t (decide_eq_true (by rw [hlen];omega)) (Jn.mk (fun t:List Int×List Int=>(t.2.Pairwise (· < ·)∧(∀a,a∈t.2→∀b,b∈t.1→a<b)∧t.1.length+t.2.length≤2000∧∀a,a∈blkR st st.Robots.length↔a∈t.1∨a∈t.2)∧t.1.length<(x0 :: r).length) ⟨x0,rfl,?_⟩ (fun t ht=>ht))
   generalize hxs:x0 :: r=xs at *
   have hx0:xs[0]?=some x0:=by rw [←hxs];rfl
   refine Jn.mk (fun m=>m∈xs∧∀b,b∈xs→m≤b) (Loop.mk (fun t:Int×Int=>∃i:Nat,t.2=(i:Int)∧1≤i∧i≤xs.length∧t.1∈xs∧∀b,b∈xs.take i→t.1≤b) (fun t=>xs.length-t.2.toNat) ⟨1,rfl,by omega,by omega,List.mem_of_getElem? hx0,fun b hb=>by
    rw [←hxs] at hb;simp at hb;subst hb;exact Int.le_refl _⟩ ?_) (fun m hm=>⟨by simp;omega,?_⟩)
   ·rintro⟨m,ii⟩ ⟨i,e,i1,i2,i3,i4⟩
    simp only at e i3 i4
    subst e
    refine Ite.mk (fun hlt=>?_) (fun hlt=>?_)
    ·have hlt':i<xs.length:=by have:=of_decide_eq_true hlt;simp at this;exact this
     have ha:=List.getElem?_eq_getElem hlt'
     generalize xs[i]=a at ha
     refine⟨a,Qe rfl ha,⟨i+1,by show w64 _=_;rw [Q6 (by omega) (by omega)];simp,by omega,by omega,?_,fun b hb=>?_⟩,?_⟩
     ·show imin m a∈xs
      unfold imin;split
      ·exact List.mem_of_getElem? ha
      ·exact i3
     ·show imin m a≤b
      rcases (Q0x ha).1 hb with hb | hb
      ·have:=i4 b hb;unfold imin;split <;> omega
      ·subst hb;unfold imin;split <;> omega
     ·show xs.length-(w64 ((i:Int)+1)).toNat<xs.length-((i:Int)).toNat
      rw [Q6 (by omega) (by omega)];omega
    ·have hie:i=xs.length:=by have:¬((i:Int)<xs.length):=of_decide_eq_false hlt;omega
     rw [hie,List.take_length] at i4
     exact⟨i3,i4⟩
   ·obtain⟨m1,m2⟩:=hm
    refine Jn.mk (fun t=>t=xs.filter (fun b=>decide (b≠m))) (XP (xs:=xs) (by unfold maxLen;omega) (fun t:List Int×Int=>t.2) (fun i t=>t.1=(xs.take i).filter (fun b=>decide (b≠m))) rfl (by simp) (fun i a t ha ht hI=>?_) (fun t hI=>by rw [List.take_length] at hI;exact hI)) (fun t ht=>?_)
    ·have hi:=(List.getElem?_eq_some_iff.1 ha).1
     have hfl:=List.length_filter_le (fun b:Int=>decide (b≠m)) (xs.take i)
     rw [List.length_take] at hfl
     rw [ht]
     refine Jn.mk (fun u=>u=(xs.take (i+1)).filter (fun b=>decide (b≠m))) (Ite.mk (fun h=>⟨by rw [hI,List.length_singleton];omega,?_⟩) (fun h=>?_)) (fun u hu=>⟨rfl,hu⟩)
     ·have h':a≠m:=by simpa using h
      rw [QE ha,List.filter_append,hI];simp [h']
     ·have h':a=m:=by simpa using h
      rw [QE ha,List.filter_append,hI];simp [h']
    ·subst ht
     have hmf:∀b,b∈xs.filter (fun b=>decide (b≠m))↔b∈xs∧b≠m:=fun b=>by simp
     have hlt:(xs.filter (fun b=>decide (b≠m))).length<xs.length:=by
      have h5:=List.length_filter_le (fun b:Int=>decide (b≠m)) xs
      rcases Nat.lt_or_ge (xs.filter (fun b=>decide (b≠m))).length xs.length with h | h
      ·exact h
      ·have:=List.length_filter_eq_length_iff.1 (by omega:(xs.filter (fun b=>decide (b≠m))).length=xs.length) m m1
       simp at this
     refine⟨⟨?_,fun a ha b hb=>?_,?_,fun a=>?_⟩,hlt⟩
     ·refine List.pairwise_append.2 ⟨h1,by simp,fun a ha b hb=>?_⟩
      simp at hb;subst hb;exact h2 a ha _ m1
     ·obtain⟨b1,b2⟩:=(hmf b).1 hb
      have:=m2 b b1
      rcases List.mem_append.1 ha with ha | ha
      ·exact h2 a ha b b1
      ·simp at ha;subst ha;omega
     ·show (xs.filter (fun b=>decide (b≠m))).length+(out++[m]).length≤2000
      rw [List.length_append,List.length_singleton]
      have:xs.length=r.length+1:=by rw [←hxs];rfl
      omega
     ·show _↔a∈xs.filter (fun b=>decide (b≠m))∨a∈out++[m]
      rw [h4,hmf,List.mem_append]
      by_cases e:a=m
      ·subst e;simp [m1]
      ·simp [e]
theorem Q4e {st:ApiState} (hz:Sz st):∃l,Blk st l∧l.length≤2000:=by
 have q1:=hz.rb;have q2:=hz.dd
 have hl:=Yq (st:=st) st.Robots.length
 have hperm:=List.mergeSort_perm (blkR st st.Robots.length) (fun x y=>decide (x≤y))
 have hsort:((blkR st st.Robots.length).mergeSort fun x y=>decide (x≤y)).Pairwise (fun x y=>x<y∨x=y):=by
  have:=List.pairwise_mergeSort (le:=fun x y:Int=>decide (x≤y)) (fun a b c h1 h2=>by simp at *;omega) (fun a b=>by simp;omega) (blkR st st.Robots.length)
  exact this.imp (fun h=>by simp at h;omega)
 have hlen:=hperm.length_eq
 generalize (blkR st st.Robots.length).mergeSort (fun x y=>decide (x≤y))=m at *
 refine⟨cmI m m.length,⟨Q2b (lt:=(· < ·)) (fun x y z h1 h2=>by omega) hsort m.length (Nat.le_refl _),fun a=>?_⟩,by have:=Q0G (xs:=m) m.length;omega⟩
 rw [Zq m.length (Nat.le_refl _),List.take_length,hperm.mem_iff]
 exact Q0Y
/-! ## margins -/
def mgV (r:Qz) (v:Int):Int×Bool:=if r.Dead=true∨v<0 then (0,false) else (w64 (w64 (r.Charge-v)-w64 (w64 (r.Rest+r.Mute)*3)),true)
noncomputable def mgS (s:ApiSite) (st:ApiState) (L:List Int) (D i:Int):Int×Bool:=if i<0∨i≥st.Robots.length then (0,false) else mgV (st.Robots.getD i.toNat default) (nd s L D s.Floor.Kind.length (st.Robots.getD i.toNat default).Cell.toNat)
section
variable {s:ApiSite} {st:ApiState} {L:List Int} {D:Int}
/-! ## who is covered -/
def Bad (s:ApiSite) (st:ApiState) (L:List Int) (D:Int) (k:Nat):Prop:=(∃r,st.Robots[k]?=some r∧r.Dead=false)∧((mgS s st L D k).2=true→(mgS s st L D k).1<0)
structure CovR (s:ApiSite) (st:ApiState) (L:List Int) (D:Int) (v:Int):Prop where
 is:(∃k:Nat,v=(k:Int)∧k<st.Robots.length∧Bad s st L D k∧∀j,j<k→¬Bad s st L D j)∨(v=-1∧∀j,j<st.Robots.length→¬Bad s st L D j)
theorem CovR.uniq {v w:Int} (h:CovR s st L D v) (h':CovR s st L D w):v=w:=by
 rcases h.is with ⟨k,e,k1,k2,k3⟩ | ⟨e,k1⟩ <;> rcases h'.is with ⟨j,f,j1,j2,j3⟩ | ⟨f,j1⟩
 ·rcases Nat.lt_trichotomy k j with h | h | h
  ·exact absurd k2 (j3 k h)
  ·rw [e,f,h]
  ·exact absurd j2 (k3 j h)
 ·exact absurd k2 (j1 k k1)
 ·exact absurd j2 (k1 j j1)
 ·rw [e,f]
/-! ## what is granted -/
end
end Go.Taq
/- The mathematics, part GM: fuel is bounded; ReachGrants (chapter 33). -/
set_option linter.unusedVariables false
set_option linter.unusedSimpArgs false
namespace Go.Taq
open Go
section
end
end Go.Taq
/- The mathematics, part BH: the reference's search over floors (taquinref07.spread, Path). -/
set_option linter.unusedVariables false
set_option linter.unusedSimpArgs false
namespace Go.Taq
open Go
end Go.Taq
/- The mathematics, part BI: the reference's Path and Way (taquinref07.Path, taquinref21.Way). -/
set_option linter.unusedVariables false
set_option linter.unusedSimpArgs false
namespace Go.Taq
open Go
section
end
end Go.Taq
/- The mathematics, part BJ: the reference's Way (taquinref21.Way). -/
set_option linter.unusedVariables false
set_option linter.unusedSimpArgs false
namespace Go.Taq
open Go
theorem WayL.congr {f:ApiFloor} {a b:Int} {l l':List Int} {k:Nat} {p:List Int} (h:WayL f l a b k p) (hm:∀c,c∈l↔c∈l'):WayL f l' a b k p where
 len:=h.len
 hd:=h.hd
 lst:=h.lst
 st:=h.st
 ok:=fun x hx=>⟨(h.ok x hx).1,(h.ok x hx).2.1,fun hh=>(h.ok x hx).2.2 ((hm x).2 hh)⟩
 pb:=fun j x hx=>(PB.congr hm).1 (h.pb j x hx)
 kb:=h.kb
 ft:=fun j hj=>by
  obtain⟨x,y,d,g1,g2,g3,g4,g5,g6,g7⟩:=h.ft j hj
  exact⟨x,y,d,g1,g2,g3,g4,g5,(Dm.congr hm).1 g6,fun d' e0 e1 hc=>g7 d' e0 e1 ⟨hc.1,(Dm.congr hm).2 hc.2⟩⟩
section
end
end Go.Taq
/- The mathematics, part BK: the reference's Safe (taquinref21.Safe, alive). -/
set_option linter.unusedVariables false
set_option linter.unusedSimpArgs false
namespace Go.Taq
open Go
section
end
end Go.Taq
