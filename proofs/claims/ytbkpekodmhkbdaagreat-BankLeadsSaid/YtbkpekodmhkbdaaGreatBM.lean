/- The mathematics, several parts in one text. -/
import Derived.Test.YtbkpekodmhkbdaaGreatBI
/- The mathematics, part BJ: the reference's Way (taquinref21.Way). -/
set_option linter.unusedVariables false
set_option linter.unusedSimpArgs false
namespace Go.Taq
open Go
section
end
end Go.Taq
/- The mathematics, part BK: the reference's Safe (taquinref21.Safe, alive). -/
set_option linter.unusedVariables false
set_option linter.unusedSimpArgs false
namespace Go.Taq
open Go
section
end
end Go.Taq
/- The mathematics, part BL: the reference's Check (taquinref21.Check). -/
set_option linter.unusedVariables false
set_option linter.unusedSimpArgs false
namespace Go.Taq
open Go
section
end
end Go.Taq
/- The mathematics, part BM: right homes exactly, in the program and in the reference. -/
set_option linter.unusedVariables false
set_option linter.unusedSimpArgs false
namespace Go.Taq
open Go
theorem Q0I:∀{a b:List Int},a.Nodup→(∀x,x∈a→x∈b)→b.length≤a.length→b.Nodup
 | [],b,_,_,h=>by
  have:b=[]:=List.length_eq_zero_iff.1 (by simpa using h)
  subst this;exact .nil
 | x :: a,b,hn,h,hl=>by
  have hn':=List.nodup_cons.1 hn
  have hx:x∈b:=h x (by simp)
  have hbl:=List.length_pos_of_mem hx
  have hsub:∀y,y∈a→y∈b.erase x:=fun y hy=>by
   have hne:y≠x:=fun e=>hn'.1 (e▸hy)
   exact (List.mem_erase_of_ne hne).2 (h y (by simp [hy]))
  have hbe:=List.length_erase_of_mem hx
  have h1:=Q0I (a:=a) (b:=b.erase x) hn'.2 hsub (by simp at hl;omega)
  have hx2:x∉b.erase x:=fun hm=>by
   have h2:=Zb (a:=a) (b:=(b.erase x).erase x) hn'.2 (fun y hy=>by
    have hne:y≠x:=fun e=>hn'.1 (e▸hy)
    exact (List.mem_erase_of_ne hne).2 (hsub y hy))
   rw [List.length_erase_of_mem hm] at h2
   have:=List.length_pos_of_mem hm
   simp at hl;omega
  exact (List.perm_cons_erase hx).nodup_iff.2 (List.nodup_cons.2 ⟨hx2,h1⟩)
theorem Q3b {l:List Int} (hl:l.length≤1000) {post:List Int→Prop} (hp:∀l':List Int,(l'.length=l.length↔l.Nodup∧∀c,c∈l→0≤c∧c<4096)→post l'):WB l post:=by
 unfold WB
 refine YN hl ?_
 unfold QJ QY
 have hm:l.length≤maxLen:=by unfold maxLen;omega
 have hT:∀c,∀{q:Bool→Prop},q (!(decide (c≥0)&&decide (c<4096)))→Xd c q:=fun c {q} hq=>by
  unfold Xd GD
  exact Zd hq
 refine Ww hm (fun c=>!(decide (c≥0)&&decide (c<4096))) (T:=fun c q=>Xd c q) (fun c _ q hq=>hT c hq) ?_
 refine Q1q hm 0 (fun c=>!(decide (c≥0)&&decide (c<4096))) (T:=fun c q=>Xd c q) (fun c _ q hq=>hT c hq) (post:=fun y=>Qg y _) ?_
 unfold Qg
 have h1:=List.length_filter_le (fun c:Int=>!(!(decide (c≥0)&&decide (c<4096)))) l
 refine⟨by omega,S_CompactI (by rw [(List.mergeSort_perm _ _).length_eq];omega) (hp _ ?_)⟩
 generalize hfl:l.filter (fun c:Int=>!(!(decide (c≥0)&&decide (c<4096))))=fl at h1 ⊢
 have hfm:∀c,c∈fl↔c∈l∧0≤c∧c<4096:=fun c=>by rw [←hfl,List.mem_filter];simp
 generalize hms:fl.mergeSort (fun a b=>decide (a≤b))=ms
 have hperm:ms.Perm fl:=hms▸List.mergeSort_perm _ _
 have hsrt:ms.Pairwise (fun a b=>a<b∨a=b):=by
  rw [←hms]
  refine (List.pairwise_mergeSort (fun a b c h1 h2=>?_) (fun a b=>?_) fl).imp (fun h=>?_)
  ·simp at h1 h2 ⊢;omega
  ·simp;omega
  ·have:=of_decide_eq_true h;omega
 have hlt:=Q7q (lt:=fun a b:Int=>a<b) (fun x y z h1 h2=>by rcases h1 with h | h <;> omega) hsrt ms.length (Nat.le_refl _)
 have hnd:(cmI ms ms.length).Nodup:=hlt.imp (fun h=>by omega)
 have hmem:∀x,x∈cmI ms ms.length↔x∈l∧0≤x∧x<4096:=fun x=>by
  rw [Q48 ms.length (Nat.le_refl _),List.take_length,hperm.mem_iff,hfm]
 constructor
 ·intro h
  have hn:=Q0I hnd (fun x hx=>((hmem x).1 hx).1) (by omega)
  refine⟨hn,fun c hc=>Classical.byContradiction fun hne=>?_⟩
  have:=Zb hnd (b:=l.erase c) (fun x hx=>by
   have hx':=(hmem x).1 hx
   have:x≠c:=fun e=>hne (e▸hx'.2)
   exact (List.mem_erase_of_ne this).2 hx'.1)
  rw [List.length_erase_of_mem hc] at this
  have:=List.length_pos_of_mem hc
  omega
 ·rintro⟨hn,hb⟩
  have:=Zb hn (fun x hx=>(hmem x).2 ⟨hx,hb x hx⟩)
  have:=Q60 (xs:=ms) ms.length
  have:=hperm.length_eq
  omega
def badH (s:ApiSite) (st:ApiState) (c:Int):Bool:=!isC s.Floor c||kd s.Floor c == 0||st.Dead.contains c||st.People.contains c||st.Robots.any fun r=>r.Dead&&r.Cell == c
structure Q51 (s:ApiSite) (st:ApiState) (homes:List Int):Prop where
 len:homes.length=st.Robots.length
 nd:homes.Nodup
 ok:∀c,c∈homes→badH s st c=false
section
variable {s:ApiSite} {st:ApiState} {homes:List Int}
theorem Q2D (hf:RF s.Floor) (hz:Sz st) (hh:homes.length≤1000) {post:Bool→Prop} (hF:¬Q51 s st homes→post false) (hT:Q51 s st homes→post true):GW s st homes post:=by
 have q2:=hz.rb;have q3:=hz.pp;have q4:=hz.dd
 have hn4:=hf.len.1
 unfold GW
 refine Jn.mk (fun x=>x=false↔homes.length=st.Robots.length∧homes.Nodup∧∀c,c∈homes→0≤c∧c<4096) (Ite.mk (fun h=>?_) (fun h=>Q3b hh fun l' hl'=>?_)) (fun x hx=>Ite.mk (fun h=>hF fun hr=>?_) (fun h=>?_))
 ·have:homes.length≠st.Robots.length:=fun e=>by rw [e] at h;simp at h
  show (true=false)↔_
  exact⟨fun h=>(by cases h),fun h=>absurd h.1 this⟩
 ·have h':homes.length=st.Robots.length:=by simp at h;omega
  have e:((l'.length:Int) != (homes.length:Int))=false↔l'.length=homes.length:=by simp;omega
  show ((l'.length:Int) != (homes.length:Int))=false↔_
  rw [e,hl']
  exact⟨fun h=>⟨h',h⟩,fun h=>h.2⟩
 ·have:x=false:=hx.2 ⟨hr.len,hr.nd,fun c hc=>by
   have:=hr.ok c hc
   unfold badH at this
   simp only [Bool.or_eq_false_iff,Bool.not_eq_false'] at this
   have:=QF.1 this.1.1.1.1
   omega⟩
  rw [this] at h;cases h
 obtain⟨hl,hnd,hrg⟩:=hx.1 h
 refine Jn.mk (fun l=>l=st.Dead++st.People) (YN q4 ⟨by omega,rfl⟩) (fun l hl2=>?_)
 refine Jn.mk (fun l=>l.length≤3000∧∀c,l.contains c=(st.Dead.contains c||st.People.contains c||st.Robots.any fun r=>r.Dead&&r.Cell == c)) (Kg (xs:=st.Robots) (by unfold maxLen;omega) (fun t:List Int×Int=>t.2) (fun i t=>t.1.length≤2000+i∧∀c,t.1.contains c=(st.Dead.contains c||st.People.contains c||(st.Robots.take i).any fun r=>r.Dead&&r.Cell == c)) rfl ⟨by rw [hl2,List.length_append];omega,fun c=>by rw [hl2];simp⟩ (fun i r t hx ht hI=>?_) (fun t h=>⟨by have:=h.1;omega,by have:=h.2;rw [List.take_length] at this;exact this⟩)) (fun l hl3=>?_)
 ·have:=(List.getElem?_eq_some_iff.1 hx).1
  obtain⟨hI1,hI2⟩:=hI
  rw [ht]
  refine Jn.mk (fun l=>l.length≤2000+(i+1)∧∀c,l.contains c=(st.Dead.contains c||st.People.contains c||(st.Robots.take (i+1)).any fun r=>r.Dead&&r.Cell == c)) (Ite.mk (fun h=>⟨by simp;omega,by simp;omega,fun c=>?_⟩) (fun h=>⟨by omega,fun c=>?_⟩)) (fun l h=>⟨rfl,h⟩)
  ·have e:=hI2 c
   rw [Qz hx,List.any_append,←Bool.or_assoc,←e]
   have h':r.Dead=true:=h
   have e3:(t.1++[r.Cell]).contains c=(t.1.contains c||r.Cell == c):=by
    rw [Bool.eq_iff_iff,Bool.or_eq_true,beq_iff_eq,List.contains_iff_mem,List.contains_iff_mem,List.mem_append,List.mem_singleton,eq_comm (a:=c)]
   show (t.1++[r.Cell]).contains c=(t.1.contains c||((r.Dead&&r.Cell == c)||false))
   rw [e3,h',Bool.true_and,Bool.or_false]
  ·have h':r.Dead=false:=h
   rw [Qz hx,List.any_append,←Bool.or_assoc,←hI2 c];simp [h']
 ·unfold QK QU
  refine Ww (by unfold maxLen;omega) (fun c=>badH s st c) (T:=fun c q=>Gm c s l q) (fun c _ q hq=>?_) ?_
  ·unfold Gm
   refine Jn.mk' ?_
   unfold badH at hq
   refine Ite.mk (fun h1=>?_) (fun h1=>Ite.mk (fun h2=>?_) (fun h2=>?_))
   ·have:isC s.Floor c=false:=by unfold isC;have:¬0≤c:=by simp at h1;omega
                                 rw [decide_eq_false this];rfl
    rw [this] at hq;exact hq
   ·have:isC s.Floor c=false:=by unfold isC;have:¬c<(s.Floor.Kind.length:Int):=by simp at h2;omega
                                 rw [decide_eq_false this];simp
    rw [this] at hq;exact hq
   ·have hc:isC s.Floor c=true:=QF.2 ⟨by simp at h1;omega,by simp at h2;omega⟩
    rw [hc] at hq
    refine⟨_,Ws hc,Ite.mk (fun h3=>?_) (fun h3=>K7 (by unfold maxLen;omega) ?_)⟩
    ·rw [h3] at hq;exact hq
    ·rw [h3] at hq
     rw [hl3.2 c]
     simpa using hq
  ·have e:=Z2 (p:=fun c=>badH s st c) (xs:=homes)
   show post (!decide (fidx (fun c=>badH s st c) homes≥0))
   rw [e]
   cases e2:homes.any (fun c=>badH s st c) with
   | false=>
    refine hT ⟨hl,hnd,fun c hc=>?_⟩
    rw [List.any_eq_false] at e2
    simpa using e2 c hc
   | true=>
    refine hF fun hr=>?_
    obtain⟨c,hc,hb⟩:=List.any_eq_true.1 e2
    rw [hr.ok c hc] at hb;cases hb
end
end Go.Taq
