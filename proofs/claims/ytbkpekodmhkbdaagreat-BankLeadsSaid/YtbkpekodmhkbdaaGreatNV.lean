/- The mathematics, several parts in one text. -/
import Derived.Test.YtbkpekodmhkbdaaGreatND
import Derived.Test.YtbkpekodmhkbdaaGreatQA
/- The mathematics, part NE: dropping; the rules' statements: bounds, examples. -/
set_option linter.unusedVariables false
set_option linter.unusedSimpArgs false
namespace Go.Taq
open Go
def dHit (st:ApiState) (shelf c:Int) (i:Nat):Bool:=!((i:Int) == shelf)&&!carB st i&&(st.Shelves.getD i 0 == c)
def dAp (s:ApiSite) (st:ApiState) (shelf c:Int) (i:Nat):Bool:=!((i:Int) == shelf)&&!carB st i&&Q08 s.Floor (st.Shelves.getD i 0) c&&nev s (clsS s shelf) (clsS s i)
def Q2L (s:ApiSite) (st:ApiState) (shelf c:Int):Int:=
 if shelf<0∨shelf≥st.Shelves.length then 4 else if stB s c=false then 13 else if (List.range st.Shelves.length).any (dHit st shelf c)=true then 13 else if (List.range st.Shelves.length).any (dAp s st shelf c)=true then 17 else 0
theorem Zm (p:Nat→Bool) (n:Nat):(List.range (n+1)).any p=((List.range n).any p||p n):=by rw [List.range_succ,List.any_append];simp
theorem ZZ {p:Nat→Bool} {n i:Nat} (hi:i<n) (hp:p i=true):(List.range n).any p=true:=List.any_eq_true.2 ⟨i,by simpa using hi,hp⟩
section
variable {s:ApiSite} {st:ApiState}
theorem Q7D {l:List Int} {n:Nat} {x:Int} (h:l[n]?=some x):l.getD n 0=x:=by rw [List.getD_eq_getElem?_getD,h];rfl
theorem Q3j (ks:QX s) (k:QM st) (hf:RF s.Floor) (hl:st.Shelves.length≤1000000) {shelf c:Int} {post:Int→Prop} (hp:post (Q2L s st shelf c)):GZ s st shelf c post:=by
 unfold GZ
 refine Jor2 (Ite.mk (fun h=>?_) (fun h=>Q1I (Ite.mk (fun h2=>?_) (fun h2=>?_))))
 ·unfold Q2L at hp;rw [if_pos (by simp at h;omega)] at hp;exact hp
 ·unfold Q2L at hp;rw [if_neg (by simp at h;omega),if_pos (by simpa using h2)] at hp;exact hp
 ·unfold Q2L at hp;rw [if_neg (by simp at h;omega),if_neg (by simp at h2;simp [h2])] at hp
  refine Jn.mk (fun e=>(List.range st.Shelves.length).any (dHit st shelf c)=false∧e=if (List.range st.Shelves.length).any (dAp s st shelf c)=true then 17 else 0)
   (Q2C (xs:=st.Shelves) k.Shelves.1 (fun t:Int×Int=>t.2) (fun n (t:Int×Int)=>(List.range n).any (dHit st shelf c)=false∧t.1=if (List.range n).any (dAp s st shelf c)=true then 17 else 0) rfl ⟨rfl,rfl⟩ (fun n x t hx ht hI=>?_) (fun t h=>h)) (fun e he=>by rw [he.1] at hp;rw [he.2];exact hp)
  have hn:=(List.getElem?_eq_some_iff.1 hx).1
  have hxg:=Q7D hx
  rw [ht]
  refine Jn.mk (fun e=>(List.range (n+1)).any (dHit st shelf c)=false∧e=if (List.range (n+1)).any (dAp s st shelf c)=true then 17 else 0) ⟨x,Qn rfl hx,?_⟩ (fun e he=>⟨rfl,he⟩)
  rw [Zm,Zm,hI.1,hI.2]
  refine Jn.mk (fun b=>(b=true→dHit st shelf c n=false∧dAp s st shelf c n=false)∧(b=false→((n:Int) == shelf)=false∧carB st n=false∧(x≠c→Q08 s.Floor x c=true))) ?_ (fun b hb=>Ite.mk (fun h3=>?_) (fun h3=>?_))
  ·refine Ite.mk (fun h3=>⟨fun _=>⟨by unfold dHit;rw [h3];rfl,by unfold dAp;rw [h3];rfl⟩,fun h=>by cases h⟩) (fun h3=>Ite.mk (fun h4=>Q0K hf (Ite.mk (fun h5=>Wr k ⟨fun h6=>?_,fun h6=>?_⟩) (fun h5=>⟨fun _=>⟨?_,?_⟩,fun h=>by cases h⟩))) (fun h4=>Wr k ⟨fun h6=>?_,fun h6=>?_⟩))
   ·have:carB st n=true:=by unfold carB;simpa using h6
    exact⟨by unfold dHit;rw [this];simp,by unfold dAp;rw [this];simp⟩
   ·have:carB st n=false:=by unfold carB;simpa using h6
    exact⟨h3,this,fun _=>h5⟩
   ·unfold dHit;rw [hxg];simp at h4;simp [h4]
   ·unfold dAp;rw [hxg,h5];simp
   ·have:carB st n=true:=by unfold carB;simpa using h6
    exact⟨by unfold dHit;rw [this];simp,by unfold dAp;rw [this];simp⟩
   ·have:carB st n=false:=by unfold carB;simpa using h6
    exact⟨h3,this,fun h=>absurd (by simpa using h4) h⟩
  ·rw [(hb.1 h3).1,(hb.1 h3).2];exact⟨by simp,by simp⟩
  ·obtain⟨g1,g2,g3⟩:=hb.2 h3
   refine Ite.mk (fun h4=>?_) (fun h4=>ZK (ZK (Q2s ks ?_)))
   ·have:dHit st shelf c n=true:=by unfold dHit;rw [g1,g2,hxg,h4];rfl
    rw [ZZ hn this] at hp;exact hp
   ·have e1:dHit st shelf c n=false:=by unfold dHit;rw [hxg,h4];simp
    have e2:dAp s st shelf c n=nev s (clsS s shelf) (clsS s n):=by unfold dAp;rw [g1,g2,hxg,g3 (by simpa using h4)];rfl
    rw [e1,e2]
    refine Jn.mk (fun e=>e=if ((List.range n).any (dAp s st shelf c)||nev s (clsS s shelf) (clsS s n))=true then 17 else 0) (Ite.mk (fun h5=>by rw [h5];simp) (fun h5=>by rw [h5];simp)) (fun e he=>⟨by simp,he⟩)
end
structure FitS (s:ApiSite) (st:ApiState):Prop where
 r:Q1o s
 few:FewS s 60 20
 rob:st.Robots.length≤20
 len:st.Shelves.length=s.Shelves.length
 cell:∀c,c∈st.Shelves→isC s.Floor c=true
theorem FitS.sl {s:ApiSite} {st:ApiState} (h:FitS s st):st.Shelves.length≤20:=by have:=h.few.shelves;have:=h.len;omega
theorem FitS.zn {s:ApiSite} {st:ApiState} (h:FitS s st):∀z,z∈s.Zones→0≤z.Keep∧z.Cells.length≤1000000:=fun z hz=>⟨(h.r.zm hz).elim fun _ q=>q.keep,by have:=(h.few.zone z hz).1;omega⟩
/-! ## the examples -/
theorem Q0S {α:Type} {X:α→Prop} {xs:List α} (h1:xs.length≤1000) (h2:∀x,x∈xs→X x):OkL X xs:=⟨Nat.le_trans h1 (by decide),h2⟩
theorem XQ {x:Int} (h:-1000000≤x∧x≤1000000):I64 x:=by constructor <;> omega
end Go.Taq
/- The mathematics, part NF: the rules' statements: examples, RulesApart. -/
set_option linter.unusedVariables false
set_option linter.unusedSimpArgs false
namespace Go.Taq
open Go
theorem Q6I {s:ApiSite} (a b:ByteArray):nev s a b=nev s b a:=by
 unfold nev apB
 have e:∀x:Qb,((seq x.A a&&seq x.B b)||(seq x.A b&&seq x.B a))=((seq x.A b&&seq x.B a)||(seq x.A a&&seq x.B b)):=fun x=>Bool.or_comm _ _
 simp only [e]
 rw [Bool.and_comm (!nosh a)]
theorem Q3O {s:ApiSite} {st:ApiState}:(Y2 s st).2.2=decide (0≤fnat (fun a=>decide (0≤Q0v s st a)) st.Shelves.length):=by
 unfold Y2
 simp only
 split <;> rename_i h <;> simp <;> omega
end Go.Taq
/- The mathematics, part NG: being near is symmetric; zones are apart; what changes where a shelf is put. -/
set_option linter.unusedVariables false
set_option linter.unusedSimpArgs false
namespace Go.Taq
open Go
theorem Q6Y {f:ApiFloor} {x y z:Int} (h:0≤Kz f x y z):0≤x∧x<f.W∧0≤y∧y<f.H∧0≤z∧z<f.D:=by
 unfold Kz at h
 split at h
 ·assumption
 ·omega
theorem Q6o {f:ApiFloor} (hf:RF f) {x y z:Int} (h:0≤x∧x<f.W∧0≤y∧y<f.H∧0≤z∧z<f.D):pX f (Kz f x y z)=x∧pY f (Kz f x y z)=y∧pZ f (Kz f x y z)=z:=by
 have e:Kz f x y z=(z*f.H+y)*f.W+x:=by unfold Kz;rw [if_pos h]
 have w:=hf.W1;have hh:=hf.H1
 have d1:((z*f.H+y)*f.W+x) / f.W=z*f.H+y:=by
  rw [Int.add_comm,Int.add_mul_ediv_right _ _ (by omega),Int.ediv_eq_zero_of_lt h.1 h.2.1];omega
 have d2:(z*f.H+y) / f.H=z:=by
  rw [Int.add_comm,Int.add_mul_ediv_right _ _ (by omega),Int.ediv_eq_zero_of_lt h.2.2.1 h.2.2.2.1];omega
 unfold pX pY pZ
 rw [e,d1,d2]
 refine⟨?_,?_,rfl⟩
 ·rw [Int.add_comm,Int.add_mul_emod_self_right,Int.emod_eq_of_lt h.1 h.2.1]
 ·rw [Int.add_comm,Int.add_mul_emod_self_right,Int.emod_eq_of_lt h.2.2.1 h.2.2.2.1]
theorem Q7A {f:ApiFloor} (hf:RF f) {c:Int} (hc:isC f c=true):Kz f (pX f c) (pY f c) (pZ f c)=c:=by
 have hb:=p_bd hf hc
 unfold Kz;rw [if_pos hb]
 unfold pX pY pZ
 have w:=hf.W1;have hh:=hf.H1
 have e1:c / f.W / f.H*f.H+c / f.W % f.H=c / f.W:=by rw [Int.mul_comm];exact Int.mul_ediv_add_emod ..
 rw [e1,Int.mul_comm]
 exact Int.mul_ediv_add_emod ..
theorem Q70 {f:ApiFloor} (hf:RF f) {a b d:Int} (hb:isC f b=true) (hd:0≤d∧d<4) (h:nbr f a d=b):isC f a=true∧nbr f b (if d<2 then d+2 else d-2)=a:=by
 have ha:isC f a=true:=by
  cases e:isC f a with
  | true=>rfl
  | false=>unfold nbr at h;rw [if_pos e] at h;rw [QF] at hb;omega
 refine⟨ha,?_⟩
 have hb0:0≤b:=(QF.1 hb).1
 have hd':d=0∨d=1∨d=2∨d=3:=by omega
 rcases hd' with rfl | rfl | rfl | rfl <;> (
  simp only [nbr,ha,hb,Bool.true_eq_false,if_false,reduceCtorEq] at h ⊢
  simp at h ⊢
  obtain⟨q1,q2,q3⟩:=Q6o hf (Q6Y (by rw [h];exact hb0))
  rw [h] at q1 q2 q3
  rw [q1,q2,q3]
  have:=Q7A hf ha
  simpa using this)
theorem Q5g {f:ApiFloor} (hf:RF f) {a b:Int} (ha:isC f a=true) (hb:isC f b=true):Q08 f a b=Q08 f b a:=by
 have key:∀{a b:Int},isC f a=true→isC f b=true→Q08 f a b=true→Q08 f b a=true:=fun {a b} ha hb h=>by
  unfold Q08 at h ⊢
  rw [hb,Bool.true_and,List.any_eq_true] at h
  obtain⟨d,hd,e⟩:=h
  have hd':0≤d∧d<4:=by simp at hd;omega
  obtain⟨_,h2⟩:=Q70 hf hb hd' (by simpa using e)
  rw [ha,Bool.true_and,List.any_eq_true]
  refine⟨if d<2 then d+2 else d-2,?_,by simp [h2]⟩
  simp at hd;rcases hd with rfl | rfl | rfl | rfl <;> decide
 rw [Bool.eq_iff_iff];exact⟨key ha hb,key hb ha⟩
theorem Z9 {s:ApiSite} {st:ApiState}:(Y2 s st).2.2=true↔∃a b:Nat,a<b∧b<st.Shelves.length∧badP s st a b=true:=by
 rw [Q3O,decide_eq_true_eq]
 rcases Ya (fun a=>decide (0≤Q0v s st a)) st.Shelves.length with ⟨a,ha,e,hp,_⟩ | ⟨e,hb⟩
 ·rw [e]
  refine⟨fun _=>?_,fun _=>by omega⟩
  rcases Ya (fun b=>decide (a<b)&&badP s st a b) st.Shelves.length with ⟨b,hb,e2,hp2,_⟩ | ⟨e2,_⟩
  ·simp at hp2;exact⟨a,b,hp2.1,hb,hp2.2⟩
  ·simp [Q0v,e2] at hp
 ·rw [e]
  refine⟨fun h=>by omega,fun ⟨a,b,h1,h2,h3⟩=>?_⟩
  have:=hb a (by omega)
  rcases Ya (fun b=>decide (a<b)&&badP s st a b) st.Shelves.length with ⟨w,_,e2,_,_⟩ | ⟨e2,hb2⟩
  ·simp [Q0v,e2] at this
  ·have:=hb2 b h2;simp [h1,h3] at this
section
end
end Go.Taq
/- The mathematics, part NV: zones in the reference. -/
set_option linter.unusedVariables false
namespace Go.Taq
open Go
end Go.Taq
