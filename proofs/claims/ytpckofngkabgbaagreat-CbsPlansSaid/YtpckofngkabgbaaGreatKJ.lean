/- The mathematics, several parts in one text. -/
import Derived.Test.YtpckofngkabgbaaGreatAG
import Derived.Test.YtpckofngkabgbaaGreatBA
/- The mathematics, part BC: region.Of, right homes, who is home, the bounds of the statements of chapter 21. -/
set_option linter.unusedVariables false
set_option linter.unusedSimpArgs false
namespace Go.Taq
open Go
theorem Q5U {x:Int} (h1:-1000000≤x) (h2:x≤1000000000):w64 x=x:=K8 (by omega) (by omega)
theorem Q4T {n:Nat} (h:n≤1000000000):w64 ((n:Int)+1)=((n+1:Nat):Int):=by rw [K8 (by omega) (by omega)];simp
def cmI {α:Type} [DecidableEq α] (xs:List α):Nat→List α
 | 0=>[]
 | i+1=>cmI xs i++(if i=0∨xs[i]?≠xs[i-1]? then xs[i]?.toList else [])
section
variable {α:Type} [DecidableEq α] {xs:List α}
theorem Q2N {i:Nat} (h:1≤i) (e:xs[i]?=xs[i-1]?):cmI xs (i+1)=cmI xs i:=by
 rw [cmI,if_neg (by intro h;rcases h with h | h;omega;exact h e)];simp
theorem Q2o {i:Nat} {x:α} (h:xs[i]?=some x) (e:i=0∨xs[i]?≠xs[i-1]?):cmI xs (i+1)=cmI xs i++[x]:=by
 rw [cmI,if_pos e,h];rfl
end
theorem S_CompactI {xs:List Int} (hl:xs.length≤1000000) {post:List Int→Prop} (hp:post (cmI xs xs.length)):V_slices_Compact_int_int__o0 xs post:=by
 unfold V_slices_Compact_int_int__o0
 refine Ite.mk (fun h=>?_) (fun h=>?_)
 ·have h':(xs.length:Int)<2:=of_decide_eq_true h
  have:cmI xs xs.length=xs:=by
   match xs,h' with
   | [],_=>rfl
   | [x],_=>rfl
   | _ :: _ :: _,h'=>simp at h';omega
  rw [this] at hp;exact hp
 have h':¬(xs.length:Int)<2:=of_decide_eq_false h
 have all:cmI xs xs.length=xs→post xs:=fun e=>by rw [e] at hp;exact hp
 refine Jn.mk (fun _=>post xs) (Loop.inv (xs.length-1) (fun i (s:Int)=>s=((i+1:Nat):Int)∧cmI xs (i+1)=xs.take (i+1)) ⟨rfl,?_⟩ (fun i s hi hI=>?_) (fun s hI=>?_)) (fun _ h=>h)
 ·have hx:xs[0]?=some (xs[0]'(by omega)):=List.getElem?_eq_getElem (by omega)
  rw [Q2o hx (.inl rfl),List.take_add_one,hx];rfl
 ·obtain⟨rfl,hI⟩:=hI
  have hx:xs[i+1]?=some (xs[i+1]'(by omega)):=List.getElem?_eq_getElem (by omega)
  have hx0:xs[i]?=some (xs[i]'(by omega)):=List.getElem?_eq_getElem (by omega)
  generalize hxv:xs[i+1]'(by omega)=x at hx
  generalize hyv:xs[i]'(by omega)=y at hx0
  have w1:w64 (((i+1:Nat):Int)-1)=(i:Int):=by rw [Q5U (by omega) (by omega)];simp
  refine Ite.lt (by omega) (Jn.mk (fun _=>cmI xs (i+2)=xs.take (i+2)) ⟨x,Qo rfl hx,y,Qo w1 hx0,Ite.mk (fun e=>?_) (fun e=>?_)⟩ (fun _ e=>⟨Q4T (by omega),e⟩))
  ·have e':x=y:=by simpa using e
   have hsame:cmI xs (i+1+1)=cmI xs (i+1):=Q2N (by omega) (by simp only [Nat.add_sub_cancel];rw [hx,hx0,e'])
   have hn2:Int.toNat ((xs.length:Int)-((i+1:Nat):Int))=xs.length-(i+1):=by omega
   simp only [hn2,Int.toNat_natCast]
   refine⟨⟨by omega,by omega,by omega⟩,Jn.mk (fun (t:List Int×Int)=>∃kk:Nat,t.2=(kk:Int)∧t.1.length=xs.length∧kk≤xs.length∧t.1.take kk=cmI xs xs.length)
    (Loop.inv (xs.length-(i+1)-1) (fun j (t:List Int×Int×Int)=>t.2.2=((j+1:Nat):Int)∧∃kk:Nat,t.2.1=(kk:Int)∧t.1.length=xs.length∧kk≤i+1+j∧t.1.take kk=cmI xs (i+1+j+1)∧∀q,i+1+j≤q→t.1[q]?=xs[q]?)
     ⟨rfl,i+1,rfl,rfl,by omega,by rw [Nat.add_zero,hsame,hI],fun q _=>rfl⟩ (fun j t hj hJ=>?_) (fun t hJ=>?_)) (fun t hJ=>?_)⟩
   ·obtain⟨ys,kk',q⟩:=t
    obtain⟨rfl,kk,rfl,hyl,hkk,htk,hsm⟩:=hJ
    replace hyl:ys.length=xs.length:=hyl
    replace htk:ys.take kk=cmI xs (i+1+j+1):=htk
    replace hsm:∀q,i+1+j≤q→ys[q]?=xs[q]?:=hsm
    have wj:w64 (((j+1:Nat):Int)-1)=(j:Int):=by rw [Q5U (by omega) (by omega)];simp
    have wj1:w64 (((j+1:Nat):Int)+1)=((j+1+1:Nat):Int):=Q4T (by omega)
    have wk1:w64 ((kk:Int)+1)=((kk+1:Nat):Int):=Q4T (by omega)
    have ha:xs[i+1+j+1]?=some (xs[i+1+j+1]'(by omega)):=List.getElem?_eq_getElem (by omega)
    have hb:xs[i+1+j]?=some (xs[i+1+j]'(by omega)):=List.getElem?_eq_getElem (by omega)
    generalize xs[i+1+j+1]'(by omega)=a at ha
    generalize xs[i+1+j]'(by omega)=b at hb
    refine Ite.lt (by show ((j+1:Nat):Int)<_;omega) ?_
    simp only [wj,wj1,wk1,Int.toNat_natCast]
    refine⟨⟨by omega,by omega⟩,a,by rw [show i+1+(j+1)=i+1+j+1 by omega,hsm _ (by omega)];exact ha,⟨by omega,by omega⟩,b,by rw [hsm _ (by omega)];exact hb,?_⟩
    refine Jn.mk (fun (t:List Int×Int)=>∃kk:Nat,t.2=(kk:Int)∧t.1.length=xs.length∧kk≤i+1+(j+1)∧t.1.take kk=cmI xs (i+1+(j+1)+1)∧∀q,i+1+(j+1)≤q→t.1[q]?=xs[q]?) (Ite.mk (fun e=>?_) (fun e=>?_)) (fun t h=>⟨by trivial,h⟩)
    ·have hab:¬a=b:=by simpa using e
     have hkl:kk<ys.length:=by omega
     refine⟨⟨by omega,by omega⟩,_,Qo rfl (List.getElem?_eq_getElem hkl),kk+1,rfl,by simpa using hyl,by omega,?_,fun q hq=>?_⟩
     ·show (ys.set kk a).take (kk+1)=_
      rw [List.take_add_one,List.take_set_of_le (Nat.le_refl _),htk,List.getElem?_set,if_pos rfl,if_pos hkl]
      have:=Q2o ha (.inr (by simp only [Nat.add_sub_cancel];rw [ha,hb];simpa using hab))
      rw [show i+1+(j+1)+1=i+1+j+1+1 by omega,this];rfl
     ·show (ys.set kk a)[q]?=_
      rw [List.getElem?_set_ne (by omega)];exact hsm q (by omega)
    ·have hab:a=b:=by simpa using e
     have:=Q2N (xs:=xs) (i:=i+1+j+1) (by omega) (by simp only [Nat.add_sub_cancel];rw [ha,hb,hab])
     exact⟨kk,rfl,hyl,by omega,by rw [show i+1+(j+1)+1=i+1+j+1+1 by omega,this];exact htk,fun q hq=>hsm q (by omega)⟩
   ·obtain⟨ys,kk',q⟩:=t
    obtain⟨rfl,kk,rfl,hyl,hkk,htk,hsm⟩:=hJ
    refine Ite.nlt (by show ¬((xs.length-(i+1)-1+1:Nat):Int)<_;omega) ⟨kk,rfl,hyl,by omega,?_⟩
    rw [show i+1+(xs.length-(i+1)-1)+1=xs.length by omega] at htk
    exact htk
   ·obtain⟨ys,kk'⟩:=t
    obtain⟨kk,rfl,hyl,hkk,htk⟩:=hJ
    replace hyl:ys.length=xs.length:=hyl
    replace htk:ys.take kk=cmI xs xs.length:=htk
    have hn3:Int.toNat ((ys.length:Int)-(kk:Int))=ys.length-kk:=by omega
    simp only [hn3,Int.toNat_natCast]
    refine⟨⟨by omega,by omega,by omega⟩,by omega,⟨by omega,by omega,?_⟩,?_⟩
    ·simp only [List.length_append,List.length_take,List.length_replicate,List.length_drop];omega
    ·have:sub (ys.take kk++(List.replicate (ys.length-kk) 0++ys.drop (kk+(ys.length-kk)))) 0 (kk:Int)=ys.take kk:=by
      simp only [sub,Int.toNat_natCast,Int.toNat_zero,List.drop_zero,Nat.sub_zero]
      rw [List.take_append_of_le_length (by simp;omega)]
      rw [List.take_of_length_le (by simp;omega)]
     rw [this,htk];exact hp
  ·have e':¬x=y:=by simpa using e
   show cmI xs (i+1+1)=xs.take (i+1+1)
   rw [Q2o hx (.inr (by simp only [Nat.add_sub_cancel];rw [hx,hx0];simpa using e')),List.take_add_one,hx,hI];rfl
 ·obtain⟨rfl,hI⟩:=hI
  refine Ite.nlt (by omega) ?_
  rw [show xs.length-1+1=xs.length by omega,List.take_length] at hI
  exact all hI
end Go.Taq
/- Chapter 24 (cbs), part D: what a robot uses, common cells, the first clash. -/
set_option linter.unusedVariables false
set_option linter.unusedSimpArgs false
namespace Go.Taq
open Go
def mvK (f:ApiFloor) (c a:Int):Int:=if 1≤a∧a<7∧(nx f c (a-1)).2=true then (nx f c (a-1)).1 else c
def clK (f:ApiFloor):Int→List Int→List Int
 | c,[]=>[c]
 | c,a :: r=>c :: clK f (mvK f c a) r
theorem Q2C (f:ApiFloor) (c:Int) (l:List Int):clK f c l=c :: (clK f c l).tail:=by cases l <;> rfl
theorem Q3g (f:ApiFloor):∀(l:List Int) (c:Int),(clK f c l).length=l.length+1
 | [],c=>rfl
 | a :: l,c=>by simp [clK,Q3g f l]
theorem Q6u {f:ApiFloor} (h:RF f) {c a:Int} (ka:I64 a):(if (nx f c (w64 (a-1))).2=true then (nx f c (w64 (a-1))).1 else c)=mvK f c a:=by
 unfold mvK
 by_cases h1:1≤a∧a<7
 ·rw [K8 (by omega) (by omega)];simp [h1]
 ·have h2:(nx f c (w64 (a-1))).2=false:=by
   cases hh:(nx f c (w64 (a-1))).2
   ·rfl
   ·have:=Q47 h hh
    exfalso
    unfold I64 at ka
    by_cases h3:a=-9223372036854775808
    ·subst h3
     have e:w64 (-9223372036854775808-1)=9223372036854775807:=by decide
     rw [e] at this;omega
    ·rw [K8 (by omega) (by omega)] at this;omega
  rw [if_neg (by simp [h2]),if_neg (fun e=>h1 ⟨e.1,e.2.1⟩)]
theorem Q4c {f:ApiFloor} (h:RF f) {c a:Int} (hc:isC f c=true):isC f (mvK f c a)=true:=by
 unfold mvK
 split
 ·rename_i e;exact (Q47 h e.2.2).2.1
 ·exact hc
theorem Q4i {f:ApiFloor} (h:RF f):∀(l:List Int) {c:Int},isC f c=true→∀x,x∈clK f c l→isC f x=true
 | [],c,hc,x,hx=>by simp [clK] at hx;subst hx;exact hc
 | a :: l,c,hc,x,hx=>by
  rcases List.mem_cons.1 hx with rfl | hx
  ·exact hc
  ·exact Q4i h l (Q4c h hc) x hx
theorem Q0I {s:ApiSite} {c:Int} {acts:List Int} (h:RF s.Floor) (ha:acts.length≤1000000) (ka:∀x,x∈acts→I64 x) {post:List Int→Prop} (hp:post (if isC s.Floor c=true then clK s.Floor c acts else [])):Gq s c acts post:=by
 unfold Gq
 have hm:acts.length≤maxLen:=by simp [maxLen];omega
 refine Jor2 (Ite.mk (fun h1=>?_) (fun h1=>?_))
 ·have:isC s.Floor c=false:=by simp at h1;simp [isC];omega
  simp only [this] at hp;exact hp
 ·have hc:isC s.Floor c=true:=by simp at h1;simp [isC];omega
  simp only [hc,if_true] at hp
  refine Jn.mk (fun out=>out=clK s.Floor c acts) (Loop.inv acts.length (fun i (t:Int×List Int×Int)=>t.2.2=(i:Int)∧t.2.1.length=i+1∧t.2.1++(clK s.Floor t.1 (acts.drop i)).tail=clK s.Floor c acts) ⟨rfl,rfl,(Q2C _ _ _).symm⟩ (fun i t hi hI=>?_) (fun t hI=>?_)) (fun _ e=>by subst e;exact hp)
  ·obtain⟨cur,out,j⟩:=t
   obtain⟨e,hl,hI⟩:=hI
   simp only at e hl hI;subst e
   have hx:acts[i]?=some (acts[i]'hi):=List.getElem?_eq_getElem hi
   generalize hxe:acts[i]'hi=x at hx
   have hd:acts.drop i=x :: acts.drop (i+1):=by rw [List.drop_eq_getElem_cons hi,hxe]
   refine Ite.lt (by simp only [];omega) ⟨x,Qo rfl hx,Wf h ?_⟩
   have hw:=Q6u h (c:=cur) (ka x (List.mem_of_getElem? hx))
   refine Jn.eq (mvK s.Floor cur x) (Ite.mk (fun g=>?_) (fun g=>?_)) ⟨by simp only [List.length_cons,List.length_nil];omega,WK hi hm,by simp [hl],?_⟩
   ·rw [←hw,if_pos g]
   ·rw [←hw,if_neg (by simp [g])]
   ·rw [hd,clK] at hI
    simp only [List.append_assoc,List.singleton_append]
    rw [←Q2C];exact hI
  ·obtain⟨cur,out,j⟩:=t
   obtain⟨e,hl,hI⟩:=hI
   simp only at e hl hI;subst e
   refine Ite.nlt (by simp) ?_
   rw [List.drop_length] at hI
   simpa [clK] using hI
def of2 (a b:Int):List Int:=if a<b then [a,b] else if b<a then [b,a] else [a]
theorem Q6p (a b:Int):([a,b]:List Int).mergeSort (fun x y=>decide (x≤y))=if a≤b then [a,b] else [b,a]:=by
 have h1:=List.pairwise_mergeSort (le:=fun (x y:Int)=>decide (x≤y)) (fun x y z h1 h2=>by simp at h1 h2 ⊢;omega) (fun x y=>by simp;omega) [a,b]
 have h2:=List.mergeSort_perm [a,b] (fun (x y:Int)=>decide (x≤y))
 generalize ([a,b]:List Int).mergeSort (fun x y=>decide (x≤y))=l at h1 h2
 match l,h2.length_eq with
 | [u,v],_=>
  have hu:u=a∨u=b:=by simpa using h2.mem_iff.1 (show u∈[u,v] by simp)
  have h1':u≤v:=by simpa using h1
  rcases hu with rfl | rfl
  ·have hv:v=b:=by simpa using (List.Perm.cons_inv h2)
   subst hv
   rw [if_pos h1']
  ·have hv:v=a:=by simpa using (List.Perm.cons_inv (h2.trans (List.Perm.swap _ _ _)))
   subst hv
   split
   ·have:u=v:=by omega
    subst this;rfl
   ·rfl
theorem Q1P {a b:Int} (ha:0≤a∧a<4096) (hb:0≤b∧b<4096) {post:List Int→Prop} (hp:post (of2 a b)):GZ [a,b] post:=by
 unfold GZ
 refine Q04 (by simp) ?_
 unfold QE QJ
 have hT:∀c,∀{q:Bool→Prop},q (!(decide (c≥0)&&decide (c<4096)))→X6 c q:=fun c {q} hq=>by
  unfold X6 Gk
  exact Q23 hq
 refine Q00 (by simp [maxLen]) (fun c=>!(decide (c≥0)&&decide (c<4096))) (T:=fun c q=>X6 c q) (fun c _ q hq=>hT c hq) ?_
 refine Q3d (by simp [maxLen]) 0 (fun c=>!(decide (c≥0)&&decide (c<4096))) (T:=fun c q=>X6 c q) (fun c _ q hq=>hT c hq) (post:=fun y=>Kd y _) ?_
 unfold Kd
 have hf:([a,b]:List Int).filter (fun x=>!(!(decide (x≥0)&&decide (x<4096))))=[a,b]:=by
  simp [ha.1,ha.2,hb.1,hb.2]
 rw [hf,Q6p]
 refine⟨by simp,S_CompactI (by split <;> simp) ?_⟩
 unfold of2 at hp
 split
 ·rename_i h1
  by_cases h2:a<b
  ·rw [if_pos h2] at hp
   have:cmI [a,b] [a,b].length=[a,b]:=by simp [cmI,show b≠a by omega]
   rw [this];exact hp
  ·have h3:a=b:=by omega
   subst h3
   rw [if_neg h2,if_neg h2] at hp
   have:cmI [a,a] [a,a].length=[a]:=by simp [cmI]
   rw [this];exact hp
 ·rename_i h1
  rw [if_neg (by omega),if_pos (by omega)] at hp
  have:cmI [b,a] [b,a].length=[b,a]:=by simp [cmI,show a≠b by omega]
  rw [this];exact hp
theorem Q59 {a b x:Int}:x∈of2 a b↔x=a∨x=b:=by
 unfold of2
 split
 ·simp
 ·split
  ·simp [or_comm]
  ·have:a=b:=by omega
   subst this;simp
theorem Q4K (a b:Int):(of2 a b).Pairwise (· < ·)∧(of2 a b).length≤2:=by
 unfold of2
 split
 ·simp;omega
 ·split
  ·simp;omega
  ·simp
def Ya (s:ApiSite) (c:Int) (acts:List Int) (k:Nat):List Int:=
 if isC s.Floor c=true then
  match acts[k]? with
  | some a=>if 1≤a∧a<7∧(nx s.Floor ((clK s.Floor c acts).getD k 0) (a-1)).2=true then of2 ((clK s.Floor c acts).getD k 0) (nx s.Floor ((clK s.Floor c acts).getD k 0) (a-1)).1 else [(clK s.Floor c acts).getD k 0]
  | none=>[(clK s.Floor c acts).getD acts.length 0]
 else []
theorem Q1J (s:ApiSite) (c:Int) (acts:List Int) (k:Nat):(Ya s c acts k).Pairwise (· < ·)∧(Ya s c acts k).length≤2:=by
 unfold Ya
 split
 ·split
  ·split
   ·exact Q4K _ _
   ·simp
  ·simp
 ·simp
theorem Zf {s:ApiSite} {c:Int} {acts:List Int} {k:Nat} (h:RF s.Floor) (h60:s.Floor.Kind.length≤100) (ha:acts.length≤1000) (ka:∀x,x∈acts→I64 x) (hk:k≤1000) {post:List Int→Prop} (hp:post (Ya s c acts k)):XX s c acts (k:Int) post:=by
 unfold XX
 refine Q0I h (by omega) ka ?_
 unfold Ya at hp
 by_cases hc:isC s.Floor c=true
 ·rw [if_pos hc] at hp ⊢
  have hlen:=Q3g s.Floor acts c
  refine Jn.mk (fun b=>b=false) (Ite.f (by rw [hlen];simp;omega) (decide_eq_false (by omega))) (fun b e=>Ite.f e ?_)
  have hw:w64 (((clK s.Floor c acts).length:Int)-1)=(acts.length:Int):=by rw [hlen,kw (by omega) (by omega)];omega
  have hmin:imin (k:Int) (w64 (((clK s.Floor c acts).length:Int)-1))=((min k acts.length:Nat):Int):=by
   rw [hw];simp only [imin];split <;> omega
  have hx:(clK s.Floor c acts)[min k acts.length]?=some ((clK s.Floor c acts).getD (min k acts.length) 0):=by
   rw [List.getD_eq_getElem?_getD,List.getElem?_eq_getElem (by omega)];rfl
  have hxc:=Q4i h acts hc _ (List.mem_of_getElem? hx)
  refine⟨_,Qo hmin hx,?_⟩
  cases hak:acts[k]? with
  | none=>
   have hkl:acts.length≤k:=by simpa using hak
   rw [hak] at hp
   simp only at hp
   rw [show min k acts.length=acts.length by omega] at hx ⊢
   refine Jn.mk (fun b=>b=false) (Ite.f (decide_eq_false (by omega)) rfl) (fun b e=>Jn.mk (fun _=>True) (Ite.f e trivial) (fun _ _=>hp))
  | some a=>
   have hkl:k<acts.length:=(List.getElem?_eq_some_iff.1 hak).1
   rw [hak] at hp
   simp only at hp
   rw [show min k acts.length=k by omega] at hx hxc ⊢
   generalize (clK s.Floor c acts).getD k 0=q at *
   refine Jn.eq (decide (a≥1)&&decide (a<7)) (Ite.t (decide_eq_true (by omega)) ⟨a,Qo rfl hak,Ite.mk (fun e=>by rw [e];rfl) (fun e=>by rw [e];rfl)⟩) (Jn.mk (fun _=>¬(1≤a∧a<7∧(nx s.Floor q (a-1)).2=true)) (Ite.mk (fun e=>⟨a,Qo rfl hak,?_⟩) (fun e=>?_)) (fun _ hn=>?_))
   ·simp only [Bool.and_eq_true,decide_eq_true_eq] at e
    rw [kw (by omega) (by omega)]
    refine Wf h (Ite.mk (fun e2=>?_) (fun e2=>?_))
    ·have hnx:=Q47 h e2
     rw [if_pos ⟨e.1,e.2,e2⟩] at hp
     have g1:=Xx.1 hxc
     have g2:=Xx.1 hnx.2.1
     exact Q1P ⟨g1.1,by omega⟩ ⟨g2.1,by omega⟩ hp
    ·rw [e2];simp
   ·rintro⟨h1,h2,h3⟩
    simp at e
    have:=e h1
    omega
   ·rw [if_neg hn] at hp;exact hp
 ·rw [if_neg hc] at hp ⊢
  exact Jn.mk (fun b=>b=true) (Ite.t rfl rfl) (fun b e=>Ite.t e hp)
end Go.Taq
/- Chapter 24 (cbs), part E: common cells of two rows, the first clash. -/
set_option linter.unusedVariables false
set_option linter.unusedSimpArgs false
namespace Go.Taq
open Go
def mg:List Int→List Int→List (Int×QX)
 | [],[]=>[]
 | x :: a,[]=>(x,{e0:=true,e1:=false}) :: mg a []
 | [],y :: b=>(y,{e0:=false,e1:=true}) :: mg [] b
 | x :: a,y :: b=>if x<y then (x,{e0:=true,e1:=false}) :: mg a (y :: b) else if y<x then (y,{e0:=false,e1:=true}) :: mg (x :: a) b else (y,{e0:=true,e1:=true}) :: mg a b
termination_by a b=>a.length+b.length
theorem Q0W {x:Int} {a:List Int}:sub (x :: a) 1 (((x :: a).length:Nat):Int)=a:=by
 unfold sub
 have:(((x :: a).length:Nat):Int).toNat-(1:Int).toNat=a.length:=by simp
 rw [show (1:Int).toNat=1 from rfl] at this ⊢
 simp
theorem Q46 {a0 b0:List Int} (ha:a0.length≤1000) (hb:b0.length≤1000) {post:Option (List (Int×QX))→Prop} (h0:post none) (h1:post (some [])):Kh a0 b0 (some (mg a0 b0)) post:=by
 unfold Kh
 refine Jn.mk (fun (r:List Int×List Int×Option (List (Int×QX)))=>r.2.2=some []) (Loop.mk (fun (t:List Int×List Int×Option (List (Int×QX)))=>t.1.length≤1000∧t.2.1.length≤1000∧t.2.2=some (mg t.1 t.2.1)) (fun t=>t.1.length+t.2.1.length) ⟨ha,hb,rfl⟩ (fun t hI=>?_)) (fun r e=>?_)
 ·obtain⟨a,b,oy⟩:=t
  obtain⟨g1,g2,g3⟩:=hI
  simp only at g1 g2 g3
  subst g3
  dsimp only
  have hw:w64 ((a.length:Int)+(b.length:Int))=(a.length:Int)+b.length:=kw (by omega) (by omega)
  rw [hw]
  match a,b with
  | [],[]=>
   refine Ite.f (by decide) ?_
   show some (mg [] [])=some []
   rw [mg]
  | x :: a,[]=>
   refine Ite.t (decide_eq_true (by simp <;> omega)) ?_
   refine Jn.mk (fun q=>q=true) (Ite.t (by simp) rfl) (fun q e=>?_)
   subst e
   refine Jn.mk (fun q=>q=false) (Ite.f (by simp <;> omega) (Ite.f (by simp) rfl)) (fun q e=>?_)
   subst e
   refine Jn.mk (fun q=>q=(a,x)) (Ite.t rfl ⟨x,rfl,⟨by omega,by simp <;> omega,by omega⟩,by rw [Q0W]⟩) (fun q e=>?_)
   subst e
   refine Jn.mk (fun q=>q=([],x)) (Ite.f rfl rfl) (fun q e=>?_)
   subst e
   rw [mg]
   exact⟨_,rfl,Ite.f rfl ⟨⟨by simp at g1;show a.length≤1000;omega,by simp,rfl⟩,by simp⟩,Ite.t rfl h0⟩
  | [],y :: b=>
   refine Ite.t (decide_eq_true (by simp <;> omega)) ?_
   refine Jn.mk (fun q=>q=false) (Ite.f (by simp <;> omega) (Ite.f (by simp) rfl)) (fun q e=>?_)
   subst e
   refine Jn.mk (fun q=>q=true) (Ite.t (by simp) rfl) (fun q e=>?_)
   subst e
   refine Jn.mk (fun q=>q=([],0)) (Ite.f rfl rfl) (fun q e=>?_)
   subst e
   refine Jn.mk (fun q=>q=(b,y)) (Ite.t rfl ⟨y,rfl,⟨by omega,by simp <;> omega,by omega⟩,by rw [Q0W]⟩) (fun q e=>?_)
   subst e
   rw [mg]
   exact⟨_,rfl,Ite.f rfl ⟨⟨by simp,by simp at g2;show b.length≤1000;omega,rfl⟩,by simp⟩,Ite.t rfl h0⟩
  | x :: a,y :: b=>
   refine Ite.t (decide_eq_true (by simp <;> omega)) ?_
   refine Jn.mk (fun q=>q=decide (x≤y)) (Ite.f (by simp <;> omega) (Ite.t (by simp <;> omega) ⟨x,rfl,y,rfl,rfl⟩)) (fun q e=>?_)
   subst e
   refine Jn.mk (fun q=>q=decide (y≤x)) (Ite.f (by simp <;> omega) (Ite.t (by simp <;> omega) ⟨y,rfl,x,rfl,rfl⟩)) (fun q e=>?_)
   subst e
   simp only [List.length_cons] at g1 g2
   rcases Int.lt_trichotomy x y with h | h | h
   ·have e1:decide (x≤y)=true:=decide_eq_true (by omega)
    have e2:decide (y≤x)=false:=decide_eq_false (by omega)
    rw [e1,e2]
    refine Jn.mk (fun q=>q=(a,x)) (Ite.t rfl ⟨x,rfl,⟨by omega,by simp <;> omega,by omega⟩,by rw [Q0W]⟩) (fun q e=>?_)
    subst e
    refine Jn.mk (fun q=>q=(y :: b,x)) (Ite.f rfl rfl) (fun q e=>?_)
    subst e
    rw [mg,if_pos h]
    exact⟨_,rfl,Ite.f rfl ⟨⟨by show a.length≤1000;omega,by simp <;> omega,rfl⟩,by simp <;> omega⟩,Ite.t rfl h0⟩
   ·have e1:decide (x≤y)=true:=decide_eq_true (by omega)
    have e2:decide (y≤x)=true:=decide_eq_true (by omega)
    rw [e1,e2]
    refine Jn.mk (fun q=>q=(a,x)) (Ite.t rfl ⟨x,rfl,⟨by omega,by simp <;> omega,by omega⟩,by rw [Q0W]⟩) (fun q e=>?_)
    subst e
    refine Jn.mk (fun q=>q=(b,y)) (Ite.t rfl ⟨y,rfl,⟨by omega,by simp <;> omega,by omega⟩,by rw [Q0W]⟩) (fun q e=>?_)
    subst e
    rw [mg,if_neg (by omega),if_neg (by omega)]
    exact⟨_,rfl,Ite.f rfl ⟨⟨by show a.length≤1000;omega,by show b.length≤1000;omega,rfl⟩,by simp <;> omega⟩,Ite.t rfl h0⟩
   ·have e1:decide (x≤y)=false:=decide_eq_false (by omega)
    have e2:decide (y≤x)=true:=decide_eq_true (by omega)
    rw [e1,e2]
    refine Jn.mk (fun q=>q=(x :: a,0)) (Ite.f rfl rfl) (fun q e=>?_)
    subst e
    refine Jn.mk (fun q=>q=(b,y)) (Ite.t rfl ⟨y,rfl,⟨by omega,by simp <;> omega,by omega⟩,by rw [Q0W]⟩) (fun q e=>?_)
    subst e
    rw [mg,if_neg (by omega),if_pos h]
    exact⟨_,rfl,Ite.f rfl ⟨⟨by simp <;> omega,by show b.length≤1000;omega,rfl⟩,by simp <;> omega⟩,Ite.t rfl h0⟩
 ·rw [e];exact h1
theorem Q5T (a b:List Int):(mg a b).length≤a.length+b.length:=by
 induction a,b using mg.induct <;> rw [mg] <;> (try simp only [*,if_true,if_false]) <;> simp_all <;> omega
theorem Q4B (a b:List Int):a.Pairwise (· < ·)→b.Pairwise (· < ·)→((∃p,p∈mg a b∧(p.2.e0&&p.2.e1)=true)↔∃x,x∈a∧x∈b):=by
 induction a,b using mg.induct with
 | case1=>intro _ _;rw [mg];simp
 | case2 x a ih=>
  intro h1 h2
  rw [mg]
  have:=ih (List.pairwise_cons.1 h1).2 h2
  simpa using this
 | case3 y b ih=>
  intro h1 h2
  rw [mg]
  have:=ih h1 (List.pairwise_cons.1 h2).2
  simpa using this
 | case4 x a y b h ih=>
  intro h1 h2
  rw [mg,if_pos h]
  obtain⟨g1,g2⟩:=List.pairwise_cons.1 h1
  have:=ih g2 h2
  have hb:∀z,z∈y :: b→x<z:=fun z hz=>by
   rcases List.mem_cons.1 hz with rfl | hz
   ·exact h
   ·have:=(List.pairwise_cons.1 h2).1 z hz;omega
  constructor
  ·rintro⟨p,hp,he⟩
   rcases List.mem_cons.1 hp with rfl | hp
   ·simp at he
   ·obtain⟨z,hz1,hz2⟩:=this.1 ⟨p,hp,he⟩
    exact⟨z,List.mem_cons_of_mem _ hz1,hz2⟩
  ·rintro⟨z,hz1,hz2⟩
   rcases List.mem_cons.1 hz1 with rfl | hz1
   ·have:=hb z hz2;omega
   ·obtain⟨p,hp,he⟩:=this.2 ⟨z,hz1,hz2⟩
    exact⟨p,List.mem_cons_of_mem _ hp,he⟩
 | case5 x a y b h h' ih=>
  intro h1 h2
  rw [mg,if_neg h,if_pos h']
  obtain⟨g1,g2⟩:=List.pairwise_cons.1 h2
  have:=ih h1 g2
  have ha:∀z,z∈x :: a→y<z:=fun z hz=>by
   rcases List.mem_cons.1 hz with rfl | hz
   ·exact h'
   ·have:=(List.pairwise_cons.1 h1).1 z hz;omega
  constructor
  ·rintro⟨p,hp,he⟩
   rcases List.mem_cons.1 hp with rfl | hp
   ·simp at he
   ·obtain⟨z,hz1,hz2⟩:=this.1 ⟨p,hp,he⟩
    exact⟨z,hz1,List.mem_cons_of_mem _ hz2⟩
  ·rintro⟨z,hz1,hz2⟩
   rcases List.mem_cons.1 hz2 with rfl | hz2
   ·have:=ha z hz1;omega
   ·obtain⟨p,hp,he⟩:=this.2 ⟨z,hz1,hz2⟩
    exact⟨p,List.mem_cons_of_mem _ hp,he⟩
 | case6 x a y b h h' ih=>
  intro h1 h2
  rw [mg,if_neg h,if_neg h']
  have:x=y:=by omega
  subst this
  exact⟨fun _=>⟨x,by simp,by simp⟩,fun _=>⟨(x,{e0:=true,e1:=true}),by simp,rfl⟩⟩
theorem Q0M {a b:List Int} (ha:a.length≤2) (hb:b.length≤2) (h1:a.Pairwise (· < ·)) (h2:b.Pairwise (· < ·)) {post:List Int→Prop} (hp:∀l:List Int,(0<l.length↔∃x,x∈a∧x∈b)→post l):G5 a b post:=by
 unfold G5 Gm
 refine⟨mg a b,Q46 (a0:=a) (b0:=b) (by omega) (by omega) (.inl rfl) (.inr rfl),?_⟩
 have key:∀(ys:List (Int×QX)) (s:List Int) {k:List Int→Prop},s.length+ys.length≤1000→k (s++(ys.filter (fun p=>p.2.e0&&p.2.e1)).map (·.1)) →
   Each (fun (x9:Int×QX) (s10:List Int) Y11=>Jn (fun (J18:Bool→Prop)=>Ite x9.2.e0 (J18 x9.2.e1) (J18 false)) (fun (x17:Bool)=>Jn (fun (J23:(List Int)→Prop)=>Ite x17 ((s10.length+([x9.1]:List Int).length≤1099511627776)∧J23 (s10++([x9.1]:List Int))) (J23 s10)) (fun (x22:List Int)=>Y11 x22))) (fun (s28:List Int)=>k s28) ys s:=by
  intro ys
  induction ys with
  | nil=>intro s k _ hk;simpa [Each] using hk
  | cons p ys ih=>
   intro s k hl hk
   simp only [List.length_cons] at hl
   refine Jn.mk (fun q=>q=(p.2.e0&&p.2.e1)) (Ite.mk (fun e=>by rw [e];rfl) (fun e=>by rw [e];rfl)) (fun q e=>?_)
   refine Jn.mk (fun s'=>s'.length+ys.length≤1000∧k (s'++(ys.filter (fun p=>p.2.e0&&p.2.e1)).map (·.1))) (Ite.mk (fun e2=>⟨by simp <;> omega,by simp <;> omega,?_⟩) (fun e2=>⟨by omega,?_⟩)) (fun s' h=>ih s' h.1 h.2)
   ·rw [e] at e2
    rw [List.filter_cons_of_pos (by exact e2),List.map_cons] at hk
    rw [List.append_assoc];exact hk
   ·rw [e] at e2
    rw [List.filter_cons_of_neg (by rw [e2];decide)] at hk
    exact hk
 have hl:=Q5T a b
 refine key (mg a b) [] (by simp <;> omega) (hp _ ?_)
 rw [←Q4B a b h1 h2]
 simp only [List.nil_append,List.length_map]
 constructor
 ·intro h
  obtain⟨p,hp'⟩:=List.exists_mem_of_length_pos h
  have:=List.mem_filter.1 hp'
  exact⟨p,this.1,this.2⟩
 ·rintro⟨p,hp1,hp2⟩
  exact List.length_pos_of_mem (List.mem_filter.2 ⟨hp1,hp2⟩)
end Go.Taq
/- Chapter 24 (cbs), part F: the first clash, the search over bans. -/
set_option linter.unusedVariables false
set_option linter.unusedSimpArgs false
namespace Go.Taq
open Go
def ml (plan:List (List Int)):Nat:=plan.foldl (fun m w=>max m w.length) 0
theorem Q5H {n:Nat}:∀(plan:List (List Int)) (m:Nat),m≤n→(∀w,w∈plan→w.length≤n)→plan.foldl (fun m w=>max m w.length) m≤n
 | [],m,hm,_=>hm
 | w :: r,m,hm,h=>Q5H r _ (by have:=h w (by simp);show max m w.length≤n;omega) (fun v hv=>h v (by simp [hv]))
def Y0 (s:ApiSite) (trips:List ApiTrip) (plan:List (List Int)) (k a b:Nat):Prop:=
 ∃x y u v c,trips[a]?=some x∧trips[b]?=some y∧plan[a]?=some u∧plan[b]?=some v∧c∈Ya s x.From u k∧c∈Ya s y.From v k
def YN (s:ApiSite) (trips:List ApiTrip) (plan:List (List Int)):Prop:=∀k a b:Nat,k≤ml plan→a<b→b<plan.length→¬Y0 s trips plan k a b
theorem Q0p {s:ApiSite} {trips:List ApiTrip} {plan:List (List Int)} (h:RF s.Floor) (h60:s.Floor.Kind.length≤100) (hl:plan.length≤trips.length) (hl2:plan.length≤100) (hr:∀w,w∈plan→w.length≤1000∧∀a,a∈w→I64 a)
  {post:We×Bool→Prop} (hp1:∀(a b k:Nat) c,a<b→b<plan.length→¬YN s trips plan→post ({a:=(a:Int),b:=(b:Int),tick:=(k:Int),cell:=c},true)) (hp0:YN s trips plan→post ({a:=0,b:=0,tick:=0,cell:=0},false)):Gy s trips plan post:=by
 unfold Gy
 have hml:ml plan≤1000:=Q5H plan 0 (by omega) (fun w hw=>(hr w hw).1)
 refine Jn.mk (fun x=>x=((ml plan:Nat):Int)) (Loop.inv plan.length (fun i (t:Int×Int)=>t.2=(i:Int)∧t.1=(((plan.take i).foldl (fun m w=>max m w.length) 0:Nat):Int)) ⟨rfl,rfl⟩ (fun i t hi hI=>?_) (fun t hI=>?_)) (fun x e=>?_)
 ·obtain⟨m,c⟩:=t
  obtain⟨e1,e2⟩:=hI
  simp only at e1 e2
  subst e1;subst e2
  have hx:plan[i]?=some (plan[i]'hi):=List.getElem?_eq_getElem hi
  generalize plan[i]'hi=w at hx
  refine Ite.lt (by show (i:Int)<_;omega) ⟨w,Qo rfl hx,?_,?_⟩
  ·show w64 ((i:Int)+1)=_;rw [kw1 (by omega)]
  ·show imax (((plan.take i).foldl (fun m w=>max m w.length) 0:Nat):Int) (w.length:Int)=_
   rw [List.take_add_one,hx,List.foldl_append]
   simp only [Option.toList_some,List.foldl_cons,List.foldl_nil,imax]
   split <;> omega
 ·obtain⟨m,c⟩:=t
  obtain⟨e1,e2⟩:=hI
  simp only at e1 e2
  subst e1;subst e2
  rw [List.take_length]
  exact Ite.nlt (by show ¬(plan.length:Int)<_;omega) rfl
 subst e
 have hw:w64 (((ml plan:Nat):Int)+1)=((ml plan+1:Nat):Int):=kw1 (by omega)
 rw [hw]
 have used:∀{i k:Nat} {x:ApiTrip} {u:List Int},plan[i]?=some u→k≤1000→∀{q:List Int→Prop},q (Ya s x.From u k)→XX s x.From u (k:Int) q:=fun hu hk q hq=>by
  have hm:=hr _ (List.mem_of_getElem? hu)
  exact Zf h h60 hm.1 hm.2 hk hq
 refine Jn.mk (fun _=>YN s trips plan) (Loop.inv (ml plan+1) (fun k (t:Int)=>t=(k:Int)∧∀k' a b:Nat,k'<k→a<b→b<plan.length→¬Y0 s trips plan k' a b) ⟨rfl,fun k' a b hk=>by omega⟩ (fun k t hk hI=>?_) (fun t hI=>?_)) (fun _ h=>hp0 h)
 ·obtain⟨rfl,hI⟩:=hI
  refine Ite.lt (by show (k:Int)<_;omega) (Jn.mk (fun _=>∀a b:Nat,a<b→b<plan.length→¬Y0 s trips plan k a b) ?_ (fun _ hK=>⟨by rw [kw1 (by omega)],fun k' a b hk'=>?_⟩))
  ·refine Jn.mk (fun _=>∀a b:Nat,a<b→b<plan.length→¬Y0 s trips plan k a b) (Loop.inv plan.length (fun i (t:Int)=>t=(i:Int)∧∀a b:Nat,a<i→a<b→b<plan.length→¬Y0 s trips plan k a b) ⟨rfl,fun a b ha=>by omega⟩ (fun i t hi hI2=>?_) (fun t hI2=>?_)) (fun _ h=>h)
   ·obtain⟨rfl,hI2⟩:=hI2
    refine Ite.lt (by show (i:Int)<_;omega) (Jn.mk (fun _=>∀b:Nat,i<b→b<plan.length→¬Y0 s trips plan k i b) ?_ (fun _ hA=>⟨by rw [kw1 (by omega)],fun a b ha hab hb=>?_⟩))
    ·have hx:trips[i]?=some (trips[i]'(by omega)):=List.getElem?_eq_getElem _
     have hu:plan[i]?=some (plan[i]'hi):=List.getElem?_eq_getElem hi
     generalize trips[i]'(by omega)=x at hx
     generalize plan[i]'hi=u at hu
     refine⟨x,Qo rfl hx,u,Qo rfl hu,used hu (by omega) ?_⟩
     have hw2:w64 ((i:Int)+1)=((i+1:Nat):Int):=kw1 (by omega)
     rw [hw2]
     refine Jn.mk (fun _=>∀b:Nat,i<b→b<plan.length→¬Y0 s trips plan k i b) (Loop.inv (plan.length-(i+1)) (fun j (t:Int)=>t=((i+1+j:Nat):Int)∧∀b:Nat,i<b→b<i+1+j→¬Y0 s trips plan k i b) ⟨rfl,fun b h1 h2=>by omega⟩ (fun j t hj hI3=>?_) (fun t hI3=>?_)) (fun _ h=>h)
     ·obtain⟨rfl,hI3⟩:=hI3
      have hjl:i+1+j<plan.length:=by omega
      have hy:trips[i+1+j]?=some (trips[i+1+j]'(by omega)):=List.getElem?_eq_getElem _
      have hv:plan[i+1+j]?=some (plan[i+1+j]'hjl):=List.getElem?_eq_getElem hjl
      generalize trips[i+1+j]'(by omega)=y at hy
      generalize plan[i+1+j]'hjl=v at hv
      refine Ite.lt (by omega) ⟨y,Qo rfl hy,v,Qo rfl hv,used hv (by omega) ?_⟩
      have a1:=Q1J s x.From u k
      have a2:=Q1J s y.From v k
      refine Q0M a1.2 a2.2 a1.1 a2.1 (fun l hl=>Ite.mk (fun e=>?_) (fun e=>?_))
      ·have hpos:0<l.length:=by have:=of_decide_eq_true e;omega
       have hl0:l[0]?=some (l[0]'hpos):=List.getElem?_eq_getElem hpos
       obtain⟨c,c1,c2⟩:=hl.1 hpos
       exact⟨_,Qo rfl hl0,hp1 i (i+1+j) k _ (by omega) hjl (fun hN=>hN k i (i+1+j) (by omega) (by omega) hjl ⟨x,y,u,v,c,hx,hy,hu,hv,c1,c2⟩)⟩
      ·have hpos:¬0<l.length:=by have:=of_decide_eq_false e;omega
       refine⟨by rw [kw1 (by omega)];rfl,fun b h1 h2=>?_⟩
       by_cases c:b=i+1+j
       ·subst c
        rintro⟨x',y',u',v',c,g1,g2,g3,g4,g5,g6⟩
        rw [hx] at g1;cases g1;rw [hy] at g2;cases g2;rw [hu] at g3;cases g3;rw [hv] at g4;cases g4
        exact hpos (hl.2 ⟨c,g5,g6⟩)
       ·exact hI3 b h1 (by omega)
     ·obtain⟨rfl,hI3⟩:=hI3
      exact Ite.nlt (by omega) (fun b h1 h2=>hI3 b h1 (by omega))
    ·by_cases c:a=i
     ·subst c;exact hA b hab hb
     ·exact hI2 a b (by omega) hab hb
   ·obtain⟨rfl,hI2⟩:=hI2
    exact Ite.nlt (by omega) (fun a b hab hb=>hI2 a b (by omega) hab hb)
  ·intro hab hb
   by_cases c:k'=k
   ·subst c;exact hK a b hab hb
   ·exact hI k' a b (by omega) hab hb
 ·obtain⟨rfl,hI⟩:=hI
  exact Ite.nlt (by omega) (fun k a b hk hab hb=>hI k a b (by omega) hab hb)
theorem Q07 {plan:List (List Int)} (hl:plan.length≤100) (hr:∀w,w∈plan→w.length≤1000) {post:Int→Prop} (hp:∀n:Int,0≤n→n≤100000→post n):KX plan post:=by
 unfold KX
 refine Jn.mk (fun n=>0≤n∧n≤100000) (Loop.inv plan.length (fun i (t:Int×Int)=>t.2=(i:Int)∧0≤t.1∧t.1≤i*1000) ⟨rfl,by simp,by simp⟩ (fun i t hi hI=>?_) (fun t hI=>?_)) (fun n h=>hp n h.1 h.2)
 ·obtain⟨m,c⟩:=t
  obtain⟨e1,e2,e3⟩:=hI
  simp only at e1 e2 e3
  subst e1
  have hx:plan[i]?=some (plan[i]'hi):=List.getElem?_eq_getElem hi
  generalize plan[i]'hi=w at hx
  have:=hr w (List.mem_of_getElem? hx)
  refine Ite.lt (by show (i:Int)<_;omega) ⟨w,Qo rfl hx,?_,?_,?_⟩
  ·show w64 ((i:Int)+1)=_;rw [kw1 (by omega)]
  ·show 0≤w64 (m+(w.length:Int));rw [kw (by omega) (by omega)];omega
  ·show w64 (m+(w.length:Int))≤_;rw [kw (by omega) (by omega)];omega
 ·obtain⟨m,c⟩:=t
  obtain⟨e1,e2,e3⟩:=hI
  simp only at e1 e2 e3
  subst e1
  exact Ite.nlt (by show ¬(plan.length:Int)<_;omega) ⟨e2,by show m≤100000;omega⟩
end Go.Taq
/- Chapter 24 (cbs), part G: the search over bans. -/
set_option linter.unusedVariables false
set_option linter.unusedSimpArgs false
namespace Go.Taq
open Go
theorem Q6J {i j:Nat} (h:i+j≤1000000):IntKind.wrap .i64 (shrI .u64 (IntKind.wrap .u64 (w64 ((i:Int)+(j:Int)))) 1)=(((i+j) / 2:Nat):Int):=by
 have e1:IntKind.wrap .u64 (w64 ((i:Int)+(j:Int)))=(((i+j:Nat)):Int):=by
  rw [K8 (by omega) (by omega),wu64 (by omega) (by omega)];omega
 rw [e1,shrI]
 have e2:(2:Int) ^ (min (1:Int).toNat IntKind.u64.bits)=2:=by decide
 rw [e2,Int.fdiv_eq_ediv_of_nonneg _ (by decide)]
 exact (K8 (by omega) (by omega)).trans (by omega)
theorem Q3S {l:List (List Int)} (hne:l≠[]) (hl:l.length≤1000) {post:List (List Int)→Prop} (hp:post l):Kb l post:=by
 unfold Kb
 intro b hb
 exact Ite.mk (fun e=>absurd (hb (by simpa using e)) hne) (fun _=>⟨by simp;omega,by simpa using hp⟩)
def Gh (p:CbsProblem) (n:Qw):Prop:=n.plan.length=p.trips.length∧∀(i:Nat) x w,p.trips[i]?=some x→n.plan[i]?=some w→Q3n p.s p.avoid p.tick p.most x w
section
variable {p:CbsProblem} (hm:0≤p.most∧p.most≤1000) (h4:p.trips.length≤4)
include hm h4
theorem Gh.rows {n:Qw} (h:Gh p n):n.plan.length≤100∧∀w,w∈n.plan→w.length≤1000∧∀a,a∈w→I64 a:=by
 refine⟨by have:=h.1;omega,fun w hw=>?_⟩
 obtain⟨i,hi,rfl⟩:=List.getElem_of_mem hw
 have hx:p.trips[i]?=some (p.trips[i]'(by have:=h.1;omega)):=List.getElem?_eq_getElem _
 have hg:=h.2 i _ _ hx (List.getElem?_eq_getElem hi)
 obtain⟨r,hr,ha⟩:=hg.run
 refine⟨by have:=hg.len;omega,fun a hm'=>?_⟩
 have:=ha a hm'
 unfold I64;omega
theorem Q6o {xs:List Qw} (hx:∀n,n∈xs→Gh p n) (hl:xs.length≤10000) {t:Int} (ht:0≤t∧t≤1000000) {post:Int×Bool→Prop} (hp:∀(i:Nat) b,i≤xs.length→post ((i:Int),b)):Q7 xs t post:=by
 unfold Q7
 have cmp:∀n,n∈xs→∀{q:Int→Prop},(∀z,q z)→Ka n t q:=fun n hn q hq=>by
  unfold Ka
  have:=Gh.rows hm h4 (hx n hn)
  exact Q07 this.1 (fun w hw=>(this.2 w hw).1) (fun _ _ _=>hq _)
 refine Jn.mk (fun x=>∃i:Nat,x=(i:Int)∧i≤xs.length) (Loop.mk (fun (s:Int×Int)=>∃i j:Nat,s.1=(i:Int)∧s.2=(j:Int)∧i≤j∧j≤xs.length) (fun s=>(s.2-s.1).toNat) ⟨0,xs.length,rfl,rfl,by omega,by omega⟩ (fun s hI=>?_)) (fun x ⟨i,e,hi⟩=>?_)
 ·obtain⟨a,b⟩:=s
  obtain⟨i,j,e1,e2,hij,hj⟩:=hI
  simp only at e1 e2
  subst e1;subst e2
  dsimp only
  rw [Q6J (by omega)]
  refine Ite.mk (fun e=>?_) (fun e=>⟨i,rfl,by omega⟩)
  have hlt:(i:Int)<(j:Int):=of_decide_eq_true e
  have hmid:(i+j) / 2<xs.length:=by omega
  have hg:xs[(i+j) / 2]?=some (xs[(i+j) / 2]'hmid):=List.getElem?_eq_getElem hmid
  refine⟨_,Qo rfl hg,cmp _ (List.getElem_mem _) (fun z=>?_)⟩
  refine Jn.mk (fun (r:Int×Int)=>∃i' j':Nat,r.1=(i':Int)∧r.2=(j':Int)∧i'≤j'∧j'≤xs.length∧j'-i'<j-i) (Ite.mk (fun _=>⟨(i+j) / 2+1,j,?_,rfl,by omega,hj,by omega⟩) (fun _=>⟨i,(i+j) / 2,rfl,rfl,by omega,by omega,by omega⟩)) (fun r ⟨i',j',e1,e2,g1,g2,g3⟩=>?_)
  ·show w64 (((((i+j) / 2:Nat)):Int)+1)=_;rw [kw1 (by omega)]
  ·refine⟨⟨i',j',e1,e2,g1,g2⟩,?_⟩
   show (r.2-r.1).toNat<((j:Int)-(i:Int)).toNat
   rw [e1,e2];omega
 ·subst e
  refine Jn.mk (fun _=>True) (Ite.mk (fun e=>?_) (fun _=>trivial)) (fun b _=>hp i b hi)
  have hlt:(i:Int)<(xs.length:Int):=of_decide_eq_true e
  have hg:xs[i]?=some (xs[i]'(by omega)):=List.getElem?_eq_getElem (by omega)
  exact⟨_,Qo rfl hg,cmp _ (List.getElem_mem _) (fun _=>trivial)⟩
omit hm h4 in
theorem Q5F {xs:List Qw} {i:Nat} (hi:i≤xs.length) (hl:xs.length≤10000) {n:Qw} {post:List Qw→Prop} (hp:post (xs.take i++([n]++xs.drop i))):Qn (i:Int) xs [n] post:=by
 unfold Qn
 by_cases c:i<xs.length
 ·exact .inr ⟨⟨by omega,by omega⟩,by simp,by simp;omega,by rw [Int.toNat_natCast];exact hp⟩
 ·have e:i=xs.length:=by omega
  subst e
  refine .inl ?_
  unfold QC
  refine⟨⟨by omega,by omega,by omega⟩,Ite.f (by simp) (Ite.t (by simp) ⟨by simp;omega,?_⟩)⟩
  simpa using hp
theorem Q34 (k:OkApiSite p.s) (h:RS p.s) (h60:p.s.Floor.Kind.length≤100) (hav:p.avoid.length≤maxLen) (ht:0≤p.tick∧p.tick≤20000) (hf:∀x,x∈p.trips→isC p.s.Floor x.From=true) {n:Qw} (hn:Gh p n) {i:Nat} (hi:i<p.trips.length) {c t:Int}
  {post:Qw×Bool→Prop} (hp:∀m b,(b=true→Gh p m)→post (m,b)):KE p n {robot:=(i:Int),cell:=c,tick:=t} post:=by
 unfold KE
 have hx:p.trips[i]?=some (p.trips[i]'hi):=List.getElem?_eq_getElem hi
 generalize hxe:p.trips[i]'hi=x at hx
 have hlen:n.plan.length=p.trips.length:=hn.1
 have hw:n.plan[i]?=some (n.plan[i]'(by omega)):=List.getElem?_eq_getElem _
 refine Q3S (by rintro e;rw [e] at hlen;simp at hlen;omega) (by omega) ?_
 refine Jn.mk (fun _=>True) (Loop.mk (fun _=>True) (fun s=>left n.bans s.2) trivial (fun st _=>⟨fun b v hb=>⟨trivial,Q1D n.bans hb.1 hb.2⟩,fun _=>trivial⟩)) (fun bans _=>?_)
 refine S_cbs_walk k h h60 hav ht hm hx (hf x (List.mem_of_getElem? hx)) (fun w hg=>⟨_,Qo rfl hw,hp _ _ (fun _=>⟨by simp [hlen],fun j y v hy hv=>?_⟩)⟩) ⟨_,Qo rfl hw,hp _ _ (fun e=>by cases e)⟩
 simp only [Int.toNat_natCast] at hv
 by_cases e:i=j
 ·subst e
  rw [List.getElem?_set_self (by omega)] at hv
  cases hv
  rw [hx] at hy;cases hy
  exact hg
 ·rw [List.getElem?_set_ne e] at hv
  exact hn.2 j y v hy hv
theorem Q1K (k:OkApiSite p.s) (h:RS p.s) (h60:p.s.Floor.Kind.length≤100) (hav:p.avoid.length≤maxLen) (ht:0≤p.tick∧p.tick≤20000) (hf:∀x,x∈p.trips→isC p.s.Floor x.From=true)
  {post:List (List Int)×Int→Prop} (hp:∀n,Gh p n→YN p.s p.trips n.plan→post (n.plan,0)) (hw:post ([],14)) (hl:post ([],27)):KJ p post:=by
 unfold KJ
 refine⟨⟨by omega,by omega⟩,?_⟩
 refine Jn.mk (fun plan=>Gh p {bans:=[],plan:=plan}) (Loop.inv p.trips.length (fun i (t:List (List Int)×Int)=>t.2=(i:Int)∧t.1.length=p.trips.length∧∀(j:Nat) x w,j<i→p.trips[j]?=some x→t.1[j]?=some w→Q3n p.s p.avoid p.tick p.most x w) ⟨rfl,by simp,fun j x w hj=>by omega⟩ (fun i t hi hI=>?_) (fun t hI=>?_)) (fun plan hroot=>?_)
 ·obtain⟨plan,c⟩:=t
  obtain⟨e1,e2,e3⟩:=hI
  simp only at e1 e2 e3
  subst e1
  have hx:p.trips[i]?=some (p.trips[i]'hi):=List.getElem?_eq_getElem hi
  generalize p.trips[i]'hi=x at hx
  have hpw:plan[i]?=some (plan[i]'(by omega)):=List.getElem?_eq_getElem _
  refine Ite.lt (by show (i:Int)<_;omega) (S_cbs_walk k h h60 hav ht hm hx (hf x (List.mem_of_getElem? hx)) (fun w hg=>Ite.f rfl ⟨_,Qo rfl hpw,?_,?_,fun j y v hj hy hv=>?_⟩) (Ite.t rfl hw))
  ·show w64 ((i:Int)+1)=_;rw [kw1 (by omega)]
  ·simp [e2]
  ·simp only [Int.toNat_natCast] at hv
   by_cases e:i=j
   ·subst e
    rw [List.getElem?_set_self (by omega)] at hv
    cases hv
    rw [hx] at hy;cases hy
    exact hg
   ·rw [List.getElem?_set_ne e] at hv
    exact e3 j y v (by omega) hy hv
 ·obtain⟨plan,c⟩:=t
  obtain⟨e1,e2,e3⟩:=hI
  simp only at e1 e2 e3
  subst e1
  refine Ite.nlt (by show ¬(p.trips.length:Int)<_;omega) ⟨e2,fun j x w hx hw'=>e3 j x w (List.getElem?_eq_some_iff.1 hx).1 hx hw'⟩
 ·refine Jn.mk (fun _=>True) (Loop.inv 500 (fun i (t:List Qw×Int)=>t.2=(i:Int)∧t.1.length≤1+2*i∧∀n,n∈t.1→Gh p n) ⟨rfl,by simp,fun n hn=>by simp at hn;subst hn;exact hroot⟩ (fun i t hi hI=>?_) (fun t hI=>?_)) (fun _ _=>hl)
  ·obtain⟨opn,c⟩:=t
   obtain⟨e1,e2,e3⟩:=hI
   simp only at e1 e2 e3
   subst e1
   refine Ite.t (decide_eq_true (by show (i:Int)<500;omega)) (Jn.mk (fun o=>o.length≤1+2*(i+1)∧∀n,n∈o→Gh p n) (Ite.mk (fun _=>hw) (fun e=>?_)) (fun o ho=>⟨by show w64 ((i:Int)+1)=_;rw [kw1 (by omega)],ho⟩))
   match opn,e2,e3,e with
   | [],_,_,e=>exact absurd e (by simp)
   | n :: rest,e2,e3,e=>
    simp only [List.length_cons] at e2
    have hn:=e3 n (by simp)
    have hrows:=Gh.rows hm h4 hn
    refine⟨n,rfl,⟨by omega,by simp;omega,by omega⟩,Q0p h.fl h60 (by rw [hn.1];exact Nat.le_refl _) hrows.1 hrows.2 (fun a b kk cc hab hb _=>Ite.f rfl ?_) (fun hN=>Ite.t rfl (hp n hn hN))⟩
    have hsub:sub (n :: rest) 1 (((n :: rest).length:Nat):Int)=rest:=by
     unfold sub
     rw [show (1:Int).toNat=1 from rfl]
     simp
    rw [hsub]
    have hbt:b<p.trips.length:=by rw [←hn.1];exact hb
    refine Jn.mk (fun o=>o.length≤1+2*(i+1)∧∀n,n∈o→Gh p n) (Loop.inv 2 (fun j (t:List Qw×Int)=>t.2=(j:Int)∧t.1.length≤rest.length+j∧∀n,n∈t.1→Gh p n) ⟨rfl,by simp,fun m hm'=>e3 m (by simp [hm'])⟩ (fun j t hj hI=>?_) (fun t hI=>?_)) (fun o ho=>ho)
    ·obtain⟨o,c⟩:=t
     obtain⟨q1,q2,q3⟩:=hI
     simp only at q1 q2 q3
     subst q1
     have go:∀r:Nat,r<p.trips.length→idx ([(a:Int),(b:Int)]:List Int) (j:Int)=some (r:Int)→∃x73,idx ([(a:Int),(b:Int)]:List Int) (j:Int)=some x73∧KE p n ({robot:=x73,cell:=cc,tick:=(kk:Int):Kl}) (fun x76=>Jn (fun (J80:(List Qw)→Prop)=>Ite x76.2 (KX x76.1.plan (fun x84=>Q7 o (w64 (x84+1)) (fun x85=>Qn x85.1 o ([x76.1]:List Qw) (fun x88=>J80 x88)))) (J80 o)) (fun (x79:List Qw)=>(x79,w64 ((j:Int)+1)).2=((j+1:Nat):Int)∧(x79,w64 ((j:Int)+1)).1.length≤rest.length+(j+1)∧∀n,n∈(x79,w64 ((j:Int)+1)).1→Gh p n)):=fun r hr hidx=>by
      refine⟨_,hidx,Q34 hm h4 k h h60 hav ht hf hn hr (fun m bb hmok=>?_)⟩
      refine Jn.mk (fun o'=>o'.length≤o.length+1∧∀n,n∈o'→Gh p n) (Ite.mk (fun e=>?_) (fun _=>⟨by omega,q3⟩)) (fun o' ho=>⟨by rw [kw1 (by omega)],by show o'.length≤_;have:=ho.1;omega,ho.2⟩)
      have hmr:=Gh.rows hm h4 (hmok e)
      refine Q07 hmr.1 (fun w hw'=>(hmr.2 w hw').1) (fun z hz0 hz1=>?_)
      rw [kw (by omega) (by omega)]
      refine Q6o hm h4 q3 (by omega) ⟨by omega,by omega⟩ (fun ii _ hii=>Q5F hii (by omega) ⟨?_,fun n' hn'=>?_⟩)
      ·simp;omega
      ·rcases List.mem_append.1 hn' with h1 | h1
       ·exact q3 n' (List.mem_of_mem_take h1)
       ·rcases List.mem_append.1 h1 with h2 | h2
        ·simp at h2;subst h2;exact hmok e
        ·exact q3 n' (List.mem_of_mem_drop h2)
     have hj2:j=0∨j=1:=by omega
     refine Ite.lt (by show (j:Int)<_;simp;omega) ?_
     rcases hj2 with rfl | rfl
     ·exact go a (by omega) rfl
     ·exact go b hbt rfl
    ·obtain⟨o,c⟩:=t
     obtain⟨q1,q2,q3⟩:=hI
     simp only at q1 q2 q3
     subst q1
     exact Ite.nlt (by simp) ⟨by show o.length≤_;omega,q3⟩
  ·obtain⟨o,c⟩:=t
   obtain⟨e1,e2,e3⟩:=hI
   simp only at e1
   subst e1
   exact Ite.f (decide_eq_false (by show ¬((500:Nat):Int)<500;omega)) trivial
end
end Go.Taq
/- Chapter 24 (cbs), part H: joint places; what spread adds to a layer. -/
set_option linter.unusedVariables false
set_option linter.unusedSimpArgs false
namespace Go.Taq
open Go
abbrev p0K:CbsPlace:={cell:=0,rest:=0,done:=false}
abbrev z4K:Arr4CbsPlace:={e0:=p0K,e1:=p0K,e2:=p0K,e3:=p0K}
abbrev i4K:Arr4Int:={e0:=0,e1:=0,e2:=0,e3:=0}
abbrev st0K:CbsStep:={cost:=0,from_:=z4K,acts:=i4K}
def g4 (a:Arr4CbsPlace):Nat→CbsPlace
 | 0=>a.e0
 | 1=>a.e1
 | 2=>a.e2
 | _=>a.e3
def s4 (a:Arr4CbsPlace) (i:Nat) (x:CbsPlace):Arr4CbsPlace:=
 match i with
 | 0=>{a with e0:=x}
 | 1=>{a with e1:=x}
 | 2=>{a with e2:=x}
 | _=>{a with e3:=x}
def gi (a:Arr4Int):Nat→Int
 | 0=>a.e0
 | 1=>a.e1
 | 2=>a.e2
 | _=>a.e3
def si (a:Arr4Int) (i:Nat) (x:Int):Arr4Int:=
 match i with
 | 0=>{a with e0:=x}
 | 1=>{a with e1:=x}
 | 2=>{a with e2:=x}
 | _=>{a with e3:=x}
theorem four {i:Nat} (h:i<4):i=0∨i=1∨i=2∨i=3:=by omega
theorem Q0i {a:Arr4CbsPlace} {i:Nat} (h:i<4):([a.e0,a.e1,a.e2,a.e3]:List CbsPlace)[i]?=some (g4 a i):=by
 rcases four h with rfl | rfl | rfl | rfl <;> rfl
theorem Q3H {a:Arr4CbsPlace} {i:Nat} {x:CbsPlace} (h:i<4):([a.e0,a.e1,a.e2,a.e3]:List CbsPlace).set (Int.toNat (i:Int)) x=[(s4 a i x).e0,(s4 a i x).e1,(s4 a i x).e2,(s4 a i x).e3]:=by
 rw [Int.toNat_natCast]
 rcases four h with rfl | rfl | rfl | rfl <;> rfl
theorem Q2A {a:Arr4CbsPlace} {i j:Nat} {x:CbsPlace} (h:i<4) (hj:j<4):g4 (s4 a i x) j=if i=j then x else g4 a j:=by
 rcases four h with rfl | rfl | rfl | rfl <;> rcases four hj with rfl | rfl | rfl | rfl <;> rfl
theorem Q3B {a:Arr4Int} {i:Nat} (h:i<4):([a.e0,a.e1,a.e2,a.e3]:List Int)[i]?=some (gi a i):=by
 rcases four h with rfl | rfl | rfl | rfl <;> rfl
theorem Q4h {a:Arr4Int} {i:Nat} {x:Int} (h:i<4):([a.e0,a.e1,a.e2,a.e3]:List Int).set (Int.toNat (i:Int)) x=[(si a i x).e0,(si a i x).e1,(si a i x).e2,(si a i x).e3]:=by
 rw [Int.toNat_natCast]
 rcases four h with rfl | rfl | rfl | rfl <;> rfl
theorem Q25 {a:Arr4Int} {i j:Nat} {x:Int} (h:i<4) (hj:j<4):gi (si a i x) j=if i=j then x else gi a j:=by
 rcases four h with rfl | rfl | rfl | rfl <;> rcases four hj with rfl | rfl | rfl | rfl <;> rfl
theorem Q2G {a b:Arr4CbsPlace} (h:∀i,i<4→g4 a i=g4 b i):a=b:=by
 cases a;cases b
 have h0:=h 0 (by decide);have h1:=h 1 (by decide);have h2:=h 2 (by decide);have h3:=h 3 (by decide)
 simp only [g4] at h0 h1 h2 h3
 subst h0;subst h1;subst h2;subst h3;rfl
def Z9 (s:ApiSite) (avoid:List Int) (t:Int) (x:ApiTrip) (q q':CbsPlace) (act:Int):Prop:=
 (act=-1∧q'={cell:=q.cell,rest:=0,done:=true}∧(q.done=true∨q.cell=x.To))∨(q.done=false∧({act:=act,to_:=q'}:Ke)∈mvs s avoid t q)
def Q3O (J J':Arr4CbsPlace) (a b:Nat):Prop:=∀c,(c=(g4 J a).cell∨c=(g4 J' a).cell)→(c=(g4 J b).cell∨c=(g4 J' b).cell)→False
structure Gv (p:CbsProblem) (t:Int) (J J':Arr4CbsPlace) (acts:Arr4Int):Prop where
 st:∀(i:Nat) x,p.trips[i]?=some x→Z9 p.s p.avoid t x (g4 J i) (g4 J' i) (gi acts i)
 ap:∀a b:Nat,a<b→b<p.trips.length→Q3O J J' a b
 un:∀i:Nat,p.trips.length≤i→i<4→g4 J' i=p0K
structure Q35 (p:CbsProblem) (t:Int) (J:Arr4CbsPlace) (i:Nat) (to:Arr4CbsPlace) (acts:Arr4Int) (used:List Int):Prop where
 st:∀(j:Nat) y,j<i→p.trips[j]?=some y→Z9 p.s p.avoid t y (g4 J j) (g4 to j) (gi acts j)
 ap:∀a b:Nat,a<b→b<i→Q3O J to a b
 un:∀j:Nat,i≤j→j<4→g4 to j=p0K
 us:∀c,c∈used↔∃j:Nat,j<i∧(c=(g4 J j).cell∨c=(g4 to j).cell)
 ul:used.length≤2*i
def KC (acts:Arr4Int):Nat→Int
 | 0=>0
 | n+1=>KC acts n+(if gi acts n=-1 then 0 else 1)
theorem ZQ (acts:Arr4Int):∀n,0≤KC acts n∧KC acts n≤n
 | 0=>⟨Int.le_refl _,Int.le_refl _⟩
 | n+1=>by
  have:=ZQ acts n
  rw [KC];split <;> omega
theorem ZV {a b:Arr4Int}:∀n,(∀j,j<n→gi a j=gi b j)→KC a n=KC b n
 | 0,_=>rfl
 | n+1,h=>by rw [KC,KC,ZV n (fun j hj=>h j (by omega)),h n (by omega)]
theorem Q35.full {p:CbsProblem} {t:Int} {J to:Arr4CbsPlace} {acts:Arr4Int} {used:List Int} (h:Q35 p t J p.trips.length to acts used):Gv p t J to acts:=
 ⟨fun i x hx=>h.st i x (List.getElem?_eq_some_iff.1 hx).1 hx,h.ap,h.un⟩
theorem Q35.more {p:CbsProblem} {t:Int} {J to:Arr4CbsPlace} {acts:Arr4Int} {used:List Int} {i:Nat} (hi:i<4) (h:Q35 p t J i to acts used) {x:ApiTrip} (hx:p.trips[i]?=some x) {q':CbsPlace} {act:Int} (hs:Z9 p.s p.avoid t x (g4 J i) q' act)
  {more:List Int} (hm:∀c,c∈more↔c=(g4 J i).cell∨c=q'.cell) (hl:more.length≤2) (hf:∀c,c∈more→c∉used):Q35 p t J (i+1) (s4 to i q') (si acts i act) (used++more):=by
 have gt:∀j,j<i→g4 (s4 to i q') j=g4 to j:=fun j hj=>by rw [Q2A hi (by omega),if_neg (by omega)]
 have ga:∀j,j<i→gi (si acts i act) j=gi acts j:=fun j hj=>by rw [Q25 hi (by omega),if_neg (by omega)]
 have gI:g4 (s4 to i q') i=q':=by rw [Q2A hi hi,if_pos rfl]
 refine⟨fun j y hj hy=>?_,fun a b hab hb=>?_,fun j hj h4=>?_,fun c=>?_,by simp;have:=h.ul;omega⟩
 ·by_cases c:j<i
  ·rw [gt j c,ga j c];exact h.st j y c hy
  ·have:j=i:=by omega
   subst this
   rw [hx] at hy;cases hy
   rw [gI,Q25 hi hi,if_pos rfl];exact hs
 ·by_cases c:b<i
  ·intro x h1 h2
   rw [gt a (by omega)] at h1;rw [gt b c] at h2
   exact h.ap a b hab c x h1 h2
  ·have:b=i:=by omega
   subst this
   intro x h1 h2
   rw [gt a hab] at h1;rw [gI] at h2
   exact hf x ((hm x).2 h2) ((h.us x).2 ⟨a,hab,h1⟩)
 ·rw [Q2A hi h4,if_neg (by omega)];exact h.un j (by omega) h4
 ·rw [List.mem_append,h.us c,hm c]
  constructor
  ·rintro (⟨j,hj,hc⟩ | hc)
   ·exact⟨j,by omega,by rw [gt j hj];exact hc⟩
   ·exact⟨i,by omega,by rw [gI];exact hc⟩
  ·rintro⟨j,hj,hc⟩
   by_cases c':j<i
   ·exact .inl ⟨j,c',by rw [gt j c'] at hc;exact hc⟩
   ·have:j=i:=by omega
    subst this
    rw [gI] at hc;exact .inr hc
theorem Q3b {cells used:List Int} (hl:cells.length≤100) (hu:used.length≤100) {post:Bool→Prop} (hp:∀b,(b=true↔∀c,c∈cells→c∉used)→post b):QW cells used post:=by
 unfold QW Qp Qu
 have step:∀(x:Int) {q:Bool→Prop},q (used.contains x)→QZ x used q:=fun x q hq=>by
  unfold QZ
  exact XZ (by simp [maxLen];omega) hq
 refine Q00 (by simp [maxLen];omega) (fun c=>used.contains c) (T:=fun c q=>QZ c used q) (fun x _ q hq=>step x hq) ?_
 rw [Yl]
 refine hp _ ?_
 rw [Bool.not_eq_true',List.any_eq_false]
 simp
def Has (layer:List (Arr4CbsPlace×CbsStep)) (T:Arr4CbsPlace) (c:Int):Prop:=∃st,lk layer T=some st∧st.cost≤c
def LOk (P:Arr4CbsPlace→CbsStep→Prop) (layer:List (Arr4CbsPlace×CbsStep)):Prop:=∀T st,lk layer T=some st→P T st
end Go.Taq
/- Chapter 24 (cbs), part I: what spread adds to a layer. -/
set_option linter.unusedVariables false
set_option linter.unusedSimpArgs false
namespace Go.Taq
open Go
theorem Q4P {s:ApiSite} {avoid:List Int} {t:Int} {q:CbsPlace}:(mvs s avoid t q).length≤7:=by
 unfold mvs
 have:(((List.range 6).map (mv1 s avoid t q)).flatten).length≤6*1:=by
  rw [List.length_flatten]
  simp only [List.map_map]
  have key:∀l:List Nat,(l.map (List.length ∘ mv1 s avoid t q)).sum≤l.length*1:=fun l=>by
   induction l with
   | nil=>simp
   | cons d l ih=>
    have:=Q2b (s:=s) (avoid:=avoid) (t:=t) (q:=q) (d:=d)
    simp only [List.map_cons,List.sum_cons,Function.comp,List.length_cons] at ih ⊢
    omega
  have:=key (List.range 6)
  simpa using this
 simp only [List.length_cons];omega
theorem Has.upd {layer:List (Arr4CbsPlace×CbsStep)} {to T:Arr4CbsPlace} {st:CbsStep} {c:Int} (hlt:∀o,lk layer to=some o→st.cost≤o.cost) (h:Has layer T c):Has (upd layer to st) T c:=by
 obtain⟨o,ho,hc⟩:=h
 unfold Has
 rw [GG]
 split
 ·rename_i e;subst e
  exact⟨st,rfl,by have:=hlt o ho;omega⟩
 ·exact⟨o,ho,hc⟩
section
variable {p:CbsProblem} {J:Arr4CbsPlace} {kk:Nat} {P:Arr4CbsPlace→CbsStep→Prop} {c0:Int}
theorem Q3l (k:OkApiSite p.s) (h:RS p.s) (hav:p.avoid.length≤maxLen) (ht:0≤p.tick∧p.tick≤20000) (h4:p.trips.length≤4) (hJ:∀i,i<4→0≤(g4 J i).rest∧(g4 J i).rest≤1000) (hk:kk≤1000) (hc0:0≤c0∧c0≤100000)
  (hP:∀to acts,Gv p (p.tick+kk) J to acts→P to {cost:=c0+KC acts p.trips.length,from_:=J,acts:=acts})
  {X:(CbsProblem×Int×Int×Arr4CbsPlace×List Int×CbsStep×List (Arr4CbsPlace×CbsStep))→(List (Arr4CbsPlace×CbsStep)→Prop)→Prop}
  (hX:∀a post,QH X a.1 a.2.1 a.2.2.1 a.2.2.2.1 a.2.2.2.2.1 a.2.2.2.2.2.1 a.2.2.2.2.2.2 post→X a post):
  ∀(m i:Nat) (to:Arr4CbsPlace) (used:List Int) (acts:Arr4Int) (layer:List (Arr4CbsPlace×CbsStep)) (post:List (Arr4CbsPlace×CbsStep)→Prop),i+m=p.trips.length→Q35 p (p.tick+kk) J i to acts used→LOk P layer →
   (∀layer',LOk P layer'→(∀T c,Has layer T c→Has layer' T c)→(∀T A,Gv p (p.tick+kk) J T A→(∀j,j<i→g4 T j=g4 to j∧gi A j=gi acts j)→Has layer' T (c0+KC A p.trips.length))→post layer') →
   X (p,(i:Int),(kk:Int),to,used,{cost:=c0+KC acts i,from_:=J,acts:=acts},layer) post:=by
 intro m
 induction m with
 | zero=>
  intro i to used acts layer post him hp hL hpost
  have hi:i=p.trips.length:=by omega
  subst hi
  refine hX _ _ ?_
  show QH X p ((p.trips.length:Nat):Int) (kk:Int) to used _ layer post
  unfold QH
  refine Ite.t (by simp) ?_
  refine Jn.mk (fun b=>(b=true∧∀o,lk layer to=some o→c0+KC acts p.trips.length≤o.cost)∨(b=false∧∃o,lk layer to=some o∧o.cost≤c0+KC acts p.trips.length)) (Ite.mk (fun e=>?_) (fun e=>?_)) (fun b hb=>?_)
  ·cases ho:lk layer to with
   | none=>rw [ho] at e;cases e
   | some o=>
    simp only [Option.getD_some]
    by_cases c:c0+KC acts p.trips.length<o.cost
    ·exact .inl ⟨decide_eq_true c,fun o' h'=>by cases h';omega⟩
    ·exact .inr ⟨decide_eq_false c,o,rfl,by omega⟩
  ·refine .inl ⟨rfl,fun o ho=>?_⟩
   rw [ho] at e;cases e
  ·have hfull:=hp.full
   have hTo:∀T A,Gv p (p.tick+kk) J T A→(∀j,j<p.trips.length→g4 T j=g4 to j∧gi A j=gi acts j)→T=to∧KC A p.trips.length=KC acts p.trips.length:=fun T A hT hag=>
    ⟨Q2G (fun j hj=>by
     by_cases c:j<p.trips.length
     ·exact (hag j c).1
     ·rw [hT.un j (by omega) hj,hp.un j (by omega) hj]),ZV _ (fun j hj=>(hag j hj).2)⟩
   refine Jn.mk (fun l=>LOk P l∧(∀T c,Has layer T c→Has l T c)∧Has l to (c0+KC acts p.trips.length)) (Ite.mk (fun e=>?_) (fun e=>?_)) (fun l hl=>hpost l hl.1 hl.2.1 (fun T A hT hag=>by
    obtain⟨e1,e2⟩:=hTo T A hT hag
    rw [e1,e2];exact hl.2.2))
   ·rcases hb with ⟨_,hb⟩ | ⟨hb,_⟩
    ·refine⟨fun T st hst=>?_,fun T c hc=>hc.upd hb,{cost:=c0+KC acts p.trips.length,from_:=J,acts:=acts},by rw [GG,if_pos rfl],Int.le_refl _⟩
     rw [GG] at hst
     split at hst
     ·rename_i e2;subst e2;cases hst
      exact hP _ _ hfull
     ·exact hL T st hst
    ·rw [hb] at e;cases e
   ·rcases hb with ⟨hb,_⟩ | ⟨_,o,ho,hc⟩
    ·rw [hb] at e;cases e
    ·exact⟨hL,fun T c hc=>hc,o,ho,hc⟩
 | succ m ih=>
  intro i to used acts layer post him hp hL hpost
  have hi:i<p.trips.length:=by omega
  have hi4:i<4:=by omega
  have hx:p.trips[i]?=some (p.trips[i]'hi):=List.getElem?_eq_getElem hi
  generalize p.trips[i]'hi=x at hx
  have hul:used.length≤8:=by have:=hp.ul;omega
  have hcb:=ZQ acts i
  have hq:=hJ i hi4
  refine hX _ _ ?_
  show QH X p (i:Int) (kk:Int) to used _ layer post
  unfold QH
  have w1:w64 ((i:Int)+1)=((i+1:Nat):Int):=kw1 (by omega)
  have w2:w64 (c0+KC acts i+1)=c0+KC acts i+1:=kw (by omega) (by omega)
  simp only [w1,w2]
  refine Ite.f (by simp;omega) ⟨g4 J i,Qo rfl (Q0i hi4),?_⟩
  -- which robots a target's prefix leaves room for
  have room:∀T A,Gv p (p.tick+kk) J T A→(∀j,j<i→g4 T j=g4 to j∧gi A j=gi acts j)→∀c,(c=(g4 J i).cell∨c=(g4 T i).cell)→c∉used:=fun T A hT hag c hc hu=>by
   obtain⟨j,hj,hcj⟩:=(hp.us c).1 hu
   exact hT.ap j i hj hi c (by rw [(hag j hj).1];exact hcj) hc
  refine Jn.mk (fun b=>b=true↔((g4 J i).done=true∨(g4 J i).cell=x.To)∧(g4 J i).cell∉used) (Ite.mk (fun e=>Q3b (by simp) (by omega) (fun b hb=>?_)) (fun e=>⟨x,Qo rfl hx,Ite.mk (fun e2=>Q3b (by simp) (by omega) (fun b hb=>?_)) (fun e2=>?_)⟩)) (fun b hb=>?_)
  ·show b=true↔_
   rw [hb];simp [e]
  ·have e2':(g4 J i).cell=x.To:=by simpa using e2
   show b=true↔_
   rw [hb];simp [e2']
  ·have e2':(g4 J i).cell≠x.To:=by simpa using e2
   simp [e,e2']
  refine Jn.mk (fun l1=>LOk P l1∧(∀T c,Has layer T c→Has l1 T c)∧∀T A,Gv p (p.tick+kk) J T A→(∀j,j<i→g4 T j=g4 to j∧gi A j=gi acts j)→gi A i=-1→Has l1 T (c0+KC A p.trips.length)) (Ite.mk (fun e=>?_) (fun e=>?_)) (fun l1 hl1=>?_)
  ·obtain⟨h1,h2⟩:=hb.1 e
   refine⟨_,Qo rfl (Q0i hi4),_,Q3H hi4,_,Qo rfl (Q3B hi4),_,Q4h hi4,Q04 (by omega) ⟨by simp;omega,?_⟩⟩
   have hmore:=hp.more hi4 hx (q':={cell:=(g4 J i).cell,rest:=0,done:=true}) (act:=-1) (.inl ⟨rfl,rfl,h1⟩) (more:=[(g4 J i).cell]) (fun c=>by simp) (by simp) (fun c hc=>by simp at hc;subst hc;exact h2)
   have hcost:c0+KC (si acts i (-1)) (i+1)=c0+KC acts i:=by
    rw [KC,Q25 hi4 hi4,if_pos rfl,if_pos rfl,ZV (b:=acts) i (fun j hj=>by rw [Q25 hi4 (by omega),if_neg (by omega)])];omega
   have:=ih (i+1) _ _ _ layer (fun l1=>LOk P l1∧(∀T c,Has layer T c→Has l1 T c)∧∀T A,Gv p (p.tick+kk) J T A→(∀j,j<i→g4 T j=g4 to j∧gi A j=gi acts j)→gi A i=-1→Has l1 T (c0+KC A p.trips.length)) (by omega) hmore hL (fun l1 g1 g2 g3=>⟨g1,g2,fun T A hT hag hA=>g3 T A hT (fun j hj=>?_)⟩)
   ·rw [hcost] at this;exact this
   ·rw [Q2A hi4 (by omega),Q25 hi4 (by omega)]
    by_cases c:i=j
    ·subst c
     rw [if_pos rfl,if_pos rfl]
     refine⟨?_,hA⟩
     rcases hT.st i x hx with ⟨_,h',_⟩ | ⟨_,h'⟩
     ·exact h'
     ·have:=(Z0 h hq.1 h').2.1;simp only at this;omega
    ·rw [if_neg c,if_neg c];exact hag j (by omega)
  ·refine⟨hL,fun T c hc=>hc,fun T A hT hag hA=>?_⟩
   exfalso
   have hr:=room T A hT hag (g4 J i).cell (.inl rfl)
   rcases hT.st i x hx with ⟨_,_,h'⟩ | ⟨_,h'⟩
   ·have:=hb.2 ⟨h',hr⟩;rw [this] at e;cases e
   ·have:=(Z0 h hq.1 h').2.1;simp only at this;omega
  refine Ite.mk (fun e=>hpost l1 hl1.1 hl1.2.1 (fun T A hT hag=>hl1.2.2 T A hT hag ?_)) (fun e=>Q06 k h hav ht hq hk ?_)
  ·rcases hT.st i x hx with ⟨h',_⟩ | ⟨h',_⟩
   ·exact h'
   ·rw [h'] at e;cases e
  have hml:=Q4P (s:=p.s) (avoid:=p.avoid) (t:=p.tick+kk) (q:=g4 J i)
  generalize hMV:mvs p.s p.avoid (p.tick+kk) (g4 J i)=MV at hml ⊢
  refine Jn.mk (fun l2=>LOk P l2∧(∀T c,Has layer T c→Has l2 T c)∧∀T A,Gv p (p.tick+kk) J T A→(∀j,j<i→g4 T j=g4 to j∧gi A j=gi acts j)→Has l2 T (c0+KC A p.trips.length))
   (Loop.inv MV.length (fun n (t:List (Arr4CbsPlace×CbsStep)×Int)=>t.2=(n:Int)∧LOk P t.1∧(∀T c,Has layer T c→Has t.1 T c)∧∀T A,Gv p (p.tick+kk) J T A→(∀j,j<i→g4 T j=g4 to j∧gi A j=gi acts j)→(gi A i=-1∨∃n',n'<n∧MV[n']?=some {act:=gi A i,to_:=g4 T i})→Has t.1 T (c0+KC A p.trips.length))
    ⟨rfl,hl1.1,hl1.2.1,fun T A hT hag hc=>by rcases hc with hc | ⟨n',hn',_⟩;exact hl1.2.2 T A hT hag hc;omega⟩ (fun n t hn hI=>?_) (fun t hI=>?_)) (fun l2 hl2=>hpost l2 hl2.1 hl2.2.1 hl2.2.2)
  ·obtain⟨l,c⟩:=t
   obtain⟨e1,g1,g2,g3⟩:=hI
   simp only at e1 g1 g2 g3
   subst e1
   have hmv:MV[n]?=some (MV[n]'hn):=List.getElem?_eq_getElem hn
   generalize MV[n]'hn=mv at hmv
   have hmem:mv∈mvs p.s p.avoid (p.tick+kk) (g4 J i):=by rw [hMV];exact List.mem_of_getElem? hmv
   have hok:=Z0 h hq.1 hmem
   have hw:w64 ((n:Int)+1)=((n+1:Nat):Int):=kw1 (by omega)
   refine Ite.lt (by show (n:Int)<_;omega) ⟨mv,Qo rfl hmv,Q3b (by simp) (by omega) (fun b hb2=>?_)⟩
   refine Jn.mk (fun l'=>LOk P l'∧(∀T c,Has l T c→Has l' T c)∧∀T A,Gv p (p.tick+kk) J T A→(∀j,j<i→g4 T j=g4 to j∧gi A j=gi acts j)→({act:=gi A i,to_:=g4 T i}:Ke)=mv→Has l' T (c0+KC A p.trips.length)) (Ite.mk (fun e2=>?_) (fun e2=>?_)) (fun l' hl'=>⟨hw,hl'.1,fun T c hc=>hl'.2.1 T c (g2 T c hc),fun T A hT hag hc=>?_⟩)
   ·have hfr:=hb2.1 e2
    refine⟨_,Qo rfl (Q0i hi4),_,Q3H hi4,_,Qo rfl (Q3B hi4),_,Q4h hi4,Q04 (by omega) ⟨by simp;omega,?_⟩⟩
    have hmore:=hp.more hi4 hx (q':=mv.to_) (act:=mv.act) (.inr ⟨e,hmem⟩) (more:=[(g4 J i).cell,mv.to_.cell]) (fun c=>by simp) (by simp) hfr
    have hcost:c0+KC (si acts i mv.act) (i+1)=c0+KC acts i+1:=by
     rw [KC,Q25 hi4 hi4,if_pos rfl,if_neg (by have:=hok.2.1;omega),ZV (b:=acts) i (fun j hj=>by rw [Q25 hi4 (by omega),if_neg (by omega)])];omega
    have:=ih (i+1) _ _ _ l (fun l'=>LOk P l'∧(∀T c,Has l T c→Has l' T c)∧∀T A,Gv p (p.tick+kk) J T A→(∀j,j<i→g4 T j=g4 to j∧gi A j=gi acts j)→({act:=gi A i,to_:=g4 T i}:Ke)=mv→Has l' T (c0+KC A p.trips.length)) (by omega) hmore g1 (fun l' q1 q2 q3=>⟨q1,q2,fun T A hT hag hA=>q3 T A hT (fun j hj=>?_)⟩)
    ·rw [hcost] at this;exact this
    ·rw [Q2A hi4 (by omega),Q25 hi4 (by omega)]
     by_cases c:i=j
     ·subst c
      rw [if_pos rfl,if_pos rfl,←hA];exact⟨rfl,rfl⟩
     ·rw [if_neg c,if_neg c];exact hag j (by omega)
   ·refine⟨g1,fun T c hc=>hc,fun T A hT hag hA=>?_⟩
    exfalso
    have hr:=room T A hT hag
    have:b=true:=hb2.2 (fun c hc=>by
     simp only [List.mem_cons,List.not_mem_nil,or_false] at hc
     refine hr c ?_
     rcases hc with hc | hc
     ·exact .inl hc
     ·right;rw [hc,←hA])
    rw [this] at e2;cases e2
   ·rcases hc with hc | ⟨n',hn',hmv'⟩
    ·exact hl'.2.1 T _ (g3 T A hT hag (.inl hc))
    ·by_cases c:n'=n
     ·subst c
      rw [hmv] at hmv'
      exact hl'.2.2 T A hT hag (Option.some.inj hmv').symm
     ·exact hl'.2.1 T _ (g3 T A hT hag (.inr ⟨n',by omega,hmv'⟩))
  ·obtain⟨l,c⟩:=t
   obtain⟨e1,g1,g2,g3⟩:=hI
   simp only at e1 g1 g2 g3
   subst e1
   refine Ite.nlt (by show ¬(MV.length:Int)<_;omega) ⟨g1,g2,fun T A hT hag=>g3 T A hT hag ?_⟩
   rcases hT.st i x hx with ⟨h',_⟩ | ⟨_,h'⟩
   ·exact .inl h'
   ·rw [hMV] at h'
    obtain⟨n',hn',he⟩:=List.getElem_of_mem h'
    exact .inr ⟨n',hn',by rw [List.getElem?_eq_getElem hn',he]⟩
theorem Q3h (k:OkApiSite p.s) (h:RS p.s) (hav:p.avoid.length≤maxLen) (ht:0≤p.tick∧p.tick≤20000) (h4:p.trips.length≤4) (hJ:∀i,i<4→0≤(g4 J i).rest∧(g4 J i).rest≤1000) (hk:kk≤1000) (hc0:0≤c0∧c0≤100000)
  (hP:∀to acts,Gv p (p.tick+kk) J to acts→P to {cost:=c0+KC acts p.trips.length,from_:=J,acts:=acts}) {layer:List (Arr4CbsPlace×CbsStep)} (hL:LOk P layer) {post:List (Arr4CbsPlace×CbsStep)→Prop}
  (hpost:∀layer',LOk P layer'→(∀T c,Has layer T c→Has layer' T c)→(∀T A,Gv p (p.tick+kk) J T A→Has layer' T (c0+KC A p.trips.length))→post layer'):
  KF p 0 (kk:Int) z4K [] {cost:=c0,from_:=J,acts:=i4K} layer post:=by
 unfold KF
 intro X hX
 have:=Q3l k h hav ht h4 hJ hk hc0 hP (X:=X) (fun a post hb=>hX a post hb) p.trips.length 0 z4K [] i4K layer post (by omega) ⟨fun j y hj=>by omega,fun a b _ hb=>by omega,fun j _ hj=>by rcases four hj with rfl | rfl | rfl | rfl <;> rfl,fun c=>by simp,by simp⟩ hL (fun l g1 g2 g3=>hpost l g1 g2 (fun T A hT=>g3 T A hT (fun j hj=>by omega)))
 simpa [KC] using this
end
end Go.Taq
/- Chapter 24 (cbs), part J: the joint places of a layer in order. -/
set_option linter.unusedVariables false
set_option linter.unusedSimpArgs false
namespace Go.Taq
open Go
def cfP (a b:CbsPlace):Int:=
 if cfO a b=0∧a.done≠b.done then (if a.done=true then 1 else -1) else cfO a b
theorem ZW {a b:CbsPlace} (ha:pO a) (hb:pO b):(cfP a b<0↔Ge a<Ge b)∧(cfP a b=0↔Ge a=Ge b):=by
 obtain⟨c,r,d⟩:=a
 obtain⟨c',r',d'⟩:=b
 obtain⟨h1,h2,h3,h4⟩:=ha
 obtain⟨g1,g2,g3,g4⟩:=hb
 simp only at h1 h2 h3 h4 g1 g2 g3 g4
 unfold cfP Ge cfO
 cases d <;> cases d' <;> simp only [ne_eq,reduceCtorEq,not_false_eq_true,not_true_eq_false,and_true,and_false,if_true,if_false,Bool.false_eq_true] <;> (repeat' split) <;> omega
theorem Q2d {a b:CbsPlace} (ha:pO a) (hb:pO b) {post:Int→Prop} (hp:post (cfP a b)):XS a b post:=by
 unfold XS
 obtain⟨h1,h2,h3,h4⟩:=ha
 obtain⟨g1,g2,g3,g4⟩:=hb
 rw [kw (by omega) (by omega),kw (by omega) (by omega)]
 refine Q4j ?_
 show Jn _ _
 have e0:(if a.cell-b.cell≠0 then a.cell-b.cell else a.rest-b.rest)=cfO a b:=rfl
 rw [e0]
 refine Jn.mk (fun q=>q=decide (cfO a b=0∧a.done≠b.done)) (Ite.mk (fun e=>?_) (fun e=>?_)) (fun q e=>?_)
 ·have:cfO a b=0:=by simpa using e
  simp only [this,true_and]
  cases a.done <;> cases b.done <;> rfl
 ·have:cfO a b≠0:=by simpa using e
  simp [this]
 ·subst e
  refine Jn.mk (fun r=>r=cfP a b) (Ite.mk (fun e=>?_) (fun e=>?_)) (fun r e=>by subst e;exact hp)
  ·have e':=of_decide_eq_true e
   refine Jn.mk (fun r=>r=cfP a b) (Ite.mk (fun e2=>?_) (fun e2=>?_)) (fun r e=>e)
   ·unfold cfP;rw [if_pos e',if_pos e2]
   ·unfold cfP;rw [if_pos e',if_neg (by rw [e2];decide)]
  ·have e':=of_decide_eq_false e
   unfold cfP;rw [if_neg e']
def cf4 (a b:Arr4CbsPlace):Int:=
 if cfP a.e0 b.e0≠0 then cfP a.e0 b.e0 else if cfP a.e1 b.e1≠0 then cfP a.e1 b.e1 else if cfP a.e2 b.e2≠0 then cfP a.e2 b.e2 else if cfP a.e3 b.e3≠0 then cfP a.e3 b.e3 else 0
def pJ (a:Arr4CbsPlace):Prop:=(pO a.e0∧pO a.e1∧pO a.e2∧pO a.e3)∧a.e0.cell≤15∧a.e1.cell≤15∧a.e2.cell≤15∧a.e3=p0K
def key4 (a:Arr4CbsPlace):Int:=((Ge a.e0*3232+Ge a.e1)*3232+Ge a.e2)*3232+Ge a.e3
theorem Xu {q:CbsPlace} (h:pO q) (hc:q.cell≤15):0≤Ge q∧Ge q<3232:=by
 obtain⟨h1,h2,h3,h4⟩:=h
 unfold Ge;split <;> omega
theorem Q0y:Ge p0K=0:=by decide
theorem WO {a b:Arr4CbsPlace} (ha:pJ a) (hb:pJ b):cf4 a b<0↔key4 a<key4 b:=by
 obtain⟨⟨a0,a1,a2,a3⟩,x0,x1,x2,x3⟩:=ha
 obtain⟨⟨b0,b1,b2,b3⟩,y0,y1,y2,y3⟩:=hb
 have s0:=ZW a0 b0;have s1:=ZW a1 b1;have s2:=ZW a2 b2;have s3:=ZW a3 b3
 have u0:=Xu a0 x0;have u1:=Xu a1 x1;have u2:=Xu a2 x2
 have v0:=Xu b0 y0;have v1:=Xu b1 y1;have v2:=Xu b2 y2
 have u3:Ge a.e3=0:=by rw [x3];exact Q0y
 have v3:Ge b.e3=0:=by rw [y3];exact Q0y
 have z3:cfP a.e3 b.e3=0:=s3.2.2 (by rw [u3,v3])
 unfold cf4 key4
 rw [u3,v3]
 generalize Ge a.e0=A0 at *;generalize Ge a.e1=A1 at *;generalize Ge a.e2=A2 at *
 generalize Ge b.e0=B0 at *;generalize Ge b.e1=B1 at *;generalize Ge b.e2=B2 at *
 generalize cfP a.e0 b.e0=c0 at *;generalize cfP a.e1 b.e1=c1 at *;generalize cfP a.e2 b.e2=c2 at *;generalize cfP a.e3 b.e3=c3 at *
 clear a0 a1 a2 a3 b0 b1 b2 b3 x0 x1 x2 x3 y0 y1 y2 y3 u3 v3 s3
 split
 ·rename_i h
  have:A0≠B0:=fun e=>h (s0.2.2 e)
  constructor
  ·intro h';have:=s0.1.1 h';omega
  ·intro h';exact s0.1.2 (by omega)
 ·rename_i h
  have e0:A0=B0:=s0.2.1 (by omega)
  split
  ·rename_i h
   have:A1≠B1:=fun e=>h (s1.2.2 e)
   constructor
   ·intro h';have:=s1.1.1 h';omega
   ·intro h';exact s1.1.2 (by omega)
  ·rename_i h
   have e1:A1=B1:=s1.2.1 (by omega)
   split
   ·rename_i h
    have:A2≠B2:=fun e=>h (s2.2.2 e)
    constructor
    ·intro h';have:=s2.1.1 h';omega
    ·intro h';exact s2.1.2 (by omega)
   ·rename_i h
    have e2:A2=B2:=s2.2.1 (by omega)
    rw [if_neg (by omega)]
    omega
theorem Q3W {a b:Arr4CbsPlace} (ha:pJ a) (hb:pJ b) (h:key4 a=key4 b):a=b:=by
 obtain⟨⟨a0,a1,a2,a3⟩,x0,x1,x2,x3⟩:=ha
 obtain⟨⟨b0,b1,b2,b3⟩,y0,y1,y2,y3⟩:=hb
 have u0:=Xu a0 x0;have u1:=Xu a1 x1;have u2:=Xu a2 x2
 have v0:=Xu b0 y0;have v1:=Xu b1 y1;have v2:=Xu b2 y2
 have u3:Ge a.e3=0:=by rw [x3];exact Q0y
 have v3:Ge b.e3=0:=by rw [y3];exact Q0y
 unfold key4 at h
 rw [u3,v3] at h
 have e0:a.e0=b.e0:=YY a0 b0 (by omega)
 have e1:a.e1=b.e1:=YY a1 b1 (by omega)
 have e2:a.e2=b.e2:=YY a2 b2 (by omega)
 cases a;cases b
 simp only at e0 e1 e2 x3 y3
 subst e0;subst e1;subst e2;subst x3;subst y3;rfl
theorem Q2c {a:Arr4CbsPlace} (ha:pJ a):0≤key4 a / 3232∧key4 a / 3232<33761000000∧key4 a=key4 a / 3232*3232:=by
 obtain⟨⟨a0,a1,a2,a3⟩,x0,x1,x2,x3⟩:=ha
 have u0:=Xu a0 x0;have u1:=Xu a1 x1;have u2:=Xu a2 x2
 have u3:Ge a.e3=0:=by rw [x3];exact Q0y
 unfold key4
 rw [u3];omega
theorem swo4:SWOc fun x y:Subtype pJ=>cf4 x.1 y.1:=by
 refine⟨fun x=>?_,fun x y z h1 h2=>?_,fun x y z h1 h2=>?_⟩
 ·rw [WO x.2 x.2];omega
 ·rw [WO x.2 y.2] at h1;rw [WO y.2 z.2] at h2;rw [WO x.2 z.2];omega
 ·rw [WO x.2 y.2] at h1;rw [WO y.2 z.2] at h2;rw [WO x.2 z.2];omega
theorem Q2m {a b:Arr4CbsPlace} (ha:pJ a) (hb:pJ b) {post:Int→Prop} (hp:post (cf4 a b)):XN a b post:=by
 unfold XN Qb
 obtain⟨⟨a0,a1,a2,a3⟩,_⟩:=ha
 obtain⟨⟨b0,b1,b2,b3⟩,_⟩:=hb
 have pa:∀i,i<4→pO (g4 a i):=fun i hi=>by rcases four hi with rfl | rfl | rfl | rfl <;> assumption
 have pb:∀i,i<4→pO (g4 b i):=fun i hi=>by rcases four hi with rfl | rfl | rfl | rfl <;> assumption
 have val:∀i,i<4→(∀j,j<i→cfP (g4 a j) (g4 b j)=0)→cfP (g4 a i) (g4 b i)≠0→cf4 a b=cfP (g4 a i) (g4 b i):=fun i hi h0 h1=>by
  unfold cf4
  rcases four hi with rfl | rfl | rfl | rfl
  ·simp only [g4] at h1 ⊢
   rw [if_pos h1]
  ·have q0:=h0 0 (by decide)
   simp only [g4] at q0 h1 ⊢
   rw [if_neg (by omega),if_pos h1]
  ·have q0:=h0 0 (by decide);have q1:=h0 1 (by decide)
   simp only [g4] at q0 q1 h1 ⊢
   rw [if_neg (by omega),if_neg (by omega),if_pos h1]
  ·have q0:=h0 0 (by decide);have q1:=h0 1 (by decide);have q2:=h0 2 (by decide)
   simp only [g4] at q0 q1 q2 h1 ⊢
   rw [if_neg (by omega),if_neg (by omega),if_neg (by omega),if_pos h1]
 refine Jn.mk (fun _=>cf4 a b=0) (Loop.inv 4 (fun i (t:Int)=>t=(i:Int)∧∀j,j<i→cfP (g4 a j) (g4 b j)=0) ⟨rfl,fun j hj=>by omega⟩ (fun i t hi hI=>?_) (fun t hI=>?_)) (fun _ e=>?_)
 ·obtain⟨rfl,hI⟩:=hI
  refine Ite.lt (by simp;omega) ⟨_,Qo rfl (Q0i hi),Ite.f (decide_eq_false (by simp;omega)) ⟨_,Qo rfl (Q0i hi),Q2d (pa i hi) (pb i hi) (Ite.mk (fun e=>?_) (fun e=>?_))⟩⟩
  ·have e':cfP (g4 a i) (g4 b i)≠0:=by simpa using e
   rw [val i hi hI e'] at hp;exact hp
  ·have e':cfP (g4 a i) (g4 b i)=0:=by simpa using e
   refine⟨by rw [kw1 (by omega)],fun j hj=>?_⟩
   by_cases c:j=i
   ·subst c;exact e'
   ·exact hI j (by omega)
 ·obtain⟨rfl,hI⟩:=hI
  refine Ite.nlt (by simp) ?_
  have q0:=hI 0 (by decide);have q1:=hI 1 (by decide);have q2:=hI 2 (by decide);have q3:=hI 3 (by decide)
  simp only [g4] at q0 q1 q2 q3
  unfold cf4
  rw [if_neg (by omega),if_neg (by omega),if_neg (by omega),if_neg (by omega)]
 ·rw [e] at hp
  exact Ite.f (by simp) hp
theorem Q3y {layer:List (Arr4CbsPlace×CbsStep)} (h:∀x,lk layer x≠none→pJ x) {post:List Arr4CbsPlace→Prop} (hp:∀ys:List Arr4CbsPlace,ys.length≤33761000000→(∀x,x∈ys↔lk layer x≠none)→post ys):Gl layer post:=by
 unfold Gl
 have hB:∀ks:List Arr4CbsPlace,ks.Nodup→(∀x,x∈ks→lk layer x≠none)→ks.length≤33761000000:=fun ks h1 h2=>
  Q4l (fun a=>key4 a / 3232) h1 (fun x hx=>by have:=Q2c (h x (h2 x hx));omega) (fun x hx y hy e=>Q3W (h x (h2 x hx)) (h y (h2 y hy)) (by have:=Q2c (h x (h2 x hx));have:=Q2c (h y (h2 y hy));omega))
 refine Jn.mk (fun ks=>ks.Nodup∧∀x,x∈ks↔lk layer x≠none) (Q2J (J:=fun ks:List Arr4CbsPlace=>ks.Nodup∧∀x,x∈ks↔lk layer x≠none) (fun ks h1 h2=>by have:=hB ks h1 h2;omega) (fun ks h1 h2=>⟨h1,h2⟩)) (fun ks ⟨h1,h2⟩=>?_)
 have hlen:=hB ks h1 (fun x hx=>(h2 x).1 hx)
 unfold Qm
 refine⟨pJ,cf4,?_,swo4,fun x hx=>h x ((h2 x).1 hx),fun x y hx hy=>Q2m hx hy rfl,by omega,fun ys hperm _=>hp ys (by rw [hperm.length_eq];exact hlen) (fun x=>by rw [hperm.mem_iff];exact h2 x)⟩
 have hd:pO p0K:=⟨by decide,by decide,by decide,by decide⟩
 exact⟨⟨hd,hd,hd,hd⟩,by decide,by decide,by decide,rfl⟩
end Go.Taq
