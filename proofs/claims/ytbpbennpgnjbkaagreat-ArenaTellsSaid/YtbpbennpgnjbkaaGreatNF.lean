/- The mathematics, several parts in one text. -/
import Derived.Test.YtbpbennpgnjbkaaGreatNB
/- The mathematics, part NC: what may stand where (rules): cells, classes, who is carried, what stands at a cell, rooms. -/
set_option linter.unusedVariables false
set_option linter.unusedSimpArgs false
namespace Go.Taq
open Go
def stB (s:ApiSite) (c:Int):Bool:=isC s.Floor c&&Q1o (kd s.Floor c)
def clsS (s:ApiSite) (i:Int):ByteArray:=if 0≤i∧i<s.Shelves.length then (s.Shelves.getD i.toNat default).Class else ByteArray.empty
def nev (s:ApiSite) (a b:ByteArray):Bool:=apB s.Aparts a b
def carr (st:ApiState) (i:Int):Int:=if i<0 then -1 else fidx (fun r:ApiRobot=>r.Load == i) st.Robots
def carB (st:ApiState) (i:Int):Bool:=decide (0≤carr st i)
theorem Q2j {st:ApiState} {i:Int} (h:0≤i):carB st i=st.Robots.any fun r=>r.Load == i:=by
 unfold carB carr
 rw [if_neg (by omega)]
 have:=Q1i (p:=fun r:ApiRobot=>r.Load == i) (xs:=st.Robots)
 rw [←this]
def optI (x:Int):Option Int:=if 0≤x then some x else none
def atP (st:ApiState) (c:Int) (i:Nat):Bool:=(st.Shelves.getD i 0 == c)&&!carB st i
def atS (st:ApiState) (c:Int):Int:=fnat (atP st c) st.Shelves.length
theorem Q1g {p:Nat→Bool} {a n:Nat} (h:a<n):fnat (fun i=>decide (a≤i)&&p i) n=if p a=true then (a:Int) else fnat (fun i=>decide (a+1≤i)&&p i) n:=by
 by_cases hp:p a=true
 ·rw [if_pos hp]
  exact Q5o h (by simp [hp]) (fun j hj=>by simp;intro h';omega)
 ·rw [if_neg hp]
  have:(fun i=>decide (a≤i)&&p i)=fun i=>decide (a+1≤i)&&p i:=by
   funext i
   by_cases e:i=a
   ·subst e;simp [hp]
   ·have:(a≤i)=(a+1≤i):=by simp;omega
    simp only [this]
  rw [this]
theorem Q58 (p:Nat→Bool) (n:Nat):fnat (fun i=>decide (0≤i)&&p i) n=fnat p n:=by simp
theorem Q6y (p:Nat→Bool) (n:Nat):fnat (fun i=>decide (n≤i)&&p i) n=-1:=Q2y fun i hi=>by simp;intro;omega
section
variable {s:ApiSite} {st:ApiState}
theorem Q3a {c:Int} {post:Bool→Prop} (hp:post (stB s c)):GS s c post:=by
 unfold GS X8
 refine Jn.mk (fun b=>b=stB s c) (YS (Ite.mk (fun h=>?_) (fun h=>?_))) (fun b hb=>by rw [hb];exact hp)
 ·have hc:isC s.Floor c=true:=h
  refine⟨_,Wl hc,?_⟩
  unfold stB Q1o;rw [hc]
  refine Ite.mk (fun h'=>by simp [h']) (fun h'=>by simp [h'])
 ·have hc:isC s.Floor c=false:=h
  unfold stB;rw [hc];rfl
theorem Za {i:Int} {post:ByteArray→Prop} (hp:post (clsS s i)):G5 s i post:=by
 unfold G5
 refine Jor2 (Ite.mk (fun h=>?_) (fun h=>?_))
 ·unfold clsS at hp;rw [if_neg (by simp at h;omega)] at hp;exact hp
 ·have h':0≤i∧i<s.Shelves.length:=by simp at h;omega
  unfold clsS at hp;rw [if_pos h'] at hp
  refine⟨s.Shelves.getD i.toNat default,?_,hp⟩
  rw [Yf h'.1 h'.2,List.getD_eq_getElem?_getD,List.getElem?_eq_getElem (by omega)];rfl
theorem Q2n (k:Qz s) {post:List (ApiApart×Bool)→Prop} (hp:∀m:List (ApiApart×Bool),(∀a b,(lk m ⟨a,b⟩).getD false=s.Aparts.any fun x=>(seq x.A a&&seq x.B b)||(seq x.A b&&seq x.B a))→post m):GC s post:=by
 unfold GC
 refine Jn.mk (fun m=>∀a b,(lk m ⟨a,b⟩).getD false=s.Aparts.any fun x=>(seq x.A a&&seq x.B b)||(seq x.A b&&seq x.B a))
  (Wg k.Aparts.1 (fun t:List (ApiApart×Bool)×Int=>t.2) (fun n (t:List (ApiApart×Bool)×Int)=>∀a b,(lk t.1 ⟨a,b⟩).getD false=(s.Aparts.take n).any fun x=>(seq x.A a&&seq x.B b)||(seq x.A b&&seq x.B a)) rfl (fun a b=>rfl) (fun n x t hx ht hI=>⟨by rw [ht],fun a b=>?_⟩) (fun t h=>by rwa [List.take_length] at h)) (fun m h=>hp m h)
 rw [QY hx,List.any_append,Q3D,Q3D]
 by_cases e1:(⟨x.B,x.A⟩:ApiApart)=⟨a,b⟩
 ·rw [if_pos e1]
  simp only [ApiApart.mk.injEq] at e1
  simp [e1.1,e1.2,Q6n.2]
 ·rw [if_neg e1]
  by_cases e2:x=⟨a,b⟩
  ·rw [if_pos e2];subst e2;simp [Q6n.2]
  ·rw [if_neg e2,hI]
   have h1:(seq x.A a&&seq x.B b)=false:=by
    rw [Bool.eq_false_iff];intro h;simp only [Bool.and_eq_true,Q6n] at h;exact e2 (by cases x;simp at h;simp [h])
   have h2:(seq x.A b&&seq x.B a)=false:=by
    rw [Bool.eq_false_iff];intro h;simp only [Bool.and_eq_true,Q6n] at h;exact e1 (by rw [h.1,h.2])
   simp [h1,h2]
theorem Q9M {m:List (ApiApart×Bool)} (hm:∀a b,(lk m ⟨a,b⟩).getD false=s.Aparts.any fun x=>(seq x.A a&&seq x.B b)||(seq x.A b&&seq x.B a)) {a b:ByteArray} (ha:nosh a=false) (hb:nosh b=false):(lk m ⟨a,b⟩).getD false=nev s a b:=by
 rw [hm];unfold nev apB;rw [ha,hb];rfl
theorem Q4v (k:Qz s) {a b:ByteArray} {post:Bool→Prop} (hp:post (nev s a b)):Wj s a b post:=by
 unfold Wj
 refine Jn.mk (fun r=>r=nev s a b) (Ite.mk (fun h=>?_) (fun h=>Ite.mk (fun h'=>?_) (fun h'=>Q2n k (fun m hm=>Q9M hm h h')))) (fun r hr=>by rw [hr];exact hp)
 ·have:nosh a=true:=h
  unfold nev apB;rw [this];rfl
 ·have:nosh b=true:=h'
  unfold nev apB;rw [this];simp
theorem Zo (k:Qh st) {i:Int} {post:Int→Prop} (hp:post (carr st i)):XP st i post:=by
 unfold XP
 refine Ite.mk (fun h=>?_) (fun h=>?_)
 ·unfold carr at hp;rw [if_pos (by simpa using h)] at hp;exact hp
 ·unfold carr at hp;rw [if_neg (by simpa using h)] at hp
  unfold Qm
  refine Q0z k.Robots.1 (fun r:ApiRobot=>r.Load == i) (T:=fun r post=>XV r i post) (fun r _ q hq=>?_) hp
  unfold XV;exact hq
theorem Q29 (k:Qh st) (hl:st.Shelves.length≤1000000) {post:List (Int×Int)→Prop} (hp:∀m:List (Int×Int),(∀c,lk m c=optI (atS st c))→post m):Gf st post:=by
 unfold Gf
 refine Jn.mk (fun m=>∀i:Int,(lk m i).getD false=st.Robots.any fun r=>r.Load == i)
  (Wg k.Robots.1 (fun t:List (Int×Bool)×Int=>t.2) (fun n (t:List (Int×Bool)×Int)=>∀i:Int,(lk t.1 i).getD false=(st.Robots.take n).any fun r=>r.Load == i) rfl (fun i=>rfl) (fun n r t hr ht hI=>⟨by rw [ht],fun i=>?_⟩) (fun t h=>by rwa [List.take_length] at h)) (fun cm hcm=>?_)
 ·rw [QY hr,List.any_append,Q3D]
  by_cases e:r.Load=i
  ·rw [if_pos e];simp [e]
  ·rw [if_neg e,hI];simp [e]
 unfold KI
 refine⟨by omega,Each.inv (bkw st.Shelves) (fun j m=>∀c,lk m c=optI (fnat (fun i=>decide (st.Shelves.length-j≤i)&&atP st c i) st.Shelves.length)) (fun c=>?_) (fun j x m hx hI Y hY=>?_) (fun m h=>hp m (fun c=>?_))⟩
 ·rw [Nat.sub_zero,Q6y];rfl
 ·have hj:j<st.Shelves.length:=by have:=(List.getElem?_eq_some_iff.1 hx).1;rwa [Q5D] at this
  have hg:=Q7r (xs:=st.Shelves) (m:=st.Shelves.length-(j+1)) (by omega)
  rw [show st.Shelves.length-(st.Shelves.length-(j+1)+1)=j by omega,hx] at hg
  cases hg
  have e1:st.Shelves.length-j=st.Shelves.length-(j+1)+1:=by omega
  have hcar:(lk cm ((st.Shelves.length-(j+1):Nat):Int)).getD false=carB st ((st.Shelves.length-(j+1):Nat):Int):=by rw [hcm,Q2j (by omega)]
  refine Jn.mk' ?_
  dsimp only
  rw [hcar]
  refine Ite.mk (fun h=>hY _ (fun c=>?_)) (fun h=>hY _ (fun c=>?_))
  ·rw [Q3D,Q1g (by omega)]
   by_cases e:st.Shelves.getD (st.Shelves.length-(j+1)) 0=c
   ·rw [if_pos e,if_pos (by unfold atP;simp only [Bool.and_eq_true,beq_iff_eq];exact⟨e,h⟩)]
    unfold optI;rw [if_pos (by omega)]
   ·rw [if_neg e,if_neg (by unfold atP;simp only [Bool.and_eq_true,beq_iff_eq];exact fun h=>e h.1),hI,e1]
  ·rw [Q1g (by omega),if_neg (by unfold atP;simp only [Bool.and_eq_true];exact fun h'=>by rw [h] at h';cases h'.2),hI,e1]
 ·rw [h c,Q5D,Nat.sub_self];unfold atS;rw [Q58]
theorem Q8s (st:ApiState) (c:Int):-1≤atS st c∧atS st c<st.Shelves.length:=by
 rcases YP (atP st c) st.Shelves.length with ⟨i,h1,h2,_⟩ | ⟨h,_⟩ <;> unfold atS <;> omega
theorem Q5R (x:Int):(optI x).isSome=decide (0≤x):=by
 unfold optI;by_cases h:0≤x <;> simp [h]
theorem Q3o (k:Qh st) (hl:st.Shelves.length≤1000000) {c:Int} {post:Int→Prop} (hp:post (atS st c)):WW s st c post:=by
 unfold WW
 refine Q29 k hl (fun m hm=>?_)
 have:=Q8s st c
 rw [hm,Q5R]
 refine Ite.mk (fun h=>?_) (fun h=>?_)
 ·simp at h;unfold optI;rw [if_pos h];exact hp
 ·simp at h;rw [show (-1:Int)=atS st c by omega];exact hp
end
end Go.Taq
/- The mathematics, part ND: what is near, which shelves disturb each other, dropping (rules). -/
set_option linter.unusedVariables false
set_option linter.unusedSimpArgs false
namespace Go.Taq
open Go
def YM (f:Q6) (a b:Int):Bool:=isC f b&&([0,1,2,3]:List Int).any fun d=>nbr f a d == b
theorem Q1W {f:Q6} (h:RF f) {a b:Int} {post:Bool→Prop} (hp:post (YM f a b)):W9 f a b post:=by
 unfold W9
 refine Q1R h (Ite.mk (fun hb=>?_) (fun hb=>?_))
 ·simp only [Bool.not_eq_true'] at hb
  unfold YM at hp;rw [hb] at hp;exact hp
 ·simp only [Bool.not_eq_false'] at hb
  unfold YM at hp;rw [hb] at hp
  exact Q6f (xs:=[0,1,2,3]) (by simp [maxLen]) (fun d=>nbr f a d == b) (T:=fun x q=>XI f a x (fun r=>q (r == b))) (fun x _ q hq=>Q0o h hq) hp
theorem ZE {f:Q6} (h:RF f) {a b:Int} {post:Bool→Prop} (hp:post (YM f a b)):Kg f a b post:=by
 unfold Kg
 refine Jn.mk (fun _=>YM f a b=false) (Q21 4 (fun t=>t) (fun n _=>∀d:Int,0≤d→d<n→(isC f b&&nbr f a d == b)=false) (by simp [maxLen]) rfl (fun d h0 h1=>by omega) (fun n t hn ht hI=>?_) (fun t hI=>?_)) (fun _ hb=>by rw [hb] at hp;exact hp)
 ·refine Jn.mk (fun r=>r=(isC f b&&nbr f a n == b)) (Gj h (Ite.mk (fun hb=>by rw [ht];exact YH h (by rw [hb];simp)) (fun hb=>by rw [hb];simp))) (fun r hr=>Ite.mk (fun h1=>?_) (fun h1=>⟨by rw [ht],fun d h0 hd=>?_⟩))
  ·rw [hr,Bool.and_eq_true] at h1
   have:YM f a b=true:=by
    unfold YM
    rw [h1.1,Bool.true_and,List.any_eq_true]
    refine⟨(n:Int),?_,h1.2⟩
    have:n=0∨n=1∨n=2∨n=3:=by omega
    rcases this with rfl | rfl | rfl | rfl <;> simp
   rw [this] at hp;exact hp
  ·by_cases e:d=n
   ·subst e;rw [←hr];exact h1
   ·exact hI d h0 (by omega)
 ·unfold YM
  cases hb:isC f b with
  | false=>rfl
  | true=>
   rw [Bool.true_and,List.any_eq_false]
   intro d hd
   have:=hI d (by simp at hd;omega) (by simp at hd;omega)
   rw [hb] at this;simpa using this
section
variable {s:ApiSite} {st:ApiState}
def badP (s:ApiSite) (st:ApiState) (a b:Nat):Bool:=YM s.Floor (st.Shelves.getD a 0) (st.Shelves.getD b 0)&&nev s (clsS s a) (clsS s b)&&!carB st a&&!carB st b
def Q1N (s:ApiSite) (st:ApiState) (a:Nat):Int:=fnat (fun b=>decide (a<b)&&badP s st a b) st.Shelves.length
def YY (s:ApiSite) (st:ApiState):Int×Int×Bool:=
 let a:=fnat (fun a=>decide (0≤Q1N s st a)) st.Shelves.length
 if a<0 then (0,0,false) else (a,Q1N s st a.toNat,true)
end
end Go.Taq
/- The mathematics, part NE: dropping; the rules' statements: bounds, examples. -/
set_option linter.unusedVariables false
set_option linter.unusedSimpArgs false
namespace Go.Taq
open Go
def dHit (st:ApiState) (shelf c:Int) (i:Nat):Bool:=!((i:Int) == shelf)&&!carB st i&&(st.Shelves.getD i 0 == c)
def dAp (s:ApiSite) (st:ApiState) (shelf c:Int) (i:Nat):Bool:=!((i:Int) == shelf)&&!carB st i&&YM s.Floor (st.Shelves.getD i 0) c&&nev s (clsS s shelf) (clsS s i)
def Q1S (s:ApiSite) (st:ApiState) (shelf c:Int):Int:=
 if shelf<0∨shelf≥st.Shelves.length then 4 else if stB s c=false then 13 else if (List.range st.Shelves.length).any (dHit st shelf c)=true then 13 else if (List.range st.Shelves.length).any (dAp s st shelf c)=true then 17 else 0
theorem WC (p:Nat→Bool) (n:Nat):(List.range (n+1)).any p=((List.range n).any p||p n):=by rw [List.range_succ,List.any_append];simp
theorem Z6 {p:Nat→Bool} {n i:Nat} (hi:i<n) (hp:p i=true):(List.range n).any p=true:=List.any_eq_true.2 ⟨i,by simpa using hi,hp⟩
section
variable {s:ApiSite} {st:ApiState}
theorem Q4F {l:List Int} {n:Nat} {x:Int} (h:l[n]?=some x):l.getD n 0=x:=by rw [List.getD_eq_getElem?_getD,h];rfl
theorem Q5s (ks:Qz s) (k:Qh st) (hf:RF s.Floor) (hl:st.Shelves.length≤1000000) {shelf c:Int} {post:Int→Prop} (hp:post (Q1S s st shelf c)):WI s st shelf c post:=by
 unfold WI
 refine Jor2 (Ite.mk (fun h=>?_) (fun h=>Q3a (Ite.mk (fun h2=>?_) (fun h2=>?_))))
 ·unfold Q1S at hp;rw [if_pos (by simp at h;omega)] at hp;exact hp
 ·unfold Q1S at hp;rw [if_neg (by simp at h;omega),if_pos (by simpa using h2)] at hp;exact hp
 ·unfold Q1S at hp;rw [if_neg (by simp at h;omega),if_neg (by simp at h2;simp [h2])] at hp
  refine Jn.mk (fun e=>(List.range st.Shelves.length).any (dHit st shelf c)=false∧e=if (List.range st.Shelves.length).any (dAp s st shelf c)=true then 17 else 0)
   (ZP (xs:=st.Shelves) k.Shelves.1 (fun t:Int×Int=>t.2) (fun n (t:Int×Int)=>(List.range n).any (dHit st shelf c)=false∧t.1=if (List.range n).any (dAp s st shelf c)=true then 17 else 0) rfl ⟨rfl,rfl⟩ (fun n x t hx ht hI=>?_) (fun t h=>h)) (fun e he=>by rw [he.1] at hp;rw [he.2];exact hp)
  have hn:=(List.getElem?_eq_some_iff.1 hx).1
  have hxg:=Q4F hx
  rw [ht]
  refine Jn.mk (fun e=>(List.range (n+1)).any (dHit st shelf c)=false∧e=if (List.range (n+1)).any (dAp s st shelf c)=true then 17 else 0) ⟨x,Qg rfl hx,?_⟩ (fun e he=>⟨rfl,he⟩)
  rw [WC,WC,hI.1,hI.2]
  refine Jn.mk (fun b=>(b=true→dHit st shelf c n=false∧dAp s st shelf c n=false)∧(b=false→((n:Int) == shelf)=false∧carB st n=false∧(x≠c→YM s.Floor x c=true))) ?_ (fun b hb=>Ite.mk (fun h3=>?_) (fun h3=>?_))
  ·refine Ite.mk (fun h3=>⟨fun _=>⟨by unfold dHit;rw [h3];rfl,by unfold dAp;rw [h3];rfl⟩,fun h=>by cases h⟩) (fun h3=>Ite.mk (fun h4=>Q1W hf (Ite.mk (fun h5=>Zo k ⟨fun h6=>?_,fun h6=>?_⟩) (fun h5=>⟨fun _=>⟨?_,?_⟩,fun h=>by cases h⟩))) (fun h4=>Zo k ⟨fun h6=>?_,fun h6=>?_⟩))
   ·have:carB st n=true:=by unfold carB;simpa using h6
    exact⟨by unfold dHit;rw [this];simp,by unfold dAp;rw [this];simp⟩
   ·have:carB st n=false:=by unfold carB;simpa using h6
    exact⟨h3,this,fun _=>h5⟩
   ·unfold dHit;rw [hxg];simp at h4;simp [h4]
   ·unfold dAp;rw [hxg,h5];simp
   ·have:carB st n=true:=by unfold carB;simpa using h6
    exact⟨by unfold dHit;rw [this];simp,by unfold dAp;rw [this];simp⟩
   ·have:carB st n=false:=by unfold carB;simpa using h6
    exact⟨h3,this,fun h=>absurd (by simpa using h4) h⟩
  ·rw [(hb.1 h3).1,(hb.1 h3).2];exact⟨by simp,by simp⟩
  ·obtain⟨g1,g2,g3⟩:=hb.2 h3
   refine Ite.mk (fun h4=>?_) (fun h4=>Za (Za (Q4v ks ?_)))
   ·have:dHit st shelf c n=true:=by unfold dHit;rw [g1,g2,hxg,h4];rfl
    rw [Z6 hn this] at hp;exact hp
   ·have e1:dHit st shelf c n=false:=by unfold dHit;rw [hxg,h4];simp
    have e2:dAp s st shelf c n=nev s (clsS s shelf) (clsS s n):=by unfold dAp;rw [g1,g2,hxg,g3 (by simpa using h4)];rfl
    rw [e1,e2]
    refine Jn.mk (fun e=>e=if ((List.range n).any (dAp s st shelf c)||nev s (clsS s shelf) (clsS s n))=true then 17 else 0) (Ite.mk (fun h5=>by rw [h5];simp) (fun h5=>by rw [h5];simp)) (fun e he=>⟨by simp,he⟩)
end
structure FitS (s:ApiSite) (st:ApiState):Prop where
 r:ZH s
 few:FewS s 60 20
 rob:st.Robots.length≤20
 len:st.Shelves.length=s.Shelves.length
 cell:∀c,c∈st.Shelves→isC s.Floor c=true
theorem FitS.sl {s:ApiSite} {st:ApiState} (h:FitS s st):st.Shelves.length≤20:=by have:=h.few.shelves;have:=h.len;omega
/-! ## the examples -/
theorem Q2b {α:Type} {X:α→Prop} {xs:List α} (h1:xs.length≤1000) (h2:∀x,x∈xs→X x):OkL X xs:=⟨Nat.le_trans h1 (by decide),h2⟩
theorem GT {x:Int} (h:-1000000≤x∧x≤1000000):I64 x:=by constructor <;> omega
end Go.Taq
/- The mathematics, part NF: the rules' statements: examples, RulesApart. -/
set_option linter.unusedVariables false
set_option linter.unusedSimpArgs false
namespace Go.Taq
open Go
theorem Q82 {s:ApiSite} (a b:ByteArray):nev s a b=nev s b a:=by
 unfold nev apB
 have e:∀x:ApiApart,((seq x.A a&&seq x.B b)||(seq x.A b&&seq x.B a))=((seq x.A b&&seq x.B a)||(seq x.A a&&seq x.B b)):=fun x=>Bool.or_comm _ _
 simp only [e]
 rw [Bool.and_comm (!nosh a)]
theorem Q5i {s:ApiSite} {st:ApiState}:(YY s st).2.2=decide (0≤fnat (fun a=>decide (0≤Q1N s st a)) st.Shelves.length):=by
 unfold YY
 simp only
 split <;> rename_i h <;> simp <;> omega
end Go.Taq
