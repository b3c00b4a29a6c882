/- The mathematics, several parts in one text. -/
import Derived.Test.YtdcfcldpjfepiaaGreatNB
/- The mathematics, part NC: what may stand where (rules): cells, classes, who is carried, what stands at a cell, rooms. -/
set_option linter.unusedVariables false
set_option linter.unusedSimpArgs false
namespace Go.Taq
open Go
def stB (s:ApiSite) (c:Int):Bool:=isC s.Floor c&&Q1m (kd s.Floor c)
def clsS (s:ApiSite) (i:Int):ByteArray:=if 0≤i∧i<s.Shelves.length then (s.Shelves.getD i.toNat default).Class else ByteArray.empty
def nev (s:ApiSite) (a b:ByteArray):Bool:=apB s.Aparts a b
def carr (st:ApiState) (i:Int):Int:=if i<0 then -1 else fidx (fun r:Q0=>r.Load == i) st.Robots
def carB (st:ApiState) (i:Int):Bool:=decide (0≤carr st i)
theorem Q3o {st:ApiState} {i:Int} (h:0≤i):carB st i=st.Robots.any fun r=>r.Load == i:=by
 unfold carB carr
 rw [if_neg (by omega)]
 have:=Q0p (p:=fun r:Q0=>r.Load == i) (xs:=st.Robots)
 rw [←this]
def optI (x:Int):Option Int:=if 0≤x then some x else none
def atP (st:ApiState) (c:Int) (i:Nat):Bool:=(st.Shelves.getD i 0 == c)&&!carB st i
def atS (st:ApiState) (c:Int):Int:=fnat (atP st c) st.Shelves.length
theorem Q0A {p:Nat→Bool} {a n:Nat} (h:a<n):fnat (fun i=>decide (a≤i)&&p i) n=if p a=true then (a:Int) else fnat (fun i=>decide (a+1≤i)&&p i) n:=by
 by_cases hp:p a=true
 ·rw [if_pos hp]
  exact Q45 h (by simp [hp]) (fun j hj=>by simp;intro h';omega)
 ·rw [if_neg hp]
  have:(fun i=>decide (a≤i)&&p i)=fun i=>decide (a+1≤i)&&p i:=by
   funext i
   by_cases e:i=a
   ·subst e;simp [hp]
   ·have:(a≤i)=(a+1≤i):=by simp;omega
    simp only [this]
  rw [this]
theorem Q3Z (p:Nat→Bool) (n:Nat):fnat (fun i=>decide (0≤i)&&p i) n=fnat p n:=by simp
theorem Q51 (p:Nat→Bool) (n:Nat):fnat (fun i=>decide (n≤i)&&p i) n=-1:=Q27 fun i hi=>by simp;intro;omega
section
variable {s:ApiSite} {st:ApiState}
theorem Q2y {c:Int} {post:Bool→Prop} (hp:post (stB s c)):Gz s c post:=by
 unfold Gz KT
 refine Jn.mk (fun b=>b=stB s c) (YS (Ite.mk (fun h=>?_) (fun h=>?_))) (fun b hb=>by rw [hb];exact hp)
 ·have hc:isC s.Floor c=true:=h
  refine⟨_,GN hc,?_⟩
  unfold stB Q1m;rw [hc]
  refine Ite.mk (fun h'=>by simp [h']) (fun h'=>by simp [h'])
 ·have hc:isC s.Floor c=false:=h
  unfold stB;rw [hc];rfl
theorem YP {i:Int} {post:ByteArray→Prop} (hp:post (clsS s i)):XN s i post:=by
 unfold XN
 refine Jor2 (Ite.mk (fun h=>?_) (fun h=>?_))
 ·unfold clsS at hp;rw [if_neg (by simp at h;omega)] at hp;exact hp
 ·have h':0≤i∧i<s.Shelves.length:=by simp at h;omega
  unfold clsS at hp;rw [if_pos h'] at hp
  refine⟨s.Shelves.getD i.toNat default,?_,hp⟩
  rw [Yu h'.1 h'.2,List.getD_eq_getElem?_getD,List.getElem?_eq_getElem (by omega)];rfl
theorem Q1R (k:OkApiSite s) {post:List (Q8×Bool)→Prop} (hp:∀m:List (Q8×Bool),(∀a b,(lk m ⟨a,b⟩).getD false=s.Aparts.any fun x=>(seq x.A a&&seq x.B b)||(seq x.A b&&seq x.B a))→post m):Ge s post:=by
 unfold Ge
 refine Jn.mk (fun m=>∀a b,(lk m ⟨a,b⟩).getD false=s.Aparts.any fun x=>(seq x.A a&&seq x.B b)||(seq x.A b&&seq x.B a))
  (Kh k.Aparts.1 (fun t:List (Q8×Bool)×Int=>t.2) (fun n (t:List (Q8×Bool)×Int)=>∀a b,(lk t.1 ⟨a,b⟩).getD false=(s.Aparts.take n).any fun x=>(seq x.A a&&seq x.B b)||(seq x.A b&&seq x.B a)) rfl (fun a b=>rfl) (fun n x t hx ht hI=>⟨by rw [ht],fun a b=>?_⟩) (fun t h=>by rwa [List.take_length] at h)) (fun m h=>hp m h)
 rw [QI hx,List.any_append,WV,WV]
 by_cases e1:(⟨x.B,x.A⟩:Q8)=⟨a,b⟩
 ·rw [if_pos e1]
  simp only [Q8.mk.injEq] at e1
  simp [e1.1,e1.2,Q1q.2]
 ·rw [if_neg e1]
  by_cases e2:x=⟨a,b⟩
  ·rw [if_pos e2];subst e2;simp [Q1q.2]
  ·rw [if_neg e2,hI]
   have h1:(seq x.A a&&seq x.B b)=false:=by
    rw [Bool.eq_false_iff];intro h;simp only [Bool.and_eq_true,Q1q] at h;exact e2 (by cases x;simp at h;simp [h])
   have h2:(seq x.A b&&seq x.B a)=false:=by
    rw [Bool.eq_false_iff];intro h;simp only [Bool.and_eq_true,Q1q] at h;exact e1 (by rw [h.1,h.2])
   simp [h1,h2]
theorem Q7U {m:List (Q8×Bool)} (hm:∀a b,(lk m ⟨a,b⟩).getD false=s.Aparts.any fun x=>(seq x.A a&&seq x.B b)||(seq x.A b&&seq x.B a)) {a b:ByteArray} (ha:nosh a=false) (hb:nosh b=false):(lk m ⟨a,b⟩).getD false=nev s a b:=by
 rw [hm];unfold nev apB;rw [ha,hb];rfl
theorem Q3t (k:OkApiSite s) {a b:ByteArray} {post:Bool→Prop} (hp:post (nev s a b)):GW s a b post:=by
 unfold GW
 refine Jn.mk (fun r=>r=nev s a b) (Ite.mk (fun h=>?_) (fun h=>Ite.mk (fun h'=>?_) (fun h'=>Q1R k (fun m hm=>Q7U hm h h')))) (fun r hr=>by rw [hr];exact hp)
 ·have:nosh a=true:=h
  unfold nev apB;rw [this];rfl
 ·have:nosh b=true:=h'
  unfold nev apB;rw [this];simp
theorem Z9 (k:OkApiState st) {i:Int} {post:Int→Prop} (hp:post (carr st i)):XH st i post:=by
 unfold XH
 refine Ite.mk (fun h=>?_) (fun h=>?_)
 ·unfold carr at hp;rw [if_pos (by simpa using h)] at hp;exact hp
 ·unfold carr at hp;rw [if_neg (by simpa using h)] at hp
  unfold Ql
  refine Q11 k.Robots.1 (fun r:Q0=>r.Load == i) (T:=fun r post=>XE r i post) (fun r _ q hq=>?_) hp
  unfold XE;exact hq
theorem Q1D (k:OkApiState st) (hl:st.Shelves.length≤1000000) {post:List (Int×Int)→Prop} (hp:∀m:List (Int×Int),(∀c,lk m c=optI (atS st c))→post m):XP st post:=by
 unfold XP
 refine Jn.mk (fun m=>∀i:Int,(lk m i).getD false=st.Robots.any fun r=>r.Load == i)
  (Kh k.Robots.1 (fun t:List (Int×Bool)×Int=>t.2) (fun n (t:List (Int×Bool)×Int)=>∀i:Int,(lk t.1 i).getD false=(st.Robots.take n).any fun r=>r.Load == i) rfl (fun i=>rfl) (fun n r t hr ht hI=>⟨by rw [ht],fun i=>?_⟩) (fun t h=>by rwa [List.take_length] at h)) (fun cm hcm=>?_)
 ·rw [QI hr,List.any_append,WV]
  by_cases e:r.Load=i
  ·rw [if_pos e];simp [e]
  ·rw [if_neg e,hI];simp [e]
 unfold Kt
 refine⟨by omega,Each.inv (bkw st.Shelves) (fun j m=>∀c,lk m c=optI (fnat (fun i=>decide (st.Shelves.length-j≤i)&&atP st c i) st.Shelves.length)) (fun c=>?_) (fun j x m hx hI Y hY=>?_) (fun m h=>hp m (fun c=>?_))⟩
 ·rw [Nat.sub_zero,Q51];rfl
 ·have hj:j<st.Shelves.length:=by have:=(List.getElem?_eq_some_iff.1 hx).1;rwa [Q4i] at this
  have hg:=Q64 (xs:=st.Shelves) (m:=st.Shelves.length-(j+1)) (by omega)
  rw [show st.Shelves.length-(st.Shelves.length-(j+1)+1)=j by omega,hx] at hg
  cases hg
  have e1:st.Shelves.length-j=st.Shelves.length-(j+1)+1:=by omega
  have hcar:(lk cm ((st.Shelves.length-(j+1):Nat):Int)).getD false=carB st ((st.Shelves.length-(j+1):Nat):Int):=by rw [hcm,Q3o (by omega)]
  refine Jn.mk' ?_
  dsimp only
  rw [hcar]
  refine Ite.mk (fun h=>hY _ (fun c=>?_)) (fun h=>hY _ (fun c=>?_))
  ·rw [WV,Q0A (by omega)]
   by_cases e:st.Shelves.getD (st.Shelves.length-(j+1)) 0=c
   ·rw [if_pos e,if_pos (by unfold atP;simp only [Bool.and_eq_true,beq_iff_eq];exact⟨e,h⟩)]
    unfold optI;rw [if_pos (by omega)]
   ·rw [if_neg e,if_neg (by unfold atP;simp only [Bool.and_eq_true,beq_iff_eq];exact fun h=>e h.1),hI,e1]
  ·rw [Q0A (by omega),if_neg (by unfold atP;simp only [Bool.and_eq_true];exact fun h'=>by rw [h] at h';cases h'.2),hI,e1]
 ·rw [h c,Q4i,Nat.sub_self];unfold atS;rw [Q3Z]
theorem Q6E (st:ApiState) (c:Int):-1≤atS st c∧atS st c<st.Shelves.length:=by
 rcases Q5j (atP st c) st.Shelves.length with ⟨i,h1,h2,_⟩ | ⟨h,_⟩ <;> unfold atS <;> omega
theorem Q4v (x:Int):(optI x).isSome=decide (0≤x):=by
 unfold optI;by_cases h:0≤x <;> simp [h]
theorem Q2O (k:OkApiState st) (hl:st.Shelves.length≤1000000) {c:Int} {post:Int→Prop} (hp:post (atS st c)):WP s st c post:=by
 unfold WP
 refine Q1D k hl (fun m hm=>?_)
 have:=Q6E st c
 rw [hm,Q4v]
 refine Ite.mk (fun h=>?_) (fun h=>?_)
 ·simp at h;unfold optI;rw [if_pos h];exact hp
 ·simp at h;rw [show (-1:Int)=atS st c by omega];exact hp
end
end Go.Taq
/- The mathematics, part ND: what is near, which shelves disturb each other, dropping (rules). -/
set_option linter.unusedVariables false
set_option linter.unusedSimpArgs false
namespace Go.Taq
open Go
def Q1A (f:ApiFloor) (a b:Int):Bool:=isC f b&&([0,1,2,3]:List Int).any fun d=>nbr f a d == b
theorem Q3N {f:ApiFloor} (h:RF f) {a b:Int} {post:Bool→Prop} (hp:post (Q1A f a b)):Wr f a b post:=by
 unfold Wr
 refine Q1e h (Ite.mk (fun hb=>?_) (fun hb=>?_))
 ·simp only [Bool.not_eq_true'] at hb
  unfold Q1A at hp;rw [hb] at hp;exact hp
 ·simp only [Bool.not_eq_false'] at hb
  unfold Q1A at hp;rw [hb] at hp
  exact Q6I (xs:=[0,1,2,3]) (by simp [maxLen]) (fun d=>nbr f a d == b) (T:=fun x q=>Xo f a x (fun r=>q (r == b))) (fun x _ q hq=>ZV h hq) hp
theorem Q3I {f:ApiFloor} (h:RF f) {a b:Int} {post:Bool→Prop} (hp:post (Q1A f a b)):Xc f a b post:=by
 unfold Xc
 refine Jn.mk (fun _=>Q1A f a b=false) (Q24 4 (fun t=>t) (fun n _=>∀d:Int,0≤d→d<n→(isC f b&&nbr f a d == b)=false) (by simp [maxLen]) rfl (fun d h0 h1=>by omega) (fun n t hn ht hI=>?_) (fun t hI=>?_)) (fun _ hb=>by rw [hb] at hp;exact hp)
 ·refine Jn.mk (fun r=>r=(isC f b&&nbr f a n == b)) (XY h (Ite.mk (fun hb=>by rw [ht];exact ZU h (by rw [hb];simp)) (fun hb=>by rw [hb];simp))) (fun r hr=>Ite.mk (fun h1=>?_) (fun h1=>⟨by rw [ht],fun d h0 hd=>?_⟩))
  ·rw [hr,Bool.and_eq_true] at h1
   have:Q1A f a b=true:=by
    unfold Q1A
    rw [h1.1,Bool.true_and,List.any_eq_true]
    refine⟨(n:Int),?_,h1.2⟩
    have:n=0∨n=1∨n=2∨n=3:=by omega
    rcases this with rfl | rfl | rfl | rfl <;> simp
   rw [this] at hp;exact hp
  ·by_cases e:d=n
   ·subst e;rw [←hr];exact h1
   ·exact hI d h0 (by omega)
 ·unfold Q1A
  cases hb:isC f b with
  | false=>rfl
  | true=>
   rw [Bool.true_and,List.any_eq_false]
   intro d hd
   have:=hI d (by simp at hd;omega) (by simp at hd;omega)
   rw [hb] at this;simpa using this
section
end
end Go.Taq
/- The mathematics, part NE: dropping; the rules' statements: bounds, examples. -/
set_option linter.unusedVariables false
set_option linter.unusedSimpArgs false
namespace Go.Taq
open Go
def dHit (st:ApiState) (shelf c:Int) (i:Nat):Bool:=!((i:Int) == shelf)&&!carB st i&&(st.Shelves.getD i 0 == c)
def dAp (s:ApiSite) (st:ApiState) (shelf c:Int) (i:Nat):Bool:=!((i:Int) == shelf)&&!carB st i&&Q1A s.Floor (st.Shelves.getD i 0) c&&nev s (clsS s shelf) (clsS s i)
def Q3s (s:ApiSite) (st:ApiState) (shelf c:Int):Int:=
 if shelf<0∨shelf≥st.Shelves.length then 4 else if stB s c=false then 13 else if (List.range st.Shelves.length).any (dHit st shelf c)=true then 13 else if (List.range st.Shelves.length).any (dAp s st shelf c)=true then 17 else 0
theorem Wo (p:Nat→Bool) (n:Nat):(List.range (n+1)).any p=((List.range n).any p||p n):=by rw [List.range_succ,List.any_append];simp
theorem Q0E {p:Nat→Bool} {n i:Nat} (hi:i<n) (hp:p i=true):(List.range n).any p=true:=List.any_eq_true.2 ⟨i,by simpa using hi,hp⟩
section
variable {s:ApiSite} {st:ApiState}
theorem Q37 {l:List Int} {n:Nat} {x:Int} (h:l[n]?=some x):l.getD n 0=x:=by rw [List.getD_eq_getElem?_getD,h];rfl
theorem Q3W (ks:OkApiSite s) (k:OkApiState st) (hf:RF s.Floor) (hl:st.Shelves.length≤1000000) {shelf c:Int} {post:Int→Prop} (hp:post (Q3s s st shelf c)):Wt s st shelf c post:=by
 unfold Wt
 refine Jor2 (Ite.mk (fun h=>?_) (fun h=>Q2y (Ite.mk (fun h2=>?_) (fun h2=>?_))))
 ·unfold Q3s at hp;rw [if_pos (by simp at h;omega)] at hp;exact hp
 ·unfold Q3s at hp;rw [if_neg (by simp at h;omega),if_pos (by simpa using h2)] at hp;exact hp
 ·unfold Q3s at hp;rw [if_neg (by simp at h;omega),if_neg (by simp at h2;simp [h2])] at hp
  refine Jn.mk (fun e=>(List.range st.Shelves.length).any (dHit st shelf c)=false∧e=if (List.range st.Shelves.length).any (dAp s st shelf c)=true then 17 else 0)
   (Wh (xs:=st.Shelves) k.Shelves.1 (fun t:Int×Int=>t.2) (fun n (t:Int×Int)=>(List.range n).any (dHit st shelf c)=false∧t.1=if (List.range n).any (dAp s st shelf c)=true then 17 else 0) rfl ⟨rfl,rfl⟩ (fun n x t hx ht hI=>?_) (fun t h=>h)) (fun e he=>by rw [he.1] at hp;rw [he.2];exact hp)
  have hn:=(List.getElem?_eq_some_iff.1 hx).1
  have hxg:=Q37 hx
  rw [ht]
  refine Jn.mk (fun e=>(List.range (n+1)).any (dHit st shelf c)=false∧e=if (List.range (n+1)).any (dAp s st shelf c)=true then 17 else 0) ⟨x,Qq rfl hx,?_⟩ (fun e he=>⟨rfl,he⟩)
  rw [Wo,Wo,hI.1,hI.2]
  refine Jn.mk (fun b=>(b=true→dHit st shelf c n=false∧dAp s st shelf c n=false)∧(b=false→((n:Int) == shelf)=false∧carB st n=false∧(x≠c→Q1A s.Floor x c=true))) ?_ (fun b hb=>Ite.mk (fun h3=>?_) (fun h3=>?_))
  ·refine Ite.mk (fun h3=>⟨fun _=>⟨by unfold dHit;rw [h3];rfl,by unfold dAp;rw [h3];rfl⟩,fun h=>by cases h⟩) (fun h3=>Ite.mk (fun h4=>Q3N hf (Ite.mk (fun h5=>Z9 k ⟨fun h6=>?_,fun h6=>?_⟩) (fun h5=>⟨fun _=>⟨?_,?_⟩,fun h=>by cases h⟩))) (fun h4=>Z9 k ⟨fun h6=>?_,fun h6=>?_⟩))
   ·have:carB st n=true:=by unfold carB;simpa using h6
    exact⟨by unfold dHit;rw [this];simp,by unfold dAp;rw [this];simp⟩
   ·have:carB st n=false:=by unfold carB;simpa using h6
    exact⟨h3,this,fun _=>h5⟩
   ·unfold dHit;rw [hxg];simp at h4;simp [h4]
   ·unfold dAp;rw [hxg,h5];simp
   ·have:carB st n=true:=by unfold carB;simpa using h6
    exact⟨by unfold dHit;rw [this];simp,by unfold dAp;rw [this];simp⟩
   ·have:carB st n=false:=by unfold carB;simpa using h6
    exact⟨h3,this,fun h=>absurd (by simpa using h4) h⟩
  ·rw [(hb.1 h3).1,(hb.1 h3).2];exact⟨by simp,by simp⟩
  ·obtain⟨g1,g2,g3⟩:=hb.2 h3
   refine Ite.mk (fun h4=>?_) (fun h4=>YP (YP (Q3t ks ?_)))
   ·have:dHit st shelf c n=true:=by unfold dHit;rw [g1,g2,hxg,h4];rfl
    rw [Q0E hn this] at hp;exact hp
   ·have e1:dHit st shelf c n=false:=by unfold dHit;rw [hxg,h4];simp
    have e2:dAp s st shelf c n=nev s (clsS s shelf) (clsS s n):=by unfold dAp;rw [g1,g2,hxg,g3 (by simpa using h4)];rfl
    rw [e1,e2]
    refine Jn.mk (fun e=>e=if ((List.range n).any (dAp s st shelf c)||nev s (clsS s shelf) (clsS s n))=true then 17 else 0) (Ite.mk (fun h5=>by rw [h5];simp) (fun h5=>by rw [h5];simp)) (fun e he=>⟨by simp,he⟩)
end
structure FitS (s:ApiSite) (st:ApiState):Prop where
 r:Ws s
 few:FewS s 60 20
 rob:st.Robots.length≤20
 len:st.Shelves.length=s.Shelves.length
 cell:∀c,c∈st.Shelves→isC s.Floor c=true
theorem FitS.sl {s:ApiSite} {st:ApiState} (h:FitS s st):st.Shelves.length≤20:=by have:=h.few.shelves;have:=h.len;omega
/-! ## the examples -/
theorem Q5r {α:Type} {X:α→Prop} {xs:List α} (h1:xs.length≤1000) (h2:∀x,x∈xs→X x):OkL X xs:=⟨Nat.le_trans h1 (by decide),h2⟩
theorem Q0F {x:Int} (h:-1000000≤x∧x≤1000000):I64 x:=by constructor <;> omega
end Go.Taq
/- The mathematics, part NF: the rules' statements: examples, RulesApart. -/
set_option linter.unusedVariables false
set_option linter.unusedSimpArgs false
namespace Go.Taq
open Go
end Go.Taq
