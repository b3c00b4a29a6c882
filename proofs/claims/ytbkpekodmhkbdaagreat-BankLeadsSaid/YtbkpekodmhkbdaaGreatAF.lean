/- The mathematics, several parts in one text. -/
import Derived.Test.YtbkpekodmhkbdaaGreatAB
/- The mathematics, part AC: what a fault does (arena.Happen and its reference). -/
set_option linter.unusedVariables false
set_option linter.unusedSimpArgs false
namespace Go.Taq
open Go
def setR (st:ApiState) (i:Int) (r:ApiRobot):ApiState:={st with Robots:=st.Robots.set i.toNat r}
def rAt (st:ApiState) (i:Int):ApiRobot:=st.Robots.getD i.toNat default
def Wa (s:ApiSite) (st:ApiState) (f:QV):ApiState:=
 if Xh s st f=false then st
 else if f.Kind=1 then setR st f.A {rAt st f.A with Dead:=true}
 else if f.Kind=2 then {st with Dead:=srtI (st.Dead++[f.A])}
 else if f.Kind=3 then setR st f.A {rAt st f.A with Mute:=f.N}
 else if f.Kind=4 then {st with Stuck:=Xf f.A f.N st.Stuck}
 else if f.Kind=5 then {st with People:=if f.A=st.People.length then st.People++[f.N] else st.People.set f.A.toNat f.N}
 else st
theorem Q90 {α:Type} {l:List α} {g:α→Int} (h:∀(i:Nat) x y,l[i]?=some x→l[i+1]?=some y→g x<g y):∀(i j:Nat) x y,i<j→l[i]?=some x→l[j]?=some y→g x<g y:=by
 intro i j
 induction j with
 | zero=>intro x y h0;omega
 | succ j ih=>
  intro x y hij hx hy
  by_cases e:i=j
  ·subst e;exact h i x y hx hy
  ·have hjl:=(List.getElem?_eq_some_iff.1 hy).1
   have hz:=List.getElem?_eq_getElem (show j<l.length by omega)
   have h1:=ih x _ (by omega) hx hz
   have h2:=h j _ y hz hy
   omega
section
variable {s:ApiSite} {st:ApiState}
theorem Q41 {f:QV} (h:Xh s st f=false):Wa s st f=st:=by unfold Wa;rw [if_pos h]
theorem Q5O {f:QV} (h:f.Kind=0):Wa s st f=st:=by unfold Wa;rw [if_neg (by rw [Q5P h];simp),if_neg (by omega),if_neg (by omega),if_neg (by omega),if_neg (by omega),if_neg (by omega)]
theorem Q6q {f:QV} (hb:Xh s st f=true) (h:f.Kind=1):Wa s st f=setR st f.A {rAt st f.A with Dead:=true}:=by unfold Wa;rw [if_neg (by rw [hb];simp),if_pos h]
theorem Q65 {f:QV} (hb:Xh s st f=true) (h:f.Kind=2):Wa s st f={st with Dead:=srtI (st.Dead++[f.A])}:=by unfold Wa;rw [if_neg (by rw [hb];simp),if_neg (by omega),if_pos h]
theorem Q6m {f:QV} (hb:Xh s st f=true) (h:f.Kind=3):Wa s st f=setR st f.A {rAt st f.A with Mute:=f.N}:=by unfold Wa;rw [if_neg (by rw [hb];simp),if_neg (by omega),if_neg (by omega),if_pos h]
theorem Q67 {f:QV} (hb:Xh s st f=true) (h:f.Kind=4):Wa s st f={st with Stuck:=Xf f.A f.N st.Stuck}:=by unfold Wa;rw [if_neg (by rw [hb];simp),if_neg (by omega),if_neg (by omega),if_neg (by omega),if_pos h]
theorem Q4x {f:QV} (hb:Xh s st f=true) (h:f.Kind=5):Wa s st f={st with People:=if f.A=st.People.length then st.People++[f.N] else st.People.set f.A.toNat f.N}:=by unfold Wa;rw [if_neg (by rw [hb];simp),if_neg (by omega),if_neg (by omega),if_neg (by omega),if_neg (by omega),if_pos h]
theorem WD {i:Int} (h:Kj st i=true):∃(n:Nat) (r:ApiRobot),i=n∧st.Robots[n]?=some r∧r.Dead=false∧rAt st i=r:=by
 unfold Kj at h
 simp only [Bool.and_eq_true,decide_eq_true_eq] at h
 obtain⟨⟨h1,h2⟩,h3⟩:=h
 obtain⟨n,hn⟩:=Int.eq_ofNat_of_zero_le h1
 have hx:=List.getElem?_eq_getElem (show n<st.Robots.length by omega)
 rw [Q0u hn hx] at h3
 exact⟨n,_,hn,hx,by simpa using h3,Q0u hn hx⟩
theorem Q6u {a c:Int} (h:Q3R s st a c=true):a=st.People.length∨∃n:Nat,a=n∧n<st.People.length:=by
 unfold Q3R at h
 simp only [Bool.and_eq_true] at h
 by_cases e:a=st.People.length
 ·exact .inl e
 ·rw [if_neg e] at h
  simp only [Bool.and_eq_true,decide_eq_true_eq] at h
  obtain⟨n,hn⟩:=Int.eq_ofNat_of_zero_le h.2.1.1
  exact .inr ⟨n,hn,by omega⟩
theorem ZW {f:QV}:Q3v s st f=0↔Xh s st f=true:=by
 unfold Q3v;cases Xh s st f <;> simp
def st4 (st:ApiState) (t:List ApiRobot×List Int×List Int×List ApiStuck):ApiState:={st with Robots:=t.1,People:=t.2.1,Dead:=t.2.2.1,Stuck:=t.2.2.2}
theorem Q1O (hf:RF s.Floor) (hz:Sz st) {f:QV} {post:ApiState→Prop} (hp:post (Wa s st f)):Gg s st f post:=by
 unfold Gg
 refine YI hz (Yx hf hz (Ite.mk (fun h=>?_) (fun h=>?_)))
 ·have:Xh s st f=false:=by
   have h1:Q3v s st f≠0:=by simpa using h
   cases e:Xh s st f with
   | false=>rfl
   | true=>exact absurd (ZW.2 e) h1
  rw [Q41 this] at hp;exact hp
 have hb:Xh s st f=true:=ZW.1 (by simpa using h)
 have q3:=hz.pp;have q4:=hz.dd;have q5:=hz.sk
 refine Jn.mk (fun t=>st4 st t=Wa s st f) ?_ (fun t ht=>by rw [←ht] at hp;exact hp)
 refine Ite.mk (fun h1=>?_) (fun h1=>Jn.mk' (Ite.mk (fun h2=>?_) (fun h2=>Jn.mk' (Ite.mk (fun h3=>?_) (fun h3=>Jn.mk' (Ite.mk (fun h4=>?_) (fun h4=>Jn.mk' (Ite.mk (fun h5=>?_) (fun h5=>?_)))))))))
 ·have e:f.Kind=1:=by simpa using h1
  have hl:=hb;rw [Q4e e] at hl
  obtain⟨n,r,hn,hx,_,hr⟩:=WD hl
  refine⟨r,Qn hn hx,?_⟩
  rw [Q6q hb e,hr];rfl
 ·have e:f.Kind=2:=by simpa using h2
  unfold Qg
  refine⟨by simp;omega,by simp;omega,?_⟩
  show st4 st _=_
  rw [Q65 hb e];rfl
 ·have e:f.Kind=3:=by simpa using h3
  have hl:=hb;rw [Q4l e,Bool.and_eq_true] at hl
  obtain⟨n,r,hn,hx,_,hr⟩:=WD hl.1
  refine⟨r,Qn hn hx,?_⟩
  show st4 st _=_
  rw [Q6m hb e,hr];rfl
 ·have e:f.Kind=4:=by simpa using h4
  refine Q2K q5 ?_
  show st4 st _=_
  rw [Q67 hb e];rfl
 ·have e:f.Kind=5:=by simpa using h5
  have hl:=hb;rw [Q44 e] at hl
  refine Jn.mk (fun l=>l=if f.A=st.People.length then st.People++[f.N] else st.People) (Ite.mk (fun h6=>⟨by simp;omega,by rw [if_pos (by simpa using h6)]⟩) (fun h6=>by rw [if_neg (by simpa using h6)])) (fun l hl2=>?_)
  rcases Q6u hl with hA | ⟨n,hA,hn⟩
  ·rw [if_pos hA] at hl2
   refine⟨f.N,?_,?_⟩
   ·rw [hl2];exact Qn hA (by simp)
   ·show st4 st _=_
    rw [Q4x hb e,if_pos hA,hl2,hA]
    show st4 st (st.Robots,(st.People++[f.N]).set st.People.length f.N,st.Dead,st.Stuck)=_
    rw [Q84];rfl
  ·rw [if_neg (by omega)] at hl2
   subst hl2
   refine⟨_,Qn hA (List.getElem?_eq_getElem hn),?_⟩
   show st4 st _=_
   rw [Q4x hb e,if_neg (by omega)];rfl
 ·show st4 st _=_
  by_cases e:f.Kind=0
  ·rw [Q5O e];rfl
  ·have:=Q35 (s:=s) (st:=st) e (by simpa using h1) (by simpa using h2) (by simpa using h3) (by simpa using h4) (by simpa using h5)
   rw [this] at hb;cases hb
end
end Go.Taq
/- The mathematics, part AD: what happens, and what robots do, leaves a state right. -/
set_option linter.unusedVariables false
set_option linter.unusedSimpArgs false
namespace Go.Taq
open Go
def CL (r:ApiRobot):Int×Int:=(r.Cell,r.Load)
theorem Q7b {α β:Type} (p:β→Bool) (g:α→β) (xs:List α):fidx p (xs.map g)=fidx (fun x=>p (g x)) xs:=by
 unfold fidx;rw [List.findIdx?_map];rfl
section
variable {s:ApiSite} {st st':ApiState}
theorem Q7j (hcl:st'.Robots.map CL=st.Robots.map CL) {i:Nat} {r':ApiRobot} (h:st'.Robots[i]?=some r'):∃r,st.Robots[i]?=some r∧r'.Cell=r.Cell∧r'.Load=r.Load:=by
 have h1:(st'.Robots.map CL)[i]?=some (CL r'):=by rw [List.getElem?_map,h];rfl
 rw [hcl,List.getElem?_map] at h1
 cases e:st.Robots[i]? with
 | none=>rw [e] at h1;cases h1
 | some r=>
  rw [e] at h1
  have:=Option.some.inj h1
  unfold CL at this
  injection this with a b
  exact⟨r,rfl,a.symm,b.symm⟩
theorem Q6n (hcl:st'.Robots.map CL=st.Robots.map CL):st'.Robots.length=st.Robots.length:=by
 have:=congrArg List.length hcl;simpa using this
theorem Q6t (hcl:st'.Robots.map CL=st.Robots.map CL) (a:Int):carr st' a=carr st a:=by
 have h1:∀t:ApiState,fidx (fun z:ApiRobot=>z.Load == a) t.Robots=fidx (fun q:Int×Int=>q.2 == a) (t.Robots.map CL):=fun t=>by rw [Q7b];rfl
 unfold carr;rw [h1,h1,hcl]
theorem Q5Q (hcl:st'.Robots.map CL=st.Robots.map CL) (i:Nat):carB st' i=carB st i:=by unfold carB;rw [Q6t hcl]
theorem Q8N (hcl:st'.Robots.map CL=st.Robots.map CL) (i:Nat):slR (st'.Robots.getD i default)=slR (st.Robots.getD i default):=by
 have hl:=Q6n hcl
 cases e:st'.Robots[i]? with
 | none=>
  have:st.Robots[i]?=none:=by rw [List.getElem?_eq_none_iff] at e ⊢;omega
  rw [List.getD_eq_getElem?_getD,List.getD_eq_getElem?_getD,e,this]
 | some r'=>
  obtain⟨r,hr,h1,h2⟩:=Q7j hcl e
  rw [Xr e,Xr hr];unfold slR;rw [h1,h2]
theorem Q6j (hcl:st'.Robots.map CL=st.Robots.map CL) (hsh:st'.Shelves=st.Shelves) (hpp:st'.People=st.People):allS st'=allS st:=by
 unfold allS
 rw [Q6n hcl,hsh,hpp]
 congr 1
 congr 1
 ·exact Q01 fun j _=>Q8N hcl j
 ·exact Q01 fun j _=>by unfold slS;rw [Q5Q hcl,hsh]
theorem Z7 (h:RSt s st) (hcl:st'.Robots.map CL=st.Robots.map CL) (hsh:st'.Shelves=st.Shelves) (hpp:st'.People=st.People) (ht:0≤st'.Tick∧st'.Tick≤20000)
  (hr:∀(i:Nat) r,st'.Robots[i]?=some r→(0≤r.Charge∧r.Charge≤1000000)∧(0≤r.Rest∧r.Rest≤20000)∧(0≤r.Mute∧r.Mute≤20000))
  (hd:∀(i:Nat) c,st'.Dead[i]?=some c→isC s.Floor c=true) (hdA:∀(i:Nat) x y,st'.Dead[i]?=some x→st'.Dead[i+1]?=some y→x<y)
  (hk:∀(i:Nat) x,st'.Stuck[i]?=some x→kx s.Floor x.Cell=6∧1≤x.Left∧x.Left≤20000) (hkA:∀(i:Nat) x y,st'.Stuck[i]?=some x→st'.Stuck[i+1]?=some y→x.Cell<y.Cell):RSt s st' where
 tick:=ht
 sl:=by rw [hsh];exact h.sl
 rl:=by rw [Q6n hcl];exact h.rl
 pl:=by rw [hpp];exact h.pl
 rob:=fun i r' hi=>by
  obtain⟨r,hr2,h1,h2⟩:=Q7j hcl hi
  have hR:=h.rob i r hr2
  obtain⟨b1,b2,b3⟩:=hr i r' hi
  exact⟨by rw [h1];exact hR.cell,by rw [h1];exact hR.kind,by rw [h2,hsh];exact hR.load,b1,b2,b3,fun h0=>by rw [h2,Q6t hcl,hsh,h1];exact hR.own (by rw [←h2];exact h0)⟩
 shel:=fun i c hi hc=>by rw [hsh] at hi;rw [Q5Q hcl] at hc;exact h.shel i c hi hc
 ppl:=fun i c hi=>by rw [hpp] at hi;exact h.ppl i c hi
 dead:=hd
 deadA:=hdA
 stuck:=hk
 stuckA:=hkA
 clash:=by rw [Q6j hcl hsh hpp];exact h.clash
theorem Q0o {n:Nat} {r y:ApiRobot} (hx:st.Robots[n]?=some r) (hc:y.Cell=r.Cell) (hl:y.Load=r.Load):(st.Robots.set n y).map CL=st.Robots.map CL:=by
 rw [List.map_set]
 have:CL y=CL r:=by unfold CL;rw [hc,hl]
 rw [this]
 exact Q4P (by rw [List.getElem?_map,hx];rfl)
theorem Q5N {n:Nat} {r y:ApiRobot} (h:RSt s st) (hx:st.Robots[n]?=some r) (hy:(0≤y.Charge∧y.Charge≤1000000)∧(0≤y.Rest∧y.Rest≤20000)∧(0≤y.Mute∧y.Mute≤20000)):
  ∀(i:Nat) z,(st.Robots.set n y)[i]?=some z→(0≤z.Charge∧z.Charge≤1000000)∧(0≤z.Rest∧z.Rest≤20000)∧(0≤z.Mute∧z.Mute≤20000):=fun i z hz=>by
 rcases Zw hz with ⟨_,_,e⟩ | ⟨_,e⟩
 ·subst e;exact hy
 ·have:=h.rob i z e;exact⟨this.charge,this.rest,this.mute⟩
theorem Q74 {f:ApiFloor} {c:Int} {n:Int} (hn:n≠0) (h:k0 f c=n):isC f c=true∧kx f c=n:=by
 unfold k0 at h
 cases e:isC f c with
 | true=>rw [if_pos e] at h;unfold kx;rw [if_pos e];exact⟨rfl,h⟩
 | false=>rw [e] at h;simp at h;omega
theorem Q1Z {c n:Int} {l:List ApiStuck} {x:ApiStuck} (h:x∈Xf c n l):x∈l∨x.Cell=c∧(x.Left=n∨∃y,y∈l∧x.Left=imax y.Left n):=by
 induction l with
 | nil=>simp [Xf] at h;subst h;exact .inr ⟨rfl,.inl rfl⟩
 | cons y r ih=>
  unfold Xf at h
  split at h
  ·rcases List.mem_cons.1 h with e | e
   ·subst e;exact .inl (by simp)
   ·rcases ih e with h1 | ⟨h1,h2⟩
    ·exact .inl (by simp [h1])
    ·refine .inr ⟨h1,?_⟩
     rcases h2 with h2 | ⟨z,hz,h2⟩
     ·exact .inl h2
     ·exact .inr ⟨z,by simp [hz],h2⟩
  ·split at h
   ·rcases List.mem_cons.1 h with e | e
    ·subst e;exact .inr ⟨rfl,.inr ⟨y,by simp,rfl⟩⟩
    ·exact .inl (by simp [e])
   ·rcases List.mem_cons.1 h with e | e
    ·subst e;exact .inr ⟨rfl,.inl rfl⟩
    ·exact .inl e
theorem Q5n {c n:Int} {l:List ApiStuck} (h:l.Pairwise (fun x y=>x.Cell<y.Cell)):(Xf c n l).Pairwise (fun x y=>x.Cell<y.Cell):=by
 induction l with
 | nil=>simp [Xf]
 | cons y r ih=>
  have h':=List.pairwise_cons.1 h
  unfold Xf
  split
  ·rename_i hc
   refine List.pairwise_cons.2 ⟨fun z hz=>?_,ih h'.2⟩
   rcases Q1Z hz with e | ⟨e,_⟩
   ·exact h'.1 z e
   ·omega
  ·split
   ·rename_i hc
    exact List.pairwise_cons.2 ⟨fun z hz=>by have:=h'.1 z hz;show c<_;omega,h'.2⟩
   ·refine List.pairwise_cons.2 ⟨fun z hz=>?_,h⟩
    show c<_
    rcases List.mem_cons.1 hz with e | e
    ·subst e;omega
    ·have:=h'.1 z e;omega
theorem Q1s {α:Type} {l:List α} {g:α→Int} (h:∀(i:Nat) x y,l[i]?=some x→l[i+1]?=some y→g x<g y):l.Pairwise (fun x y=>g x<g y):=
 List.pairwise_iff_getElem.2 fun i j hi hj hij=>Q90 h i j _ _ hij (List.getElem?_eq_getElem hi) (List.getElem?_eq_getElem hj)
theorem Q1m {α:Type} {l:List α} {g:α→Int} (h:l.Pairwise (fun x y=>g x<g y)) (i:Nat) (x y:α) (hx:l[i]?=some x) (hy:l[i+1]?=some y):g x<g y:=by
 obtain⟨h1,e1⟩:=List.getElem?_eq_some_iff.1 hx
 obtain⟨h2,e2⟩:=List.getElem?_eq_some_iff.1 hy
 have:=List.pairwise_iff_getElem.1 h i (i+1) h1 h2 (by omega)
 rw [e1,e2] at this;exact this
theorem Q8g (h:RF s.Floor) {a c:Int} (hb:Q3R s st a c=true):isC s.Floor c=true∧(kx s.Floor c=4∨kx s.Floor c=5)∧low c∉allS st∧high c∉allS st∧(a=st.People.length→a<20):=by
 unfold Q3R at hb
 simp only [Bool.and_eq_true,Bool.or_eq_true,beq_iff_eq,Bool.not_eq_true'] at hb
 obtain⟨⟨h1,h2,h3⟩,h4⟩:=hb
 have hk:isC s.Floor c=true∧(kx s.Floor c=4∨kx s.Floor c=5):=by
  rcases h1 with h1 | h1
  ·have:=Q74 (by decide) h1;exact⟨this.1,.inl this.2⟩
  ·have:=Q74 (by decide) h1;exact⟨this.1,.inr this.2⟩
 refine⟨hk.1,hk.2,by simpa using h2,by simpa using h3,fun e=>?_⟩
 rw [if_pos e] at h4
 simp at h4;exact h4.2
theorem Q2d (h:RSt s st) (hf:RF s.Floor) {pp:List Int} {c:Int} (hc:isC s.Floor c=true) (hk:kx s.Floor c=4∨kx s.Floor c=5) (h1:low c∉allS st) (h2:high c∉allS st) (hl:pp.length≤20)
  (hpp:pp=st.People++[c]∨∃n:Nat,n<st.People.length∧pp=st.People.set n c):RSt s {st with People:=pp} where
 tick:=h.tick
 sl:=h.sl
 rl:=h.rl
 pl:=hl
 rob:=fun i r hi=>let R:=h.rob i r hi;⟨R.cell,R.kind,R.load,R.charge,R.rest,R.mute,R.own⟩
 shel:=fun i x hi hx=>h.shel i x hi hx
 ppl:=fun i x hi=>by
  rcases hpp with e | ⟨n,hn,e⟩
  ·have hi':(st.People++[c])[i]?=some x:=by rw [←e];exact hi
   rcases List.mem_append.1 (List.mem_of_getElem? hi') with hm | hm
   ·obtain⟨j,hj⟩:=List.getElem?_of_mem hm;exact h.ppl j x hj
   ·simp at hm;subst hm;exact hk
  ·have hi':(st.People.set n c)[i]?=some x:=by rw [←e];exact hi
   rcases Zw hi' with ⟨_,_,e2⟩ | ⟨_,e2⟩
   ·subst e2;exact hk
   ·exact h.ppl i x e2
 dead:=h.dead
 deadA:=h.deadA
 stuck:=h.stuck
 stuckA:=h.stuckA
 clash:=by
  have hlh:=Yl hf hc
  have hne:low c≠high c:=by omega
  have hcl:=h.clash
  rcases hpp with e | ⟨n,hn,e⟩
  ·have:allS {st with People:=pp}=allS st++slP c:=by
    unfold allS
    show _++(List.range pp.length).flatMap (fun i=>slP (pp.getD i 0))=_
    rw [e,List.length_append,List.length_singleton,YC]
    have e1:(List.range st.People.length).flatMap (fun i=>slP ((st.People++[c]).getD i 0))=(List.range st.People.length).flatMap (fun i=>slP (st.People.getD i 0)):=Q01 fun j hj=>by rw [List.getD_eq_getElem?_getD,List.getD_eq_getElem?_getD,List.getElem?_append_left hj]
    rw [e1,KR (l:=st.People++[c]) (x:=c) (by simp)]
    simp only [List.append_assoc];rfl
   rw [this,List.nodup_append]
   refine⟨hcl,by unfold slP;simp [hne],fun a ha b hb=>?_⟩
   unfold slP at hb
   simp at hb
   rcases hb with e | e
   ·subst e;exact fun e=>h1 (e▸ha)
   ·subst e;exact fun e=>h2 (e▸ha)
  ·rw [List.nodup_iff_count]
   intro x
   have hle:=Q0W hcl x
   have hP:=Zc (f:=fun i=>slP (st.People.getD i 0)) (f':=fun i=>slP ((st.People.set n c).getD i 0)) hn (fun j _ hne=>by rw [Z8 hn,if_neg hne]) x
   rw [Z8 hn,if_pos rfl] at hP
   have hle2:(slP c).count x≤1:=List.nodup_iff_count.1 (by unfold slP;simp [hne]) x
   have h0:x∈slP c→(allS st).count x=0:=fun hx=>by
    unfold slP at hx
    simp at hx
    rcases hx with e | e
    ·subst e;exact List.count_eq_zero.2 h1
    ·subst e;exact List.count_eq_zero.2 h2
   have hm:(slP c).count x=0∨x∈slP c:=by
    by_cases e:x∈slP c
    ·exact .inr e
    ·exact .inl (List.count_eq_zero.2 e)
   unfold allS at hle h0 ⊢
   simp only [List.count_append] at hle h0 ⊢
   show ((List.range st.Robots.length).flatMap (fun i=>slR (st.Robots.getD i default))).count x+((List.range st.Shelves.length).flatMap (slS st)).count x+((List.range pp.length).flatMap (fun i=>slP (pp.getD i 0))).count x≤1
   rw [e,List.length_set]
   rcases hm with e | e
   ·omega
   ·have:=h0 e;omega
theorem Q4A (hf:RF s.Floor) (h:RSt s st) (f:QV):RSt s (Wa s st f):=by
 cases hb:Xh s st f with
 | false=>rw [Q41 hb];exact h
 | true=>
  have base:=fun (i:Nat) r (hi:st.Robots[i]?=some r)=>h.rob i r hi
  by_cases h1:f.Kind=1
  ·have hl:=hb;rw [Q4e h1] at hl
   obtain⟨n,r,hn,hx,_,hr⟩:=WD hl
   have hR:=h.rob n r hx
   rw [Q6q hb h1,hr]
   refine Z7 h (st':=setR st f.A {r with Dead:=true}) ?_ rfl rfl h.tick ?_ h.dead h.deadA h.stuck h.stuckA
   ·show (st.Robots.set f.A.toNat _).map CL=_;rw [hn];exact Q0o hx rfl rfl
   ·show ∀(i:Nat) z,(st.Robots.set f.A.toNat _)[i]?=some z→_;rw [hn];exact Q5N h hx ⟨hR.charge,hR.rest,hR.mute⟩
  by_cases h2:f.Kind=2
  ·have hl:=hb;rw [Q5W h2,Bool.and_eq_true] at hl
   have hA:isC s.Floor f.A=true:=by
    have h3:k0 s.Floor f.A≠0:=by simpa using hl.1
    exact (Q74 h3 rfl).1
   have hnm:f.A∉st.Dead:=by simpa using hl.2
   rw [Q65 hb h2]
   have hpw:=Q1s (g:=fun x:Int=>x) h.deadA
   have hperm:=Q3T (st.Dead++[f.A])
   have hnd:(srtI (st.Dead++[f.A])).Nodup:=hperm.nodup_iff.2 (by
    rw [List.nodup_append]
    exact⟨hpw.imp (fun h=>by omega),by simp,fun a ha b hb=>by simp at hb;subst hb;exact fun e=>hnm (e▸ha)⟩)
   have hlt:(srtI (st.Dead++[f.A])).Pairwise (fun x y:Int=>x<y):=by
    have:=List.Pairwise.and (Q8m (st.Dead++[f.A])) hnd
    exact this.imp (fun h=>by obtain⟨a,b⟩:=h;omega)
   refine Z7 h (st':={st with Dead:=srtI (st.Dead++[f.A])}) rfl rfl rfl h.tick (fun i r hi=>⟨(base i r hi).charge,(base i r hi).rest,(base i r hi).mute⟩) (fun i c hi=>?_) (fun i x y hx hy=>Q1m (g:=fun x:Int=>x) hlt i x y hx hy) h.stuck h.stuckA
   rcases List.mem_append.1 (hperm.mem_iff.1 (List.mem_of_getElem? hi)) with hm | hm
   ·obtain⟨j,hj⟩:=List.getElem?_of_mem hm;exact h.dead j c hj
   ·simp at hm;subst hm;exact hA
  by_cases h3:f.Kind=3
  ·have hl:=hb;rw [Q4l h3,Bool.and_eq_true] at hl
   obtain⟨n,r,hn,hx,_,hr⟩:=WD hl.1
   have hlg:1≤f.N∧f.N≤20000:=by have:=hl.2;unfold Q33 at this;simpa using this
   have hR:=h.rob n r hx
   rw [Q6m hb h3,hr]
   refine Z7 h (st':=setR st f.A {r with Mute:=f.N}) ?_ rfl rfl h.tick ?_ h.dead h.deadA h.stuck h.stuckA
   ·show (st.Robots.set f.A.toNat _).map CL=_;rw [hn];exact Q0o hx rfl rfl
   ·show ∀(i:Nat) z,(st.Robots.set f.A.toNat _)[i]?=some z→_;rw [hn];exact Q5N h hx ⟨hR.charge,hR.rest,by show 0≤f.N∧f.N≤20000;omega⟩
  by_cases h4:f.Kind=4
  ·have hl:=hb;rw [Q5X h4,Bool.and_eq_true] at hl
   have hlg:1≤f.N∧f.N≤20000:=by have:=hl.2;unfold Q33 at this;simpa using this
   have hA:=Q74 (n:=6) (by decide) (by simpa using hl.1)
   rw [Q67 hb h4]
   have hpw:=Q5n (c:=f.A) (n:=f.N) (Q1s (g:=fun x:ApiStuck=>x.Cell) h.stuckA)
   refine Z7 h (st':={st with Stuck:=Xf f.A f.N st.Stuck}) rfl rfl rfl h.tick (fun i r hi=>⟨(base i r hi).charge,(base i r hi).rest,(base i r hi).mute⟩) h.dead h.deadA (fun i x hi=>?_) (fun i x y hx hy=>Q1m (g:=fun x:ApiStuck=>x.Cell) hpw i x y hx hy)
   have hst:∀y,y∈st.Stuck→kx s.Floor y.Cell=6∧1≤y.Left∧y.Left≤20000:=fun y hy=>by obtain⟨j,hj⟩:=List.getElem?_of_mem hy;exact h.stuck j y hj
   rcases Q1Z (List.mem_of_getElem? hi) with hm | ⟨hm,hm2⟩
   ·exact hst x hm
   ·refine⟨by rw [hm];exact hA.2,?_⟩
    rcases hm2 with e | ⟨y,hy,e⟩
    ·rw [e];exact hlg
    ·have:=(hst y hy).2
     rw [e];unfold imax;split <;> omega
  by_cases h5:f.Kind=5
  ·have hl:=hb;rw [Q44 h5] at hl
   obtain⟨g1,g2,g3,g4,g5⟩:=Q8g hf hl
   rw [Q4x hb h5]
   rcases Q6u hl with hA | ⟨n,hA,hn⟩
   ·have:=g5 hA
    rw [if_pos hA]
    exact Q2d h hf g1 g2 g3 g4 (by simp;omega) (.inl rfl)
   ·rw [if_neg (by omega),hA]
    exact Q2d h hf g1 g2 g3 g4 (by show (st.People.set n f.N).length≤20;rw [List.length_set];exact h.pl) (.inr ⟨n,hn,rfl⟩)
  ·by_cases h0:f.Kind=0
   ·rw [Q5O h0];exact h
   ·have:=Q35 (s:=s) (st:=st) h0 h1 h2 h3 h4 h5
    rw [this] at hb;cases hb
theorem Q68 (hf:RF s.Floor) (hs:RS s) (h:RSt s st) (hz:Sz st):LS s st:=⟨hf,hs,hz,h.cells,fun i r hr=>⟨(h.rob i r hr).cell,(h.rob i r hr).load.1,(h.rob i r hr).load.2⟩⟩
theorem Q5v {f:ApiFloor} {c:Int} (h:0≤kx f c):isC f c=true:=by
 unfold kx at h;cases e:isC f c with
 | true=>rfl
 | false=>rw [e] at h;simp at h
theorem Q7m (hf:RF s.Floor) (h:RSt s st) (hz:Sz st):QM st where
 Tick:=XQ (by have:=h.tick;omega)
 Shelves:=Q0S hz.sh (fun c hc=>ZB hf (h.cells c hc))
 Robots:=Q0S hz.rb (fun r hr=>by
  obtain⟨i,hi⟩:=List.getElem?_of_mem hr
  have hR:=h.rob i r hi
  have h1:=hR.load;have h2:=hR.charge;have h3:=hR.rest;have h4:=hR.mute;have h5:=hz.sh
  exact⟨ZB hf hR.cell,XQ (by omega),XQ (by omega),XQ (by omega),XQ (by omega),trivial⟩)
 People:=Q0S hz.pp (fun c hc=>by obtain⟨i,hi⟩:=List.getElem?_of_mem hc;exact ZB hf (Q5v (by have:=h.ppl i c hi;omega)))
 Dead:=Q0S hz.dd (fun c hc=>by obtain⟨i,hi⟩:=List.getElem?_of_mem hc;exact ZB hf (h.dead i c hi))
 Stuck:=Q0S hz.sk (fun x hx=>by
  obtain⟨i,hi⟩:=List.getElem?_of_mem hx
  have:=h.stuck i x hi
  exact⟨ZB hf (Q5v (by omega)),XQ (by omega)⟩)
def doA (s:ApiSite) (st:ApiState) (i:Nat) (a:Int):ApiState:=doS s st i (if legS s st i a=0 then a else 0)
theorem legA {i:Nat} (hi:i<st.Robots.length) (a:Int):legS s st i (if legS s st i a=0 then a else 0)=0:=by
 split
 ·assumption
 ·exact Q1r ⟨by omega,by omega⟩
theorem Q6e (hf:RF s.Floor) (hs:RS s) (h:RSt s st) (hz:Sz st) {i:Nat} (hi:i<st.Robots.length) (a:Int):RSt s (doA s st i a):=by
 have hx:=List.getElem?_eq_getElem hi
 have hl:=legA (s:=s) hi a
 have ha:=(Q5E hl).2
 unfold doA
 generalize (if legS s st i a=0 then a else 0)=b at *
 rw [Q5x rfl hx]
 rw [Q2X rfl hx] at hl
 exact (Q8l h (Q68 hf hs h hz) hx ha hl).1
def runS (s:ApiSite) (acts:List Int):Nat→Nat→ApiState→ApiState
 | 0,_,st=>st
 | n+1,i,st=>runS s acts n (i+1) (doA s st i (acts.getD i 0))
end
end Go.Taq
/- The mathematics, part AE: the end of a tick; a whole tick (arena.Step and its reference). -/
set_option linter.unusedVariables false
set_option linter.unusedSimpArgs false
namespace Go.Taq
open Go
def mset {α:Type} (g:Nat→α) (xs:List α) (i:Nat):List α:=(List.range i).map g++xs.drop i
theorem Q5t {α:Type} (g:Nat→α) (xs:List α):mset g xs 0=xs:=by unfold mset;simp
theorem Q4T {α:Type} (g:Nat→α) (xs:List α) {i:Nat} (h:i≤xs.length):(mset g xs i).length=xs.length:=by unfold mset;simp;omega
theorem Q2Q {α:Type} (g:Nat→α) {xs:List α} {i:Nat} {x:α} (h:xs[i]?=some x):(mset g xs i)[i]?=some x:=by
 unfold mset;rw [List.getElem?_append_right (by simp)];simp [h]
theorem Q2F {α:Type} (g:Nat→α) {xs:List α} {i:Nat} (h:i<xs.length):(mset g xs i).set i (g i)=mset g xs (i+1):=by
 unfold mset
 rw [List.set_append,if_neg (by simp),List.length_map,List.length_range,Nat.sub_self,List.drop_eq_getElem_cons h,List.set_cons_zero,List.range_succ,List.map_append]
 simp
theorem Q2x {α:Type} (g:Nat→α) (xs:List α):mset g xs xs.length=(List.range xs.length).map g:=by unfold mset;simp
theorem Q1e {α β:Type} (f:α→β) (xs:List α) (d:α):(List.range xs.length).map (fun i=>f (xs.getD i d))=xs.map f:=by
 apply List.ext_getElem?
 intro i
 rw [List.getElem?_map,List.getElem?_map]
 by_cases h:i<xs.length
 ·rw [List.getElem?_range h,List.getElem?_eq_getElem h,Option.map_some,Option.map_some,List.getD_eq_getElem?_getD,List.getElem?_eq_getElem h];rfl
 ·rw [List.getElem?_eq_none (by simp;omega),List.getElem?_eq_none (by omega)];rfl
def endR (b r:ApiRobot):ApiRobot:={r with Rest:=if r.Cell=b.Cell then imax (r.Rest-1) 0 else r.Rest,Mute:=imax (r.Mute-1) 0}
def decL (x:ApiStuck):ApiStuck:={x with Left:=x.Left-1}
def ZP (b st:ApiState):ApiState:=
 {st with Tick:=st.Tick+1,Robots:=(List.range st.Robots.length).map (fun i=>endR (b.Robots.getD i default) (st.Robots.getD i default)),Stuck:=(st.Stuck.map decL).filter fun x=>!decide (x.Left≤0)}
section
variable {s:ApiSite} {st b:ApiState}
theorem Q3t (h:RSt s st) (hz:Sz st) (hl:b.Robots.length=st.Robots.length) {post:ApiState→Prop} (hp:post (ZP b st)):XH b st post:=by
 unfold XH
 have q2:=hz.rb;have q5:=hz.sk
 have htk:=h.tick
 refine Jn.mk (fun l=>l=(List.range st.Robots.length).map (fun i=>endR (b.Robots.getD i default) (st.Robots.getD i default))) (Q2e st.Robots.length (fun t:List ApiRobot×Int=>t.2) (fun i t=>t.1=mset (fun i=>endR (b.Robots.getD i default) (st.Robots.getD i default)) st.Robots i) (by unfold maxLen;omega) rfl (Q5t _ _).symm (fun i t hi ht hI=>?_) (fun t h=>by rw [Q2x] at h;exact h)) (fun l hl2=>?_)
 ·have hx:=List.getElem?_eq_getElem hi
  generalize st.Robots[i]=r at hx
  have hy:=List.getElem?_eq_getElem (show i<b.Robots.length by omega)
  generalize b.Robots[i]'_=r0 at hy
  have hR:=h.rob i r hx
  have h1:=hR.rest;have h2:=hR.mute
  have eg:endR (b.Robots.getD i default) (st.Robots.getD i default)=endR r0 r:=by rw [Xr hx,Xr hy]
  have em:w64 (r.Mute-1)=r.Mute-1:=QD (by omega) (by omega)
  have er:w64 (r.Rest-1)=r.Rest-1:=QD (by omega) (by omega)
  rw [ht]
  refine Jn.mk (fun l=>l=t.1.set i (endR r0 r)) ⟨r,Qn rfl (by rw [hI];exact Q2Q _ hx),r0,Qn rfl hy,Ite.mk (fun h3=>?_) (fun h3=>?_)⟩ (fun l hl2=>⟨rfl,by show l=_;rw [hl2,hI,←eg];exact Q2F _ hi⟩)
  ·have h3':r.Cell≠r0.Cell:=by simpa using h3
   show t.1.set i _=_
   unfold endR;rw [if_neg h3',em]
  ·have h3':r.Cell=r0.Cell:=by simpa using h3
   show (t.1.set i _).set i _=_
   rw [List.set_set]
   unfold endR;rw [if_pos h3',em,er]
 ·refine Jn.mk (fun m=>m=st.Stuck.map decL) (Q2e st.Stuck.length (fun t:List ApiStuck×Int=>t.2) (fun i t=>t.1=mset (fun i=>decL (st.Stuck.getD i default)) st.Stuck i) (by unfold maxLen;omega) rfl (Q5t _ _).symm (fun i t hi ht hI=>?_) (fun t h=>by rw [Q2x,Q1e] at h;exact h)) (fun m hm=>?_)
  ·have hx:=List.getElem?_eq_getElem hi
   generalize st.Stuck[i]=x at hx
   have hK:=h.stuck i x hx
   rw [ht]
   have eg:decL (st.Stuck.getD i default)=decL x:=by rw [List.getD_eq_getElem?_getD,hx];rfl
   refine⟨x,Qn rfl (by rw [hI];exact Q2Q _ hx),rfl,?_⟩
   show t.1.set i _=_
   rw [hI,QD (by omega) (by omega)]
   have:=Q2F (fun i=>decL (st.Stuck.getD i default)) hi
   rw [←this,eg];rfl
  ·unfold Qm Qv
   have hml:m.length≤maxLen:=by rw [hm];simp;unfold maxLen;omega
   refine Ww hml (fun x:ApiStuck=>decide (x.Left≤0)) (T:=fun x q=>KM x q) (fun x _ q hq=>by unfold KM;exact hq) ?_
   refine Q1q hml ({Cell:=0,Left:=0}:ApiStuck) (fun x:ApiStuck=>decide (x.Left≤0)) (T:=fun x q=>KM x q) (fun x _ q hq=>by unfold KM;exact hq) (post:=fun y=>post {Tick:=w64 (st.Tick+1),Shelves:=st.Shelves,Robots:=l,People:=st.People,Dead:=st.Dead,Stuck:=y}) ?_
   rw [hm,hl2,QD (by omega) (by omega)]
   exact hp
theorem Q6L (h:RSt s st) (hl:b.Robots.length=st.Robots.length) (ht:st.Tick<20000):RSt s (ZP b st):=by
 have hget:∀(i:Nat) r',(ZP b st).Robots[i]?=some r'→∃r,st.Robots[i]?=some r∧r'=endR (b.Robots.getD i default) r:=fun i r' hi=>by
  have hi':((List.range st.Robots.length).map (fun i=>endR (b.Robots.getD i default) (st.Robots.getD i default)))[i]?=some r':=hi
  rw [List.getElem?_map] at hi'
  cases e:(List.range st.Robots.length)[i]? with
  | none=>rw [e] at hi';cases hi'
  | some j=>
   rw [e] at hi'
   obtain⟨h1,h2⟩:=List.getElem?_eq_some_iff.1 e
   simp at h1 h2
   subst h2
   have hx:=List.getElem?_eq_getElem h1
   refine⟨_,hx,?_⟩
   exact (Option.some.inj hi').symm.trans (by show endR _ (st.Robots.getD _ default)=_;rw [Xr hx])
 refine Z7 h (st':=ZP b st) ?_ rfl rfl (by have:=h.tick;show 0≤st.Tick+1∧st.Tick+1≤20000;omega) (fun i r' hi=>?_) h.dead h.deadA (fun i x hi=>?_) (fun i x y hx hy=>?_)
 ·show ((List.range st.Robots.length).map (fun i=>endR (b.Robots.getD i default) (st.Robots.getD i default))).map CL=_
  rw [List.map_map]
  have:(CL ∘ fun i=>endR (b.Robots.getD i default) (st.Robots.getD i default))=fun i=>CL (st.Robots.getD i default):=rfl
  rw [this];exact Q1e CL st.Robots default
 ·obtain⟨r,hr,e⟩:=hget i r' hi
  have hR:=h.rob i r hr
  have h1:=hR.rest;have h2:=hR.mute
  subst e
  refine⟨hR.charge,?_,?_⟩
  ·unfold endR;simp only;split
   ·unfold imax;split <;> omega
   ·exact h1
  ·unfold endR;simp only;unfold imax;split <;> omega
 ·have hm:=List.mem_of_getElem? hi
  have hm':x∈(st.Stuck.map decL).filter fun x=>!decide (x.Left≤0):=hm
  obtain⟨h1,h2⟩:=List.mem_filter.1 hm'
  obtain⟨y,hy,e⟩:=List.mem_map.1 h1
  obtain⟨j,hj⟩:=List.getElem?_of_mem hy
  have hK:=h.stuck j y hj
  subst e
  have h2':¬(decL y).Left≤0:=by simpa using h2
  refine⟨hK.1,?_⟩
  have:(decL y).Left=y.Left-1:=rfl
  omega
 ·have h1:=Q1s (g:=fun x:ApiStuck=>x.Cell) h.stuckA
  have h2:((st.Stuck.map decL).filter fun x=>!decide (x.Left≤0)).Pairwise (fun x y=>x.Cell<y.Cell):=List.Pairwise.filter _ (List.pairwise_map.2 (h1.imp (fun h=>h)))
  exact Q1m (g:=fun x:ApiStuck=>x.Cell) h2 i x y hx hy
/-! ## lengths -/
structure SzN (n:Nat) (st:ApiState):Prop where
 sh:st.Shelves.length≤20
 rb:st.Robots.length≤20
 pp:st.People.length≤20
 dd:st.Dead.length≤n
 sk:st.Stuck.length≤n
theorem SzN.sz {n:Nat} (h:SzN n st) (hn:n≤1000):Sz st:=⟨by have:=h.sh;omega,by have:=h.rb;omega,by have:=h.pp;omega,by have:=h.dd;omega,by have:=h.sk;omega⟩
theorem SzN.mono {n m:Nat} (h:SzN n st) (hn:n≤m):SzN m st:=⟨h.sh,h.rb,h.pp,by have:=h.dd;omega,by have:=h.sk;omega⟩
theorem Q3P.szN (h:Q3P st):SzN 12 st:=⟨by have:=h.sh;omega,by have:=h.rb;omega,by have:=h.pp;omega,h.dd,h.sk⟩
theorem Q6P {n:Nat} (hf:RF s.Floor) (h:RSt s st) (hz:SzN n st) (f:QV):SzN (n+1) (Wa s st f):=by
 have hr:=Q4A hf h f
 have hpl:=hr.pl
 cases hb:Xh s st f with
 | false=>rw [Q41 hb];exact hz.mono (by omega)
 | true=>
  have q1:=hz.sh;have q2:=hz.rb;have q3:=hz.dd;have q4:=hz.sk
  by_cases h1:f.Kind=1
  ·rw [Q6q hb h1] at hpl ⊢;exact⟨q1,by unfold setR;simp only;rw [List.length_set];exact q2,hpl,by show st.Dead.length≤_;omega,by show st.Stuck.length≤_;omega⟩
  by_cases h2:f.Kind=2
  ·rw [Q65 hb h2] at hpl ⊢;exact⟨q1,q2,hpl,by show (srtI _).length≤_;rw [(Q3T _).length_eq];simp;omega,by show st.Stuck.length≤_;omega⟩
  by_cases h3:f.Kind=3
  ·rw [Q6m hb h3] at hpl ⊢;exact⟨q1,by unfold setR;simp only;rw [List.length_set];exact q2,hpl,by show st.Dead.length≤_;omega,by show st.Stuck.length≤_;omega⟩
  by_cases h4:f.Kind=4
  ·rw [Q67 hb h4] at hpl ⊢;exact⟨q1,q2,hpl,by show st.Dead.length≤_;omega,by have:=(Q2a f.A f.N st.Stuck).2;show (Xf _ _ _).length≤_;omega⟩
  by_cases h5:f.Kind=5
  ·rw [Q4x hb h5] at hpl ⊢;exact⟨q1,q2,hpl,by show st.Dead.length≤_;omega,by show st.Stuck.length≤_;omega⟩
  ·by_cases h0:f.Kind=0
   ·rw [Q5O h0];exact hz.mono (by omega)
   ·have:=Q35 (s:=s) (st:=st) h0 h1 h2 h3 h4 h5
    rw [this] at hb;cases hb
theorem GQ (i:Nat) (a:Int):(doA s st i a).Tick=st.Tick∧(doA s st i a).Robots.length=st.Robots.length∧(doA s st i a).Shelves.length=st.Shelves.length∧(doA s st i a).People=st.People∧(doA s st i a).Dead=st.Dead∧(doA s st i a).Stuck=st.Stuck:=by
 unfold doA
 generalize (if legS s st i a=0 then a else 0)=c
 unfold doS
 split
 ·exact⟨rfl,rfl,rfl,rfl,rfl,rfl⟩
 ·refine⟨?_,Q8p _ _ _,Q8s _ _ _,?_,?_,?_⟩ <;> (unfold doR;split <;> rfl)
theorem Q6c {n:Nat} (hz:SzN n st) (i:Nat) (a:Int):SzN n (doA s st i a):=by
 obtain⟨_,h1,h2,h3,h4,h5⟩:=GQ (s:=s) (st:=st) i a
 exact⟨by rw [h2];exact hz.sh,by rw [h1];exact hz.rb,by rw [h3];exact hz.pp,by rw [h4];exact hz.dd,by rw [h5];exact hz.sk⟩
theorem Q7e {n:Nat} (hz:SzN n st):SzN n (ZP b st):=
 ⟨hz.sh,by show ((List.range st.Robots.length).map _).length≤20;simp;exact hz.rb,hz.pp,hz.dd,by
  show ((st.Stuck.map decL).filter _).length≤n
  exact Nat.le_trans (List.length_filter_le _ _) (by simp;exact hz.sk)⟩
theorem Q1n {n:Nat} (hn:n≤1000) (hf:RF s.Floor) (hs:RS s) (acts:List Int):∀(k i:Nat) (st:ApiState),i+k≤st.Robots.length→RSt s st→SzN n st→RSt s (runS s acts k i st)∧SzN n (runS s acts k i st)∧(runS s acts k i st).Tick=st.Tick∧(runS s acts k i st).Robots.length=st.Robots.length
 | 0,i,st,_,h,hz=>⟨h,hz,rfl,rfl⟩
 | k+1,i,st,hi,h,hz=>by
  obtain⟨g1,g2,_⟩:=GQ (s:=s) (st:=st) i (acts.getD i 0)
  obtain⟨h1,h2,h3,h4⟩:=Q1n hn hf hs acts k (i+1) (doA s st i (acts.getD i 0)) (by rw [g2];omega) (Q6e hf hs h (hz.sz hn) (by omega) _) (Q6c hz i _)
  exact⟨h1,h2,h3.trans g1,h4.trans g2⟩
theorem Qae {n:Nat} (hn:n≤1000) (hf:RF s.Floor) (hs:RS s) {acts:List Int} (hm:acts.length≤maxLen) {now:ApiState} (h:RSt s now) (hz:SzN n now) (hl:acts.length=now.Robots.length)
  {L:ApiState→Int→Int→(Int→Prop)→Prop} (hL:∀st,QM st→LS s st→∀i a {q:Int→Prop},q (legS s st i a)→L st i a q)
  {D:ApiState→Int→Int→(ApiState→Prop)→Prop} (hD:∀st,QM st→LS s st→∀i a {q:ApiState→Prop},0≤a→a<10→q (doS s st i a)→D st i a q)
  {K:Int×List Int×List ApiRobot×List Int×List Int×List ApiStuck→Prop} (hp:∀t:Int×List Int×List ApiRobot×List Int×List Int×List ApiStuck,({Tick:=t.1,Shelves:=t.2.1,Robots:=t.2.2.1,People:=t.2.2.2.1,Dead:=t.2.2.2.2.1,Stuck:=t.2.2.2.2.2}:ApiState)=runS s acts acts.length 0 now→K t):
  Jn (fun (J:(Int×List Int×List ApiRobot×List Int×List Int×List ApiStuck)→Prop)=>Loop (fun (t:Int×List Int×List ApiRobot×List Int×List Int×List ApiStuck×Int) Y=>Ite (decide (t.2.2.2.2.2.2<(acts.length:Int)))
   (∃x,idx acts t.2.2.2.2.2.2=some x∧L (stOf t) t.2.2.2.2.2.2 x (fun y=>Jn (fun (J2:Int→Prop)=>Ite (y != 0) (J2 0) (J2 x)) (fun (a:Int)=>D (stOf t) t.2.2.2.2.2.2 a (fun z=>Y (z.Tick,z.Shelves,z.Robots,z.People,z.Dead,z.Stuck,w64 (t.2.2.2.2.2.2+1))))))
   (J (t.1,t.2.1,t.2.2.1,t.2.2.2.1,t.2.2.2.2.1,t.2.2.2.2.2.1))) (now.Tick,now.Shelves,now.Robots,now.People,now.Dead,now.Stuck,0)) K:=by
 refine Jn.mk (fun t=>({Tick:=t.1,Shelves:=t.2.1,Robots:=t.2.2.1,People:=t.2.2.2.1,Dead:=t.2.2.2.2.1,Stuck:=t.2.2.2.2.2}:ApiState)=runS s acts acts.length 0 now) (Loop.inv acts.length (fun i t=>t.2.2.2.2.2.2=(i:Int)∧RSt s (stOf t)∧SzN n (stOf t)∧(stOf t).Robots.length=acts.length∧runS s acts acts.length 0 now=runS s acts (acts.length-i) i (stOf t)) ⟨rfl,h,hz,hl.symm,rfl⟩ (fun i t hi hI=>?_) (fun t hI=>?_)) hp
 ·obtain⟨ht,hr,hsz,hlen,hI⟩:=hI
  have hx:=List.getElem?_eq_getElem hi
  generalize acts[i]=a at hx
  have hn':acts.length-i=(acts.length-(i+1))+1:=by omega
  rw [hn',runS,KR hx] at hI
  have hls:=Q68 hf hs hr (hsz.sz hn)
  have hok:=Q7m hf hr (hsz.sz hn)
  rw [ht]
  refine Ite.lt (by omega) ⟨a,Qn rfl hx,hL _ hok hls i a ?_⟩
  refine Jn.mk (fun c=>c=if legS s (stOf t) i a=0 then a else 0) (Ite.mk (fun h6=>by rw [if_neg (by simpa using h6)]) (fun h6=>by rw [if_pos (by simpa using h6)])) (fun c hc=>?_)
  have hleg:=legA (s:=s) (st:=stOf t) (i:=i) (by omega) a
  rw [←hc] at hleg
  have hb:=Q5M hleg
  have e:doS s (stOf t) i c=doA s (stOf t) i a:=by unfold doA;rw [←hc]
  refine hD _ hok hls i c hb.1 hb.2 ?_
  rw [e]
  refine⟨Xx hi hm,Q6e hf hs hr (hsz.sz hn) (by omega) a,Q6c hsz i a,?_,hI⟩
  show (doA s (stOf t) i a).Robots.length=_
  rw [(GQ (s:=s) (st:=stOf t) i a).2.1];exact hlen
 ·obtain⟨ht,hr,hsz,hlen,hI⟩:=hI
  rw [Nat.sub_self,runS] at hI
  exact Ite.nlt (by omega) hI.symm
def Q7g:ApiState:={Tick:=0,Shelves:=[],Robots:=[],People:=[],Dead:=[],Stuck:=[]}
def tickS (s:ApiSite) (st:ApiState) (acts:List Int) (f:QV):ApiState:=ZP st (runS s acts acts.length 0 (Wa s st f))
noncomputable def Q6b (s:ApiSite) (st:ApiState) (acts:List Int) (f:QV):ApiState×Int:=
 if chkS s st acts≠0 then (Q7g,chkS s st acts) else if Xh s st f=false then (Q7g,26) else (tickS s st acts f,0)
theorem Q73 {acts:List Int} (h:chkS s st acts=0):st.Tick<20000∧acts.length=st.Robots.length:=by
 unfold chkS at h
 by_cases h1:st.Tick≥20000
 ·rw [if_pos h1] at h;simp at h
 ·rw [if_neg h1] at h
  by_cases h2:(acts.length:Int)≠st.Robots.length
  ·rw [if_pos h2] at h;simp at h
  ·exact⟨by omega,by omega⟩
theorem Q8e (f:QV):(Wa s st f).Robots.length=st.Robots.length∧(Wa s st f).Tick=st.Tick:=by
 unfold Wa setR;split
 ·exact⟨rfl,rfl⟩
 ·(repeat' split) <;> first | exact⟨rfl,rfl⟩ | exact⟨by simp,rfl⟩
theorem Q3M {n:Nat} (hn:n<1000) (ks:QX s) (hf:RF s.Floor) (hs:RS s) (h:RSt s st) (hz:SzN n st) {acts:List Int} (ka:OkL I64 acts) {f:QV} {post:ApiState×Int→Prop} (hp:post (Q6b s st acts f)):GY s st acts f post:=by
 unfold GY
 have hsz:=hz.sz (by omega)
 have hok:=Q7m hf h hsz
 unfold Q6b at hp
 refine Q30 ks hok (Q68 hf hs h hsz) ka (Ite.mk (fun h1=>?_) (fun h1=>?_))
 ·rw [if_pos (by simpa using h1)] at hp;exact hp
 have hc:chkS s st acts=0:=by simpa using h1
 rw [if_neg (by simpa using h1)] at hp
 refine Yx hf hsz (Ite.mk (fun h2=>?_) (fun h2=>?_))
 ·have h2':Q3v s st f≠0:=by simpa using h2
  have hb:Xh s st f=false:=by
   cases e:Xh s st f with
   | false=>rfl
   | true=>exact absurd (ZW.2 e) h2'
  have:Q3v s st f=26:=by unfold Q3v;rw [hb];rfl
  rw [if_pos hb] at hp;rw [this];exact hp
 have hb:Xh s st f=true:=ZW.1 (by simpa using h2)
 rw [if_neg (by rw [hb];simp)] at hp
 obtain⟨ht,hl⟩:=Q73 hc
 obtain⟨e1,e2⟩:=Q8e (s:=s) (st:=st) f
 have hr:=Q4A hf h f
 have hsz1:=Q6P hf h hz f
 obtain⟨g1,g2,g3,g4⟩:=Q1n (n:=n+1) (by omega) hf hs acts acts.length 0 (Wa s st f) (by rw [e1];omega) hr hsz1
 refine Q1O hf hsz (Qae (n:=n+1) (by omega) hf hs ka.1 hr hsz1 (by rw [e1];exact hl) (L:=fun st i a q=>XA s st i a q) (fun st k h i a q hq=>Q1i ks k h hq) (D:=fun st i a q=>WM s st i a q) (fun st k h i a q h0 h9 hq=>Q4N ks k h h0 h9 hq) (fun t ht=>?_))
 rw [ht]
 exact YI (g2.sz (by omega)) (Q3t g1 (g2.sz (by omega)) (by rw [g4,e1]) hp)
end
end Go.Taq
/- The mathematics, part AF: right states and right sites by the program's own functions; the bounds of the statements of chapter 16. -/
set_option linter.unusedVariables false
set_option linter.unusedSimpArgs false
namespace Go.Taq
open Go
section
variable {s:ApiSite} {st:ApiState}
theorem XN {x a b:Int} {post:Bool→Prop} (hp:post (decide (x≥a)&&decide (x≤b))):K9 x a b post:=by
 unfold K9;exact Zd hp
theorem Q0f {f:ApiFloor} {c:Int} {ks:List Int} (hk:ks.length≤10) (h1:ks.contains (-1)=false) {post:Bool→Prop} (hp:post (ks.contains (kx f c))):X0 f c ks post:=by
 unfold X0
 unfold kx at hp
 refine Jn.mk' (Ite.mk (fun h2=>Ite.mk (fun h3=>?_) (fun h3=>?_)) (fun h2=>?_))
 ·have hc:isC f c=true:=QF.2 ⟨by simpa using h2,by simpa using h3⟩
  rw [if_pos hc] at hp
  exact⟨_,Ws hc,K7 (by unfold maxLen;omega) hp⟩
 ·have hc:isC f c=false:=Q1p.2 (fun h=>by simp at h3;omega)
  rw [hc] at hp;simp only [Bool.false_eq_true,if_false] at hp;rw [h1] at hp;exact hp
 ·have hc:isC f c=false:=Q1p.2 (fun h=>by simp at h2;omega)
  rw [hc] at hp;simp only [Bool.false_eq_true,if_false] at hp;rw [h1] at hp;exact hp
theorem Q1C (hz:Sz st) {post:Bool→Prop} (hF:post false) (hT:(∀(i:Nat) r,st.Robots[i]?=some r→RRob s st i r)→post true):Xy s st post:=by
 unfold Xy
 have q1:=hz.rb
 have q2:=hz.sh
 let P:Nat→ApiRobot→Prop:=fun k z=>isC s.Floor z.Cell=true∧kd s.Floor z.Cell≠0∧(-1≤z.Load∧z.Load<st.Shelves.length)∧(0≤z.Charge∧z.Charge≤1000000)∧(0≤z.Rest∧z.Rest≤20000)∧(0≤z.Mute∧z.Mute≤20000)∧(0≤z.Load→st.Shelves.getD z.Load.toNat 0=z.Cell∧∀(j:Nat) y,j<k→st.Robots[j]?=some y→y.Load≠z.Load)
 refine Jn.mk (fun _=>∀(k:Nat) z,st.Robots[k]?=some z→P k z) (Kg (xs:=st.Robots) (by unfold maxLen;omega) (fun t:List (Int×Bool)×Int=>t.2) (fun i t=>(∀x,(lk t.1 x).getD false=true↔∃(k:Nat) (z:ApiRobot),k<i∧st.Robots[k]?=some z∧z.Load=x)∧∀(k:Nat) z,k<i→st.Robots[k]?=some z→P k z) rfl ⟨fun x=>⟨fun hx=>by simp [lk] at hx,fun ⟨k,z,h,_⟩=>by omega⟩,fun k z h=>by omega⟩ (fun i r t hx ht hI=>?_) (fun t h k z hk=>h.2 k z (List.getElem?_eq_some_iff.1 hk).1 hk)) (fun _ hall=>hT fun i r hi=>?_)
 ·obtain⟨hm,hP⟩:=hI
  refine Jn.mk (fun b=>b=false→isC s.Floor r.Cell=true∧kd s.Floor r.Cell≠0∧(-1≤r.Load∧r.Load<st.Shelves.length)) (Ite.mk (fun _ h=>by cases h) (fun h1=>Ite.mk (fun _ h=>by cases h) (fun h2=>?_))) (fun b hb=>Ite.mk (fun _=>hF) (fun h=>?_))
  ·have hc:isC s.Floor r.Cell=true:=QF.2 ⟨by simp at h1;omega,by simp at h2;omega⟩
   refine⟨_,Ws hc,Ite.mk (fun _ h=>by cases h) (fun h3=>XN (fun h4=>⟨hc,by simpa using h3,?_⟩))⟩
   rw [QD (by omega) (by omega)] at h4
   simp at h4;omega
  obtain⟨c1,c2,c3⟩:=hb h
  refine Jn.mk (fun b=>b=false→(0≤r.Charge∧r.Charge≤1000000)∧(0≤r.Rest∧r.Rest≤20000)∧(0≤r.Mute∧r.Mute≤20000)) (XN (Ite.mk (fun h1=>XN (Ite.mk (fun h2=>XN (fun h3=>?_)) (fun _ h=>by cases h))) (fun _ h=>by cases h))) (fun b hb=>Ite.mk (fun _=>hF) (fun h=>?_))
  ·simp at h1 h2 h3;omega
  obtain⟨c4,c5,c6⟩:=hb h
  refine Jn.mk (fun b=>b=false→0≤r.Load→st.Shelves.getD r.Load.toNat 0=r.Cell∧∀(j:Nat) y,j<i→st.Robots[j]?=some y→y.Load≠r.Load) (Ite.mk (fun h0=>Ite.mk (fun _ h=>by cases h) (fun h1=>?_)) (fun h0 _ h=>by simp at h0;omega)) (fun b hb=>Ite.mk (fun _=>hF) (fun h=>⟨by show w64 (t.2+1)=_;rw [ht],fun x=>?_,fun k z hk hz2=>?_⟩))
  ·have h0':0≤r.Load:=by simpa using h0
   obtain⟨m,hm2⟩:=Int.eq_ofNat_of_zero_le h0'
   have hsx:=List.getElem?_eq_getElem (show m<st.Shelves.length by omega)
   refine⟨_,Qn hm2 hsx,fun h2 _=>⟨?_,fun j y hj hy e=>?_⟩⟩
   ·rw [hm2];show st.Shelves.getD m 0=_;rw [KR hsx];simpa using h2
   ·have:=(hm r.Load).2 ⟨j,y,hj,hy,e⟩
    rw [h1] at this;cases this
  ·show (lk (upd t.1 r.Load true) x).getD false=true↔_
   rw [Wb]
   by_cases e:r.Load=x
   ·rw [if_pos e];exact⟨fun _=>⟨i,r,by omega,hx,e⟩,fun _=>rfl⟩
   ·rw [if_neg e,hm x]
    constructor
    ·rintro⟨k,z,h1,h2,h3⟩;exact⟨k,z,by omega,h2,h3⟩
    ·rintro⟨k,z,h1,h2,h3⟩
     refine⟨k,z,?_,h2,h3⟩
     by_cases e2:k=i
     ·subst e2;rw [hx] at h2;cases h2;exact absurd h3 e
     ·omega
  ·by_cases e:k=i
   ·subst e;rw [hx] at hz2;cases hz2
    exact⟨c1,c2,c3,c4,c5,c6,hb h⟩
   ·exact hP k z (by omega) hz2
 ·obtain⟨c1,c2,c3,c4,c5,c6,c7⟩:=hall i r hi
  refine⟨c1,c2,c3,c4,c5,c6,fun h0=>⟨Q4i hi h0 (fun k z hk e=>?_),(c7 h0).1⟩⟩
  rcases Nat.lt_trichotomy k i with h | h | h
  ·exact absurd e ((c7 h0).2 k z h hk)
  ·exact h
  ·exact absurd e.symm (((hall k z hk).2.2.2.2.2.2 (by omega)).2 i r h hi)
theorem Q3H (hz:Sz st) {post:Bool→Prop} (hF:post false) (hT:(∀(i:Nat) c,st.Dead[i]?=some c→isC s.Floor c=true)→(∀(i:Nat) x y,st.Dead[i]?=some x→st.Dead[i+1]?=some y→x<y)→(∀(i:Nat) x,st.Stuck[i]?=some x→kx s.Floor x.Cell=6∧1≤x.Left∧x.Left≤20000)→(∀(i:Nat) x y,st.Stuck[i]?=some x→st.Stuck[i+1]?=some y→x.Cell<y.Cell)→post true):Gq s.Floor st post:=by
 unfold Gq
 have q4:=hz.dd;have q5:=hz.sk
 refine Q6y (xs:=st.Dead) (by unfold maxLen;omega) (fun i x=>isC s.Floor x=true∧∀y,0<i→st.Dead[i-1]?=some y→y<x) (T:=fun i q=>∃x14,idx st.Dead i=some x14∧Jn (fun (J16:Bool→Prop)=>Ite (decide (x14<0)) (J16 true) (Ite (decide (x14≥(s.Floor.Kind.length:Int))) (J16 true) (Ite (decide (i>0)) (∃x20,idx st.Dead (w64 (i-1))=some x20∧J16 (decide (x14≤x20))) (J16 false)))) q) (fun i x hx q qT qF=>⟨x,Qn rfl hx,Jn.mk' ?_⟩) hF (fun hd=>?_)
 ·have hil:=(List.getElem?_eq_some_iff.1 hx).1
  refine Ite.mk (fun _=>qT) (fun h1=>Ite.mk (fun _=>qT) (fun h2=>Ite.mk (fun h3=>?_) (fun h3=>qF ⟨QF.2 ⟨by simp at h1;omega,by simp at h2;omega⟩,fun y hy=>by simp at h3;omega⟩)))
  have hi0:0<i:=by simp at h3;omega
  have hy:=List.getElem?_eq_getElem (show i-1<st.Dead.length by omega)
  refine⟨_,Qn (n:=i-1) (by rw [QD (by omega) (by omega)];omega) hy,?_⟩
  by_cases h4:x≤st.Dead[i-1]
  ·rw [decide_eq_true h4];exact qT
  ·rw [decide_eq_false h4]
   refine qF ⟨QF.2 ⟨by simp at h1;omega,by simp at h2;omega⟩,fun y _ hy2=>?_⟩
   rw [hy] at hy2;cases hy2;omega
 refine Q6y (xs:=st.Stuck) (by unfold maxLen;omega) (fun i x=>(kx s.Floor x.Cell=6∧1≤x.Left∧x.Left≤20000)∧∀y,0<i→st.Stuck[i-1]?=some y→y.Cell<x.Cell) (T:=fun i q=>∃x37,idx st.Stuck i=some x37∧Jn (fun (J39:Bool→Prop)=>X0 s.Floor x37.Cell ([6]:List Int) (fun x40=>Ite x40 (K9 x37.Left 1 20000 (fun x42=>Ite x42 (Ite (decide (i>0)) (∃x45,idx st.Stuck (w64 (i-1))=some x45∧J39 (decide (x37.Cell≤x45.Cell))) (J39 false)) (J39 true))) (J39 true))) q) (fun i x hx q qT qF=>⟨x,Qn rfl hx,Jn.mk' ?_⟩) hF (fun hs=>hT (fun i c hi=>(hd i c hi).1) (fun i x y hx hy=>(hd (i+1) y hy).2 x (by omega) (by simpa using hx)) (fun i x hi=>(hs i x hi).1) (fun i x y hx hy=>(hs (i+1) y hy).2 x (by omega) (by simpa using hx)))
 have hil:=(List.getElem?_eq_some_iff.1 hx).1
 refine Q0f (by decide) (by decide) (Ite.mk (fun h1=>XN (Ite.mk (fun h2=>Ite.mk (fun h3=>?_) (fun h3=>qF ⟨⟨by simpa using h1,by simp at h2;omega⟩,fun y hy=>by simp at h3;omega⟩)) (fun _=>qT))) (fun _=>qT))
 have hi0:0<i:=by simp at h3;omega
 have hy:=List.getElem?_eq_getElem (show i-1<st.Stuck.length by omega)
 refine⟨_,Qn (n:=i-1) (by rw [QD (by omega) (by omega)];omega) hy,?_⟩
 by_cases h4:x.Cell≤(st.Stuck[i-1]).Cell
 ·rw [decide_eq_true h4];exact qT
 ·rw [decide_eq_false h4]
  refine qF ⟨⟨by simpa using h1,by simp at h2;omega⟩,fun y _ hy2=>?_⟩
  rw [hy] at hy2;cases hy2;omega
theorem Q2R (hz:Sz st) {post:Bool→Prop} (hF:post false) (hT:RSt s st→post true):Xv s st post:=by
 unfold Xv
 have q1:=hz.sh;have q3:=hz.pp
 refine Jn.mk (fun b=>b=false→(0≤st.Tick∧st.Tick≤20000)∧st.Shelves.length=s.Shelves.length∧st.Robots.length=s.Robots.length∧st.People.length≤20∧(∀(i:Nat) r,st.Robots[i]?=some r→RRob s st i r)∧(∀(i:Nat) c,st.Dead[i]?=some c→isC s.Floor c=true)∧(∀(i:Nat) x y,st.Dead[i]?=some x→st.Dead[i+1]?=some y→x<y)∧(∀(i:Nat) x,st.Stuck[i]?=some x→kx s.Floor x.Cell=6∧1≤x.Left∧x.Left≤20000)∧(∀(i:Nat) x y,st.Stuck[i]?=some x→st.Stuck[i+1]?=some y→x.Cell<y.Cell))
  (XN (Ite.mk (fun h1=>Ite.mk (fun _ h=>by cases h) (fun h2=>Ite.mk (fun _ h=>by cases h) (fun h3=>Ite.mk (fun _ h=>by cases h) (fun h4=>Q1C hz (Ite.f rfl (fun h=>by cases h)) (fun h5=>Ite.t rfl (Q3H hz (fun h=>by cases h) (fun h6 h7 h8 h9 _=>⟨by simp at h1;omega,by simp at h2;omega,by simp at h3;omega,by simp at h4;omega,h5,h6,h7,h8,h9⟩))))))) (fun _ h=>by cases h))) (fun b hb=>Ite.mk (fun _=>hF) (fun h=>?_))
 obtain⟨g1,g2,g3,g4,g5,g6,g7,g8,g9⟩:=hb h
 refine Q6y (xs:=st.Shelves) (by unfold maxLen;omega) (fun i x=>carB st i=false→kx s.Floor x=1∨kx s.Floor x=2) (T:=fun i q=>∃x27,idx st.Shelves i=some x27∧Jn (fun (J29:Bool→Prop)=>KN st i (fun x30=>Ite (decide (x30<0)) (X0 s.Floor x27 ([1,2]:List Int) (fun x32=>J29 (!x32))) (J29 false))) q) (fun i x hx q qT qF=>⟨x,Qn rfl hx,Jn.mk' (WS hz (Ite.mk (fun h1=>Q0f (by decide) (by decide) ?_) (fun h1=>qF (fun hc=>?_))))⟩) hF (fun hs=>?_)
 ·cases e:([1,2]:List Int).contains (kx s.Floor x) with
  | true=>exact qF (fun _=>by simpa using e)
  | false=>exact qT
 ·exfalso;unfold carB at hc;simp at h1 hc;omega
 refine Q6y (xs:=st.People) (by unfold maxLen;omega) (fun i x=>kx s.Floor x=4∨kx s.Floor x=5) (T:=fun i q=>∃x49,idx st.People i=some x49∧X0 s.Floor x49 ([4,5]:List Int) (fun x52=>q (!x52))) (fun i x hx q qT qF=>⟨x,Qn rfl hx,Q0f (by decide) (by decide) ?_⟩) hF (fun hp=>?_)
 ·cases e:([4,5]:List Int).contains (kx s.Floor x) with
  | true=>exact qF (by simpa using e)
  | false=>exact qT
 refine Z5 hz (ZO (by have:=Yh hz;omega) (fun n b hb=>?_))
 cases b with
 | true=>exact hF
 | false=>
  refine hT ⟨g1,g2,g3,g4,g5,hs,hp,g6,g7,g8,g9,?_⟩
  by_cases e:(allS st).Nodup
  ·exact e
  ·have:=hb.2 e;cases this
/-! ## a bare site is right -/
theorem Q1J {f:ApiFloor} (h:RF f) {post:Bool→Prop} (hp:post true):Xw f post:=by
 have w1:=h.W1;have w2:=h.H1;have w3:=h.D1;have w4:=h.D4;have w5:=h.W4;have w6:=h.H4;have w7:=h.n4;have w8:=h.kl;have w9:=h.ol
 have e:=Q2q (f:=f) (by omega) (by omega) (by omega) (by omega) (by omega) (by omega)
 unfold Xw Kn
 rw [e.1]
 refine Jor3 (Ite.f ?_ (Jor3 (Ite.f ?_ ?_)))
 ·simp only [Bool.or_eq_false_iff,decide_eq_false_iff_not,Q2u,Q6A];omega
 ·simp only [Bool.or_eq_false_iff,decide_eq_false_iff_not,bne_eq_false_iff_eq];omega
 have hl:f.Kind.length≤maxLen:=by unfold maxLen;omega
 refine Jn.mk (fun _=>True) (Kg hl (fun s=>s) (fun _ _=>True) rfl trivial (fun n x t hx ht _=>?_) (fun _ _=>trivial)) (fun _ _=>hp)
 have hn:=(List.getElem?_eq_some_iff.1 hx).1
 have ho:f.Out[n]?=some (f.Out[n]'(by omega)):=List.getElem?_eq_getElem _
 have hb:=h.ko n x _ hx ho
 refine Jn.mk (fun b=>b=false) (Ite.f (by simp;omega) (Ite.f (by simp;omega) ⟨_,by rw [ht];exact Qn rfl ho,Ite.f (by simp;omega) (by simp;omega)⟩)) (fun b hb=>Ite.f hb ⟨by rw [ht],trivial⟩)
theorem Q04 (k:QX s) (hs:s.Robots.length≤1000000) {nz na ns n:Nat} {m:SurveyMaker} (hI:MInv s nz na ns n m) {x:QC} (hx:s.Robots[n]?=some x) {post:Int×SurveyMaker→Prop} (h200:n<200)
  (h:isC s.Floor x.Cell=true∧0≤x.Charge∧x.Charge≤1000000∧kd s.Floor x.Cell≠0∧rbAt (s.Robots.take n) x.Cell=false) (hT:∀m',MInv s nz na ns (n+1) m'→post (0,m')):QP x m post:=by
 have hn:=(List.getElem?_eq_some_iff.1 hx).1
 have hlen:m.site.Robots.length=n:=by rw [hI.rs];simp;omega
 unfold QP
 refine Ky ?_
 rw [hI.fl,if_pos h.1]
 refine Jn.mk (fun b=>b=false) (Ite.t rfl ?_) (fun b hb=>Ite.f hb (Ite.f (by simpa using h.2.2.2.1) (Ite.f (by rw [hI.robot];exact h.2.2.2.2) (Ite.f (by rw [hlen];simp;omega) ⟨by rw [hlen];simp;omega,hT _ ⟨rfl,hI.zs,hI.aps,hI.sh,?_,hI.names,hI.zoned,hI.shelf,fun c=>?_⟩⟩))))
 ·unfold KZ;refine Zd ?_
  rw [decide_eq_true (show x.Charge≥0 from h.2.1),decide_eq_true h.2.2.1];rfl
 ·show m.site.Robots++[x]=_;rw [hI.rs,Qz hx]
 ·show (lk (upd m.robot x.Cell true) c).getD false=_
  rw [Wb,Qz hx,Q4R]
  by_cases e:x.Cell=c
  ·rw [if_pos e];simp [e]
  ·rw [if_neg e,hI.robot];simp [e]
/-! ## bounds -/
end
end Go.Taq
