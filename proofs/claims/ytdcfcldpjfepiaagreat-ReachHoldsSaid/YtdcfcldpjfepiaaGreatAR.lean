/- The mathematics, several parts in one text. -/
import Derived.Test.YtdcfcldpjfepiaaGreatAA
import Derived.Test.YtdcfcldpjfepiaaGreatNE
import Derived.Test.YtdcfcldpjfepiaaGreatVc
import Derived.IntWalk
/- The mathematics, part AB: faults: which can happen, and what they do (arena.Possible, Happen and their references). -/
set_option linter.unusedVariables false
set_option linter.unusedSimpArgs false
namespace Go.Taq
open Go
def k0 (f:ApiFloor) (c:Int):Int:=if isC f c=true then kd f c else 0
def YF (st:ApiState) (i:Int):Bool:=decide (0≤i)&&decide (i<st.Robots.length)&&!(st.Robots.getD i.toNat default).Dead
def Q2J (n:Int):Bool:=decide (n≥1)&&decide (n≤20000)
def Q3h (s:ApiSite) (st:ApiState) (a c:Int):Bool:=
 (k0 s.Floor c == 4||k0 s.Floor c == 5)&&(!(allS st).contains (low c)&&!(allS st).contains (high c)) &&
 (if a=st.People.length then k0 s.Floor c == 5&&decide (a<20) else decide (0≤a)&&decide (a<st.People.length)&&Q0n s.Floor (st.People.getD a.toNat 0) c)
def X5 (s:ApiSite) (st:ApiState) (f:QM):Bool:=
 if f.Kind=0 then true else if f.Kind=1 then YF st f.A else if f.Kind=2 then k0 s.Floor f.A != 0&&!st.Dead.contains f.A
 else if f.Kind=3 then YF st f.A&&Q2J f.N else if f.Kind=4 then k0 s.Floor f.A == 6&&Q2J f.N else if f.Kind=5 then Q3h s st f.A f.N else false
section
variable {s:ApiSite} {st:ApiState}
theorem Q4p {i:Int} {n:Nat} {r:ApiRobot} (hi:i=n) (h:st.Robots[n]?=some r):st.Robots.getD i.toNat default=r:=by subst hi;exact Wi h
theorem Q0J {i:Int} {post:Bool→Prop} (hp:post (YF st i)):Gc st i post:=by
 unfold Gc
 refine Jn.mk' (Ite.mk (fun h1=>Ite.mk (fun h2=>?_) (fun h2=>?_)) (fun h1=>?_))
 ·have h1':0≤i:=by simpa using h1
  obtain⟨n,hn⟩:=Int.eq_ofNat_of_zero_le h1'
  have h2':i<(st.Robots.length:Int):=by simpa using h2
  have hx:=List.getElem?_eq_getElem (show n<st.Robots.length by omega)
  refine⟨_,QD hn hx,?_⟩
  have:YF st i=!(st.Robots[n]).Dead:=by unfold YF;rw [Q4p hn hx];simp [h1',h2']
  rw [←this];exact hp
 ·have:YF st i=false:=by unfold YF;rw [h2];simp
  rw [←this];exact hp
 ·have:YF st i=false:=by unfold YF;have:decide (0≤i)=false:=by simpa using h1
                         rw [this];simp
  rw [←this];exact hp
theorem Q7M {f:ApiFloor} {c:Int} {post:Int→Prop} (hp:post (k0 f c)):
  Jn (fun (J4:Bool→Prop)=>Ite (decide (c<0)) (J4 true) (J4 (decide (c≥(f.Kind.length:Int))))) (fun (x3:Bool)=>Ite x3 (post 0) (∃x11,idx f.Kind c=some x11∧post x11)):=by
 unfold k0 at hp
 refine Jn.mk (fun b=>b=!isC f c) (Ite.mk (fun h=>?_) (fun h=>?_)) (fun b hb=>Ite.mk (fun h=>?_) (fun h=>?_))
 ·rw [Q43.2 (by simp at h;omega)];rfl
 ·cases e:isC f c with
  | true=>have:=QN.1 e;simp;omega
  | false=>have:=Q43.1 e;simp at h ⊢;omega
 ·rw [h] at hb
  have:isC f c=false:=by simpa using hb.symm
  rw [this] at hp;exact hp
 ·rw [h] at hb
  have:isC f c=true:=by simpa using hb.symm
  rw [if_pos this] at hp
  exact⟨_,WP this,hp⟩
theorem YH {f:ApiFloor} {c:Int} {post:Int→Prop} (hp:post (k0 f c)):XM f c post:=by unfold XM;exact Q7M hp
theorem Q38 (hf:RF s.Floor) (hz:Sz st) {a c:Int} {post:Bool→Prop} (hp:post (Q3h s st a c)):Gk s st a c post:=by
 unfold Gk KL Kd
 unfold Q3h at hp
 refine YH (Jn.mk (fun b=>b=!(k0 s.Floor c == 4||k0 s.Floor c == 5)) (Ite.mk (fun h=>?_) (fun h=>?_)) (fun b hb=>Ite.mk (fun h=>?_) (fun h=>?_)))
 ·have:(k0 s.Floor c == 4)=false:=by simpa using h
  rw [this];simp [bne]
 ·have:(k0 s.Floor c == 4)=true:=by simpa using h
  rw [this];rfl
 ·rw [h] at hb
  have:(k0 s.Floor c == 4||k0 s.Floor c == 5)=false:=by cases e:(k0 s.Floor c == 4||k0 s.Floor c == 5) with
   | false=>rfl
   | true=>rw [e] at hb;cases hb
  rw [this] at hp;simpa using hp
 ·rw [h] at hb
  have:(k0 s.Floor c == 4||k0 s.Floor c == 5)=true:=by cases e:(k0 s.Floor c == 4||k0 s.Floor c == 5) with
   | true=>rfl
   | false=>rw [e] at hb;cases hb
  rw [this,Bool.true_and] at hp
  refine Q26 hz (fun l hl=>?_)
  rw [←Gj hl,←Gj hl] at hp
  have hll:l.length≤maxLen:=by have:=hl.length_eq;have:=Za hz;unfold maxLen;omega
  have hany:(l.any fun x=>x == low c||x == high c)=!(!l.contains (low c)&&!l.contains (high c)):=by
   cases e1:l.contains (low c) with
   | true=>
    have h1:low c∈l:=by simpa using e1
    show _=true
    exact List.any_eq_true.2 ⟨_,h1,by simp⟩
   | false=>
    cases e2:l.contains (high c) with
    | true=>
     have h1:high c∈l:=by simpa using e2
     show _=true
     exact List.any_eq_true.2 ⟨_,h1,by simp⟩
    | false=>
     have h1:low c∉l:=by simpa using e1
     have h2:high c∉l:=by simpa using e2
     show _=false
     cases e3:(l.any fun x=>x == low c||x == high c) with
     | false=>rfl
     | true=>
      obtain⟨x,hx,h⟩:=List.any_eq_true.1 e3
      simp at h
      rcases h with h | h <;> subst h
      ·exact absurd hx h1
      ·exact absurd hx h2
  refine Jn.mk (fun _=>(l.any fun x=>x == low c||x == high c)=false) (Km (xs:=l) hll (fun t:Int=>t) (fun i _=>∀x,x∈l.take i→(x == low c||x == high c)=false) rfl (fun x hx=>by simp at hx) (fun i x t hx ht hI=>?_) (fun t hI=>?_)) (fun _ hn=>?_)
  ·refine Jn.mk (fun b=>b=(x == low c||x == high c)) (Ite.mk (fun h1=>?_) (fun h1=>?_)) (fun b hb=>Ite.mk (fun h2=>?_) (fun h2=>⟨by rw [ht],fun y hy=>?_⟩))
   ·have:(x == low c)=true:=h1
    rw [this];rfl
   ·have:(x == low c)=false:=h1
    rw [this];rfl
   ·have:(l.any fun x=>x == low c||x == high c)=true:=List.any_eq_true.2 ⟨x,List.mem_of_getElem? hx,by rw [←hb];exact h2⟩
    rw [hany] at this
    have:(!l.contains (low c)&&!l.contains (high c))=false:=by
     cases e:(!l.contains (low c)&&!l.contains (high c)) with
     | false=>rfl
     | true=>rw [e] at this;cases this
    rw [this] at hp;exact hp
   ·rw [QL hx] at hy
    rcases List.mem_append.1 hy with h | h
    ·exact hI y h
    ·simp at h;subst h;rw [←hb];exact h2
  ·rw [List.take_length] at hI
   cases e:(l.any fun x=>x == low c||x == high c) with
   | false=>rfl
   | true=>obtain⟨x,hx,h⟩:=List.any_eq_true.1 e;rw [hI x hx] at h;cases h
  ·rw [hany] at hn
   have:(!l.contains (low c)&&!l.contains (high c))=true:=by
    cases e:(!l.contains (low c)&&!l.contains (high c)) with
    | true=>rfl
    | false=>rw [e] at hn;cases hn
   rw [this,Bool.true_and] at hp
   refine Ite.mk (fun h1=>?_) (fun h1=>?_)
   ·rw [if_pos (by simpa using h1)] at hp
    exact Q0t hp
   ·rw [if_neg (by simpa using h1)] at hp
    refine Jn.mk' (Ite.mk (fun h2=>Ite.mk (fun h3=>?_) (fun h3=>?_)) (fun h2=>?_))
    ·have h2':0≤a:=by simpa using h2
     obtain⟨n,hn⟩:=Int.eq_ofNat_of_zero_le h2'
     have h3':a<(st.People.length:Int):=by simpa using h3
     have hx:=List.getElem?_eq_getElem (show n<st.People.length by omega)
     have e:∀y,st.People[n]?=some y→st.People.getD a.toNat 0=y:=fun y hy=>by rw [hn];exact Gv hy
     rw [e _ hx] at hp
     refine⟨_,QD hn hx,Q0L hf ?_⟩
     rw [decide_eq_true h2',decide_eq_true h3'] at hp;exact hp
    ·rw [h3] at hp;simpa using hp
    ·have:decide (0≤a)=false:=by simpa using h2
     rw [this] at hp;simpa using hp
theorem Q6s {f:QM} (h:f.Kind=0):X5 s st f=true:=by unfold X5;rw [if_pos h]
theorem Q4j {f:QM} (h:f.Kind=1):X5 s st f=YF st f.A:=by unfold X5;rw [if_neg (by omega),if_pos h]
theorem Q6c {f:QM} (h:f.Kind=2):X5 s st f=(k0 s.Floor f.A != 0&&!st.Dead.contains f.A):=by unfold X5;rw [if_neg (by omega),if_neg (by omega),if_pos h]
theorem Q49 {f:QM} (h:f.Kind=3):X5 s st f=(YF st f.A&&Q2J f.N):=by unfold X5;rw [if_neg (by omega),if_neg (by omega),if_neg (by omega),if_pos h]
theorem Q5H {f:QM} (h:f.Kind=4):X5 s st f=(k0 s.Floor f.A == 6&&Q2J f.N):=by unfold X5;rw [if_neg (by omega),if_neg (by omega),if_neg (by omega),if_neg (by omega),if_pos h]
theorem Q4f {f:QM} (h:f.Kind=5):X5 s st f=Q3h s st f.A f.N:=by unfold X5;rw [if_neg (by omega),if_neg (by omega),if_neg (by omega),if_neg (by omega),if_neg (by omega),if_pos h]
theorem Q34 {f:QM} (h0:f.Kind≠0) (h1:f.Kind≠1) (h2:f.Kind≠2) (h3:f.Kind≠3) (h4:f.Kind≠4) (h5:f.Kind≠5):X5 s st f=false:=by
 unfold X5;rw [if_neg h0,if_neg h1,if_neg h2,if_neg h3,if_neg h4,if_neg h5]
def Q3d (s:ApiSite) (st:ApiState) (f:QM):Int:=if X5 s st f=true then 0 else 26
theorem Yu (hf:RF s.Floor) (hz:Sz st) {f:QM} {post:Int→Prop} (hp:post (Q3d s st f)):KM s st f post:=by
 unfold KM
 refine Jn.mk (fun b=>b=Q2J f.N) (Ite.mk (fun h=>?_) (fun h=>?_)) (fun lg hlg=>?_)
 ·unfold Q2J;rw [h];rfl
 ·unfold Q2J;rw [h];rfl
 refine Jn.mk (fun b=>b=X5 s st f) ?_ (fun b hb=>?_)
 rotate_left
 ·unfold Q3d at hp
  refine Ite.mk (fun h=>?_) (fun h=>?_)
  ·have:b=false:=by simpa using h
   rw [this] at hb;rw [←hb,if_neg (by simp)] at hp;exact hp
  ·have:b=true:=by simpa using h
   rw [this] at hb;rw [←hb,if_pos rfl] at hp;exact hp
 refine Ite.mk (fun h=>(Q6s (by simpa using h)).symm) (fun h0=>Jn.mk' (Ite.mk (fun h=>?_) (fun h1=>Jn.mk' (Ite.mk (fun h=>?_) (fun h2=>Jn.mk' (Ite.mk (fun h=>?_) (fun h3=>Jn.mk' (Ite.mk (fun h=>?_) (fun h4=>Jn.mk' (Ite.mk (fun h=>?_) (fun h5=>?_)))))))))))
 ·exact Q0J (Q4j (by simpa using h)).symm
 ·have e:=Q6c (s:=s) (st:=st) (f:=f) (by simpa using h)
  refine Jn.mk' (YH (Ite.mk (fun h=>Kc (by have:=hz.dd;unfold maxLen;omega) ?_) (fun h=>?_)))
  ·show _=X5 s st f
   rw [e,h];rfl
  ·show _=X5 s st f
   rw [e,h];rfl
 ·have e:=Q49 (s:=s) (st:=st) (f:=f) (by simpa using h)
  refine Jn.mk' (Q0J (Ite.mk (fun h=>?_) (fun h=>?_)))
  ·show _=X5 s st f
   rw [e,h,hlg];rfl
  ·show _=X5 s st f
   rw [e,h];rfl
 ·have e:=Q5H (s:=s) (st:=st) (f:=f) (by simpa using h)
  refine Jn.mk' (YH (Ite.mk (fun h=>?_) (fun h=>?_)))
  ·show _=X5 s st f
   rw [e,h,hlg];rfl
  ·show _=X5 s st f
   rw [e,h];rfl
 ·exact Q38 hf hz (Q4f (by simpa using h)).symm
 ·exact (Q34 (by simpa using h0) (by simpa using h1) (by simpa using h2) (by simpa using h3) (by simpa using h4) (by simpa using h5)).symm
/-! ## what happens -/
def srtI (l:List Int):List Int:=l.mergeSort fun x y=>decide (x≤y)
theorem Q3N (l:List Int):List.Perm (srtI l) l:=List.mergeSort_perm _ _
theorem Q7x (l:List Int):(srtI l).Pairwise (·≤·):=by
 have:=List.pairwise_mergeSort (le:=fun x y:Int=>decide (x≤y)) (fun a b c h1 h2=>by simp at *;omega) (fun a b=>by simp;omega) l
 exact this.imp (fun h=>by simpa using h)
def X4 (c n:Int):List ApiStuck→List ApiStuck
 | []=>[{Cell:=c,Left:=n}]
 | x :: r=>if x.Cell<c then x :: X4 c n r else if x.Cell=c then {Cell:=c,Left:=imax x.Left n} :: r else {Cell:=c,Left:=n} :: x :: r
theorem Q0e {c n:Int}:∀{p:List ApiStuck} (q:List ApiStuck),(∀x,x∈p→x.Cell<c)→X4 c n (p++q)=p++X4 c n q
 | [],_,_=>rfl
 | x :: p,q,h=>by
  show X4 c n (x :: (p++q))=_
  rw [X4,if_pos (h x (by simp)),Q0e q (fun y hy=>h y (by simp [hy]))];rfl
theorem Q27 (c n:Int):∀l:List ApiStuck,l.length≤(X4 c n l).length∧(X4 c n l).length≤l.length+1
 | []=>by simp [X4]
 | x :: r=>by
  have:=Q27 c n r
  unfold X4;split
  ·simp;omega
  ·split <;> simp
theorem Q36 {c n:Int} {l:List ApiStuck} (hl:l.length≤1000) {post:List ApiStuck→Prop} (hp:post (X4 c n l)):Xg c n l post:=by
 unfold Xg Qs
 refine Zx (xs:=l) (by unfold maxLen;omega) (fun x:ApiStuck=>decide (x.Cell≥c)) (T:=fun x q=>XD x c q) (fun x _ q hq=>by unfold XD;exact hq) (post:=fun m=>Ite (decide (m<0)) _ _) ?_
 rcases XR (fun x:ApiStuck=>decide (x.Cell≥c)) l with ⟨i,x,hx,e,hpx,hb⟩ | ⟨e,hb⟩
 ·rw [e]
  have hlt:=(List.getElem?_eq_some_iff.1 hx).1
  have hsplit:l=l.take i++x :: l.drop (i+1):=by
   have h1:=(List.getElem?_eq_some_iff.1 hx).2
   conv=>lhs;rw [←List.take_append_drop i l]
   rw [List.drop_eq_getElem_cons hlt,h1]
  have hlow:∀y,y∈l.take i→y.Cell<c:=fun y hy=>by
   obtain⟨j,hj⟩:=List.getElem?_of_mem hy
   have hjl:=(List.getElem?_eq_some_iff.1 hj).1
   rw [List.length_take] at hjl
   rw [List.getElem?_take,if_pos (by omega)] at hj
   have:=hb j y (by omega) hj
   simpa using this
  have hpx':c≤x.Cell:=by simpa using hpx
  have est:X4 c n l=l.take i++X4 c n (x :: l.drop (i+1)):=by
   conv=>lhs;rw [hsplit]
   exact Q0e _ hlow
  refine Ite.f (decide_eq_false (by omega)) ⟨x,QD rfl hx,Ite.mk (fun h=>?_) (fun h=>?_)⟩
  ·have hc:x.Cell=c:=by simpa using h
   have:l.set (Int.toNat (i:Int)) {Cell:=x.Cell,Left:=imax x.Left n}=X4 c n l:=by
    rw [est,X4,if_neg (by omega),if_pos hc]
    show l.set i _=_
    conv=>lhs;rw [hsplit]
    have hti:(l.take i).length=i:=by rw [List.length_take];omega
    rw [List.set_append,if_neg (by omega),hti,Nat.sub_self,List.set_cons_zero,hc]
   rw [this];exact hp
  ·have hc:x.Cell≠c:=by simpa using h
   unfold QI
   refine⟨by omega,by simp,by rw [List.length_singleton];omega,?_⟩
   have:l.take (Int.toNat (i:Int))++([{Cell:=c,Left:=n}]++l.drop (Int.toNat (i:Int)))=X4 c n l:=by
    rw [est,X4,if_neg (by omega),if_neg hc]
    show l.take i++([_]++l.drop i)=_
    rw [List.drop_eq_getElem_cons hlt,(List.getElem?_eq_some_iff.1 hx).2];rfl
   rw [this];exact hp
 ·rw [e]
  refine Ite.t (by decide) ⟨by simp;omega,?_⟩
  have:X4 c n l=l++X4 c n []:=by
   have:=Q0e (n:=n) (p:=l) [] (fun x hx=>by simpa using hb x hx)
   simpa using this
  rw [this] at hp;exact hp
end
end Go.Taq
/- The mathematics, part AC: what a fault does (arena.Happen and its reference). -/
set_option linter.unusedVariables false
set_option linter.unusedSimpArgs false
namespace Go.Taq
open Go
def setR (st:ApiState) (i:Int) (r:ApiRobot):ApiState:={st with Robots:=st.Robots.set i.toNat r}
def rAt (st:ApiState) (i:Int):ApiRobot:=st.Robots.getD i.toNat default
def Wc (s:ApiSite) (st:ApiState) (f:QM):ApiState:=
 if X5 s st f=false then st
 else if f.Kind=1 then setR st f.A {rAt st f.A with Dead:=true}
 else if f.Kind=2 then {st with Dead:=srtI (st.Dead++[f.A])}
 else if f.Kind=3 then setR st f.A {rAt st f.A with Mute:=f.N}
 else if f.Kind=4 then {st with Stuck:=X4 f.A f.N st.Stuck}
 else if f.Kind=5 then {st with People:=if f.A=st.People.length then st.People++[f.N] else st.People.set f.A.toNat f.N}
 else st
theorem Q8M {α:Type} {l:List α} {g:α→Int} (h:∀(i:Nat) x y,l[i]?=some x→l[i+1]?=some y→g x<g y):∀(i j:Nat) x y,i<j→l[i]?=some x→l[j]?=some y→g x<g y:=by
 intro i j
 induction j with
 | zero=>intro x y h0;omega
 | succ j ih=>
  intro x y hij hx hy
  by_cases e:i=j
  ·subst e;exact h i x y hx hy
  ·have hjl:=(List.getElem?_eq_some_iff.1 hy).1
   have hz:=List.getElem?_eq_getElem (show j<l.length by omega)
   have h1:=ih x _ (by omega) hx hz
   have h2:=h j _ y hz hy
   omega
section
variable {s:ApiSite} {st:ApiState}
theorem Q4m {f:QM} (h:X5 s st f=false):Wc s st f=st:=by unfold Wc;rw [if_pos h]
theorem Q6f {f:QM} (h:f.Kind=0):Wc s st f=st:=by unfold Wc;rw [if_neg (by rw [Q6s h];simp),if_neg (by omega),if_neg (by omega),if_neg (by omega),if_neg (by omega),if_neg (by omega)]
theorem Q5t {f:QM} (hb:X5 s st f=true) (h:f.Kind=1):Wc s st f=setR st f.A {rAt st f.A with Dead:=true}:=by unfold Wc;rw [if_neg (by rw [hb];simp),if_pos h]
theorem Q5J {f:QM} (hb:X5 s st f=true) (h:f.Kind=2):Wc s st f={st with Dead:=srtI (st.Dead++[f.A])}:=by unfold Wc;rw [if_neg (by rw [hb];simp),if_neg (by omega),if_pos h]
theorem Q5V {f:QM} (hb:X5 s st f=true) (h:f.Kind=3):Wc s st f=setR st f.A {rAt st f.A with Mute:=f.N}:=by unfold Wc;rw [if_neg (by rw [hb];simp),if_neg (by omega),if_neg (by omega),if_pos h]
theorem Q5Q {f:QM} (hb:X5 s st f=true) (h:f.Kind=4):Wc s st f={st with Stuck:=X4 f.A f.N st.Stuck}:=by unfold Wc;rw [if_neg (by rw [hb];simp),if_neg (by omega),if_neg (by omega),if_neg (by omega),if_pos h]
theorem Q4V {f:QM} (hb:X5 s st f=true) (h:f.Kind=5):Wc s st f={st with People:=if f.A=st.People.length then st.People++[f.N] else st.People.set f.A.toNat f.N}:=by unfold Wc;rw [if_neg (by rw [hb];simp),if_neg (by omega),if_neg (by omega),if_neg (by omega),if_neg (by omega),if_pos h]
theorem Q0d {i:Int} (h:YF st i=true):∃(n:Nat) (r:ApiRobot),i=n∧st.Robots[n]?=some r∧r.Dead=false∧rAt st i=r:=by
 unfold YF at h
 simp only [Bool.and_eq_true,decide_eq_true_eq] at h
 obtain⟨⟨h1,h2⟩,h3⟩:=h
 obtain⟨n,hn⟩:=Int.eq_ofNat_of_zero_le h1
 have hx:=List.getElem?_eq_getElem (show n<st.Robots.length by omega)
 rw [Q4p hn hx] at h3
 exact⟨n,_,hn,hx,by simpa using h3,Q4p hn hx⟩
theorem Q6p {a c:Int} (h:Q3h s st a c=true):a=st.People.length∨∃n:Nat,a=n∧n<st.People.length:=by
 unfold Q3h at h
 simp only [Bool.and_eq_true] at h
 by_cases e:a=st.People.length
 ·exact .inl e
 ·rw [if_neg e] at h
  simp only [Bool.and_eq_true,decide_eq_true_eq] at h
  obtain⟨n,hn⟩:=Int.eq_ofNat_of_zero_le h.2.1.1
  exact .inr ⟨n,hn,by omega⟩
theorem Q02 {f:QM}:Q3d s st f=0↔X5 s st f=true:=by
 unfold Q3d;cases X5 s st f <;> simp
def st4 (st:ApiState) (t:List ApiRobot×List Int×List Int×List ApiStuck):ApiState:={st with Robots:=t.1,People:=t.2.1,Dead:=t.2.2.1,Stuck:=t.2.2.2}
theorem Q1G (hf:RF s.Floor) (hz:Sz st) {f:QM} {post:ApiState→Prop} (hp:post (Wc s st f)):XY s st f post:=by
 unfold XY
 refine YQ hz (Yu hf hz (Ite.mk (fun h=>?_) (fun h=>?_)))
 ·have:X5 s st f=false:=by
   have h1:Q3d s st f≠0:=by simpa using h
   cases e:X5 s st f with
   | false=>rfl
   | true=>exact absurd (Q02.2 e) h1
  rw [Q4m this] at hp;exact hp
 have hb:X5 s st f=true:=Q02.1 (by simpa using h)
 have q3:=hz.pp;have q4:=hz.dd;have q5:=hz.sk
 refine Jn.mk (fun t=>st4 st t=Wc s st f) ?_ (fun t ht=>by rw [←ht] at hp;exact hp)
 refine Ite.mk (fun h1=>?_) (fun h1=>Jn.mk' (Ite.mk (fun h2=>?_) (fun h2=>Jn.mk' (Ite.mk (fun h3=>?_) (fun h3=>Jn.mk' (Ite.mk (fun h4=>?_) (fun h4=>Jn.mk' (Ite.mk (fun h5=>?_) (fun h5=>?_)))))))))
 ·have e:f.Kind=1:=by simpa using h1
  have hl:=hb;rw [Q4j e] at hl
  obtain⟨n,r,hn,hx,_,hr⟩:=Q0d hl
  refine⟨r,QD hn hx,?_⟩
  rw [Q5t hb e,hr];rfl
 ·have e:f.Kind=2:=by simpa using h2
  unfold Qf
  refine⟨by simp;omega,by simp;omega,?_⟩
  show st4 st _=_
  rw [Q5J hb e];rfl
 ·have e:f.Kind=3:=by simpa using h3
  have hl:=hb;rw [Q49 e,Bool.and_eq_true] at hl
  obtain⟨n,r,hn,hx,_,hr⟩:=Q0d hl.1
  refine⟨r,QD hn hx,?_⟩
  show st4 st _=_
  rw [Q5V hb e,hr];rfl
 ·have e:f.Kind=4:=by simpa using h4
  refine Q36 q5 ?_
  show st4 st _=_
  rw [Q5Q hb e];rfl
 ·have e:f.Kind=5:=by simpa using h5
  have hl:=hb;rw [Q4f e] at hl
  refine Jn.mk (fun l=>l=if f.A=st.People.length then st.People++[f.N] else st.People) (Ite.mk (fun h6=>⟨by simp;omega,by rw [if_pos (by simpa using h6)]⟩) (fun h6=>by rw [if_neg (by simpa using h6)])) (fun l hl2=>?_)
  rcases Q6p hl with hA | ⟨n,hA,hn⟩
  ·rw [if_pos hA] at hl2
   refine⟨f.N,?_,?_⟩
   ·rw [hl2];exact QD hA (by simp)
   ·show st4 st _=_
    rw [Q4V hb e,if_pos hA,hl2,hA]
    show st4 st (st.Robots,(st.People++[f.N]).set st.People.length f.N,st.Dead,st.Stuck)=_
    rw [Q8f];rfl
  ·rw [if_neg (by omega)] at hl2
   subst hl2
   refine⟨_,QD hA (List.getElem?_eq_getElem hn),?_⟩
   show st4 st _=_
   rw [Q4V hb e,if_neg (by omega)];rfl
 ·show st4 st _=_
  by_cases e:f.Kind=0
  ·rw [Q6f e];rfl
  ·have:=Q34 (s:=s) (st:=st) e (by simpa using h1) (by simpa using h2) (by simpa using h3) (by simpa using h4) (by simpa using h5)
   rw [this] at hb;cases hb
end
end Go.Taq
/- The mathematics, part AD: what happens, and what robots do, leaves a state right. -/
set_option linter.unusedVariables false
set_option linter.unusedSimpArgs false
namespace Go.Taq
open Go
def CL (r:ApiRobot):Int×Int:=(r.Cell,r.Load)
theorem Q4s {α β:Type} (p:β→Bool) (g:α→β) (xs:List α):fidx p (xs.map g)=fidx (fun x=>p (g x)) xs:=by
 unfold fidx;rw [List.findIdx?_map];rfl
section
variable {s:ApiSite} {st st':ApiState}
theorem Q7k (hcl:st'.Robots.map CL=st.Robots.map CL) {i:Nat} {r':ApiRobot} (h:st'.Robots[i]?=some r'):∃r,st.Robots[i]?=some r∧r'.Cell=r.Cell∧r'.Load=r.Load:=by
 have h1:(st'.Robots.map CL)[i]?=some (CL r'):=by rw [List.getElem?_map,h];rfl
 rw [hcl,List.getElem?_map] at h1
 cases e:st.Robots[i]? with
 | none=>rw [e] at h1;cases h1
 | some r=>
  rw [e] at h1
  have:=Option.some.inj h1
  unfold CL at this
  injection this with a b
  exact⟨r,rfl,a.symm,b.symm⟩
theorem Q5P (hcl:st'.Robots.map CL=st.Robots.map CL):st'.Robots.length=st.Robots.length:=by
 have:=congrArg List.length hcl;simpa using this
theorem Q67 (hcl:st'.Robots.map CL=st.Robots.map CL) (a:Int):carr st' a=carr st a:=by
 have h1:∀t:ApiState,fidx (fun z:ApiRobot=>z.Load == a) t.Robots=fidx (fun q:Int×Int=>q.2 == a) (t.Robots.map CL):=fun t=>by rw [Q4s];rfl
 unfold carr;rw [h1,h1,hcl]
theorem Q6q (hcl:st'.Robots.map CL=st.Robots.map CL) (i:Nat):carB st' i=carB st i:=by unfold carB;rw [Q67 hcl]
theorem Q9j (hcl:st'.Robots.map CL=st.Robots.map CL) (i:Nat):slR (st'.Robots.getD i default)=slR (st.Robots.getD i default):=by
 have hl:=Q5P hcl
 cases e:st'.Robots[i]? with
 | none=>
  have:st.Robots[i]?=none:=by rw [List.getElem?_eq_none_iff] at e ⊢;omega
  rw [List.getD_eq_getElem?_getD,List.getD_eq_getElem?_getD,e,this]
 | some r'=>
  obtain⟨r,hr,h1,h2⟩:=Q7k hcl e
  rw [Wi e,Wi hr];unfold slR;rw [h1,h2]
theorem Q5R (hcl:st'.Robots.map CL=st.Robots.map CL) (hsh:st'.Shelves=st.Shelves) (hpp:st'.People=st.People):allS st'=allS st:=by
 unfold allS
 rw [Q5P hcl,hsh,hpp]
 congr 1
 congr 1
 ·exact ZM fun j _=>Q9j hcl j
 ·exact ZM fun j _=>by unfold slS;rw [Q6q hcl,hsh]
theorem ZQ (h:RSt s st) (hcl:st'.Robots.map CL=st.Robots.map CL) (hsh:st'.Shelves=st.Shelves) (hpp:st'.People=st.People) (ht:0≤st'.Tick∧st'.Tick≤20000)
  (hr:∀(i:Nat) r,st'.Robots[i]?=some r→(0≤r.Charge∧r.Charge≤1000000)∧(0≤r.Rest∧r.Rest≤20000)∧(0≤r.Mute∧r.Mute≤20000))
  (hd:∀(i:Nat) c,st'.Dead[i]?=some c→isC s.Floor c=true) (hdA:∀(i:Nat) x y,st'.Dead[i]?=some x→st'.Dead[i+1]?=some y→x<y)
  (hk:∀(i:Nat) x,st'.Stuck[i]?=some x→kx s.Floor x.Cell=6∧1≤x.Left∧x.Left≤20000) (hkA:∀(i:Nat) x y,st'.Stuck[i]?=some x→st'.Stuck[i+1]?=some y→x.Cell<y.Cell):RSt s st' where
 tick:=ht
 sl:=by rw [hsh];exact h.sl
 rl:=by rw [Q5P hcl];exact h.rl
 pl:=by rw [hpp];exact h.pl
 rob:=fun i r' hi=>by
  obtain⟨r,hr2,h1,h2⟩:=Q7k hcl hi
  have hR:=h.rob i r hr2
  obtain⟨b1,b2,b3⟩:=hr i r' hi
  exact⟨by rw [h1];exact hR.cell,by rw [h1];exact hR.kind,by rw [h2,hsh];exact hR.load,b1,b2,b3,fun h0=>by rw [h2,Q67 hcl,hsh,h1];exact hR.own (by rw [←h2];exact h0)⟩
 shel:=fun i c hi hc=>by rw [hsh] at hi;rw [Q6q hcl] at hc;exact h.shel i c hi hc
 ppl:=fun i c hi=>by rw [hpp] at hi;exact h.ppl i c hi
 dead:=hd
 deadA:=hdA
 stuck:=hk
 stuckA:=hkA
 clash:=by rw [Q5R hcl hsh hpp];exact h.clash
theorem Q2l {n:Nat} {r y:ApiRobot} (hx:st.Robots[n]?=some r) (hc:y.Cell=r.Cell) (hl:y.Load=r.Load):(st.Robots.set n y).map CL=st.Robots.map CL:=by
 rw [List.map_set]
 have:CL y=CL r:=by unfold CL;rw [hc,hl]
 rw [this]
 exact Q4N (by rw [List.getElem?_map,hx];rfl)
theorem Q5T {n:Nat} {r y:ApiRobot} (h:RSt s st) (hx:st.Robots[n]?=some r) (hy:(0≤y.Charge∧y.Charge≤1000000)∧(0≤y.Rest∧y.Rest≤20000)∧(0≤y.Mute∧y.Mute≤20000)):
  ∀(i:Nat) z,(st.Robots.set n y)[i]?=some z→(0≤z.Charge∧z.Charge≤1000000)∧(0≤z.Rest∧z.Rest≤20000)∧(0≤z.Mute∧z.Mute≤20000):=fun i z hz=>by
 rcases Zy hz with ⟨_,_,e⟩ | ⟨_,e⟩
 ·subst e;exact hy
 ·have:=h.rob i z e;exact⟨this.charge,this.rest,this.mute⟩
theorem Q77 {f:ApiFloor} {c:Int} {n:Int} (hn:n≠0) (h:k0 f c=n):isC f c=true∧kx f c=n:=by
 unfold k0 at h
 cases e:isC f c with
 | true=>rw [if_pos e] at h;unfold kx;rw [if_pos e];exact⟨rfl,h⟩
 | false=>rw [e] at h;simp at h;omega
theorem Q2o {c n:Int} {l:List ApiStuck} {x:ApiStuck} (h:x∈X4 c n l):x∈l∨x.Cell=c∧(x.Left=n∨∃y,y∈l∧x.Left=imax y.Left n):=by
 induction l with
 | nil=>simp [X4] at h;subst h;exact .inr ⟨rfl,.inl rfl⟩
 | cons y r ih=>
  unfold X4 at h
  split at h
  ·rcases List.mem_cons.1 h with e | e
   ·subst e;exact .inl (by simp)
   ·rcases ih e with h1 | ⟨h1,h2⟩
    ·exact .inl (by simp [h1])
    ·refine .inr ⟨h1,?_⟩
     rcases h2 with h2 | ⟨z,hz,h2⟩
     ·exact .inl h2
     ·exact .inr ⟨z,by simp [hz],h2⟩
  ·split at h
   ·rcases List.mem_cons.1 h with e | e
    ·subst e;exact .inr ⟨rfl,.inr ⟨y,by simp,rfl⟩⟩
    ·exact .inl (by simp [e])
   ·rcases List.mem_cons.1 h with e | e
    ·subst e;exact .inr ⟨rfl,.inl rfl⟩
    ·exact .inl e
theorem Q5E {c n:Int} {l:List ApiStuck} (h:l.Pairwise (fun x y=>x.Cell<y.Cell)):(X4 c n l).Pairwise (fun x y=>x.Cell<y.Cell):=by
 induction l with
 | nil=>simp [X4]
 | cons y r ih=>
  have h':=List.pairwise_cons.1 h
  unfold X4
  split
  ·rename_i hc
   refine List.pairwise_cons.2 ⟨fun z hz=>?_,ih h'.2⟩
   rcases Q2o hz with e | ⟨e,_⟩
   ·exact h'.1 z e
   ·omega
  ·split
   ·rename_i hc
    exact List.pairwise_cons.2 ⟨fun z hz=>by have:=h'.1 z hz;show c<_;omega,h'.2⟩
   ·refine List.pairwise_cons.2 ⟨fun z hz=>?_,h⟩
    show c<_
    rcases List.mem_cons.1 hz with e | e
    ·subst e;omega
    ·have:=h'.1 z e;omega
theorem Q17 {α:Type} {l:List α} {g:α→Int} (h:∀(i:Nat) x y,l[i]?=some x→l[i+1]?=some y→g x<g y):l.Pairwise (fun x y=>g x<g y):=
 List.pairwise_iff_getElem.2 fun i j hi hj hij=>Q8M h i j _ _ hij (List.getElem?_eq_getElem hi) (List.getElem?_eq_getElem hj)
theorem Q1E {α:Type} {l:List α} {g:α→Int} (h:l.Pairwise (fun x y=>g x<g y)) (i:Nat) (x y:α) (hx:l[i]?=some x) (hy:l[i+1]?=some y):g x<g y:=by
 obtain⟨h1,e1⟩:=List.getElem?_eq_some_iff.1 hx
 obtain⟨h2,e2⟩:=List.getElem?_eq_some_iff.1 hy
 have:=List.pairwise_iff_getElem.1 h i (i+1) h1 h2 (by omega)
 rw [e1,e2] at this;exact this
theorem Q80 (h:RF s.Floor) {a c:Int} (hb:Q3h s st a c=true):isC s.Floor c=true∧(kx s.Floor c=4∨kx s.Floor c=5)∧low c∉allS st∧high c∉allS st∧(a=st.People.length→a<20):=by
 unfold Q3h at hb
 simp only [Bool.and_eq_true,Bool.or_eq_true,beq_iff_eq,Bool.not_eq_true'] at hb
 obtain⟨⟨h1,h2,h3⟩,h4⟩:=hb
 have hk:isC s.Floor c=true∧(kx s.Floor c=4∨kx s.Floor c=5):=by
  rcases h1 with h1 | h1
  ·have:=Q77 (by decide) h1;exact⟨this.1,.inl this.2⟩
  ·have:=Q77 (by decide) h1;exact⟨this.1,.inr this.2⟩
 refine⟨hk.1,hk.2,by simpa using h2,by simpa using h3,fun e=>?_⟩
 rw [if_pos e] at h4
 simp at h4;exact h4.2
theorem Q2q (h:RSt s st) (hf:RF s.Floor) {pp:List Int} {c:Int} (hc:isC s.Floor c=true) (hk:kx s.Floor c=4∨kx s.Floor c=5) (h1:low c∉allS st) (h2:high c∉allS st) (hl:pp.length≤20)
  (hpp:pp=st.People++[c]∨∃n:Nat,n<st.People.length∧pp=st.People.set n c):RSt s {st with People:=pp} where
 tick:=h.tick
 sl:=h.sl
 rl:=h.rl
 pl:=hl
 rob:=fun i r hi=>let R:=h.rob i r hi;⟨R.cell,R.kind,R.load,R.charge,R.rest,R.mute,R.own⟩
 shel:=fun i x hi hx=>h.shel i x hi hx
 ppl:=fun i x hi=>by
  rcases hpp with e | ⟨n,hn,e⟩
  ·have hi':(st.People++[c])[i]?=some x:=by rw [←e];exact hi
   rcases List.mem_append.1 (List.mem_of_getElem? hi') with hm | hm
   ·obtain⟨j,hj⟩:=List.getElem?_of_mem hm;exact h.ppl j x hj
   ·simp at hm;subst hm;exact hk
  ·have hi':(st.People.set n c)[i]?=some x:=by rw [←e];exact hi
   rcases Zy hi' with ⟨_,_,e2⟩ | ⟨_,e2⟩
   ·subst e2;exact hk
   ·exact h.ppl i x e2
 dead:=h.dead
 deadA:=h.deadA
 stuck:=h.stuck
 stuckA:=h.stuckA
 clash:=by
  have hlh:=Yq hf hc
  have hne:low c≠high c:=by omega
  have hcl:=h.clash
  rcases hpp with e | ⟨n,hn,e⟩
  ·have:allS {st with People:=pp}=allS st++slP c:=by
    unfold allS
    show _++(List.range pp.length).flatMap (fun i=>slP (pp.getD i 0))=_
    rw [e,List.length_append,List.length_singleton,Q1c]
    have e1:(List.range st.People.length).flatMap (fun i=>slP ((st.People++[c]).getD i 0))=(List.range st.People.length).flatMap (fun i=>slP (st.People.getD i 0)):=ZM fun j hj=>by rw [List.getD_eq_getElem?_getD,List.getD_eq_getElem?_getD,List.getElem?_append_left hj]
    rw [e1,Gv (l:=st.People++[c]) (x:=c) (by simp)]
    simp only [List.append_assoc];rfl
   rw [this,List.nodup_append]
   refine⟨hcl,by unfold slP;simp [hne],fun a ha b hb=>?_⟩
   unfold slP at hb
   simp at hb
   rcases hb with e | e
   ·subst e;exact fun e=>h1 (e▸ha)
   ·subst e;exact fun e=>h2 (e▸ha)
  ·rw [List.nodup_iff_count]
   intro x
   have hle:=Q14 hcl x
   have hP:=Z6 (f:=fun i=>slP (st.People.getD i 0)) (f':=fun i=>slP ((st.People.set n c).getD i 0)) hn (fun j _ hne=>by rw [Z5 hn,if_neg hne]) x
   rw [Z5 hn,if_pos rfl] at hP
   have hle2:(slP c).count x≤1:=List.nodup_iff_count.1 (by unfold slP;simp [hne]) x
   have h0:x∈slP c→(allS st).count x=0:=fun hx=>by
    unfold slP at hx
    simp at hx
    rcases hx with e | e
    ·subst e;exact List.count_eq_zero.2 h1
    ·subst e;exact List.count_eq_zero.2 h2
   have hm:(slP c).count x=0∨x∈slP c:=by
    by_cases e:x∈slP c
    ·exact .inr e
    ·exact .inl (List.count_eq_zero.2 e)
   unfold allS at hle h0 ⊢
   simp only [List.count_append] at hle h0 ⊢
   show ((List.range st.Robots.length).flatMap (fun i=>slR (st.Robots.getD i default))).count x+((List.range st.Shelves.length).flatMap (slS st)).count x+((List.range pp.length).flatMap (fun i=>slP (pp.getD i 0))).count x≤1
   rw [e,List.length_set]
   rcases hm with e | e
   ·omega
   ·have:=h0 e;omega
theorem Q4Q (hf:RF s.Floor) (h:RSt s st) (f:QM):RSt s (Wc s st f):=by
 cases hb:X5 s st f with
 | false=>rw [Q4m hb];exact h
 | true=>
  have base:=fun (i:Nat) r (hi:st.Robots[i]?=some r)=>h.rob i r hi
  by_cases h1:f.Kind=1
  ·have hl:=hb;rw [Q4j h1] at hl
   obtain⟨n,r,hn,hx,_,hr⟩:=Q0d hl
   have hR:=h.rob n r hx
   rw [Q5t hb h1,hr]
   refine ZQ h (st':=setR st f.A {r with Dead:=true}) ?_ rfl rfl h.tick ?_ h.dead h.deadA h.stuck h.stuckA
   ·show (st.Robots.set f.A.toNat _).map CL=_;rw [hn];exact Q2l hx rfl rfl
   ·show ∀(i:Nat) z,(st.Robots.set f.A.toNat _)[i]?=some z→_;rw [hn];exact Q5T h hx ⟨hR.charge,hR.rest,hR.mute⟩
  by_cases h2:f.Kind=2
  ·have hl:=hb;rw [Q6c h2,Bool.and_eq_true] at hl
   have hA:isC s.Floor f.A=true:=by
    have h3:k0 s.Floor f.A≠0:=by simpa using hl.1
    exact (Q77 h3 rfl).1
   have hnm:f.A∉st.Dead:=by simpa using hl.2
   rw [Q5J hb h2]
   have hpw:=Q17 (g:=fun x:Int=>x) h.deadA
   have hperm:=Q3N (st.Dead++[f.A])
   have hnd:(srtI (st.Dead++[f.A])).Nodup:=hperm.nodup_iff.2 (by
    rw [List.nodup_append]
    exact⟨hpw.imp (fun h=>by omega),by simp,fun a ha b hb=>by simp at hb;subst hb;exact fun e=>hnm (e▸ha)⟩)
   have hlt:(srtI (st.Dead++[f.A])).Pairwise (fun x y:Int=>x<y):=by
    have:=List.Pairwise.and (Q7x (st.Dead++[f.A])) hnd
    exact this.imp (fun h=>by obtain⟨a,b⟩:=h;omega)
   refine ZQ h (st':={st with Dead:=srtI (st.Dead++[f.A])}) rfl rfl rfl h.tick (fun i r hi=>⟨(base i r hi).charge,(base i r hi).rest,(base i r hi).mute⟩) (fun i c hi=>?_) (fun i x y hx hy=>Q1E (g:=fun x:Int=>x) hlt i x y hx hy) h.stuck h.stuckA
   rcases List.mem_append.1 (hperm.mem_iff.1 (List.mem_of_getElem? hi)) with hm | hm
   ·obtain⟨j,hj⟩:=List.getElem?_of_mem hm;exact h.dead j c hj
   ·simp at hm;subst hm;exact hA
  by_cases h3:f.Kind=3
  ·have hl:=hb;rw [Q49 h3,Bool.and_eq_true] at hl
   obtain⟨n,r,hn,hx,_,hr⟩:=Q0d hl.1
   have hlg:1≤f.N∧f.N≤20000:=by have:=hl.2;unfold Q2J at this;simpa using this
   have hR:=h.rob n r hx
   rw [Q5V hb h3,hr]
   refine ZQ h (st':=setR st f.A {r with Mute:=f.N}) ?_ rfl rfl h.tick ?_ h.dead h.deadA h.stuck h.stuckA
   ·show (st.Robots.set f.A.toNat _).map CL=_;rw [hn];exact Q2l hx rfl rfl
   ·show ∀(i:Nat) z,(st.Robots.set f.A.toNat _)[i]?=some z→_;rw [hn];exact Q5T h hx ⟨hR.charge,hR.rest,by show 0≤f.N∧f.N≤20000;omega⟩
  by_cases h4:f.Kind=4
  ·have hl:=hb;rw [Q5H h4,Bool.and_eq_true] at hl
   have hlg:1≤f.N∧f.N≤20000:=by have:=hl.2;unfold Q2J at this;simpa using this
   have hA:=Q77 (n:=6) (by decide) (by simpa using hl.1)
   rw [Q5Q hb h4]
   have hpw:=Q5E (c:=f.A) (n:=f.N) (Q17 (g:=fun x:ApiStuck=>x.Cell) h.stuckA)
   refine ZQ h (st':={st with Stuck:=X4 f.A f.N st.Stuck}) rfl rfl rfl h.tick (fun i r hi=>⟨(base i r hi).charge,(base i r hi).rest,(base i r hi).mute⟩) h.dead h.deadA (fun i x hi=>?_) (fun i x y hx hy=>Q1E (g:=fun x:ApiStuck=>x.Cell) hpw i x y hx hy)
   have hst:∀y,y∈st.Stuck→kx s.Floor y.Cell=6∧1≤y.Left∧y.Left≤20000:=fun y hy=>by obtain⟨j,hj⟩:=List.getElem?_of_mem hy;exact h.stuck j y hj
   rcases Q2o (List.mem_of_getElem? hi) with hm | ⟨hm,hm2⟩
   ·exact hst x hm
   ·refine⟨by rw [hm];exact hA.2,?_⟩
    rcases hm2 with e | ⟨y,hy,e⟩
    ·rw [e];exact hlg
    ·have:=(hst y hy).2
     rw [e];unfold imax;split <;> omega
  by_cases h5:f.Kind=5
  ·have hl:=hb;rw [Q4f h5] at hl
   obtain⟨g1,g2,g3,g4,g5⟩:=Q80 hf hl
   rw [Q4V hb h5]
   rcases Q6p hl with hA | ⟨n,hA,hn⟩
   ·have:=g5 hA
    rw [if_pos hA]
    exact Q2q h hf g1 g2 g3 g4 (by simp;omega) (.inl rfl)
   ·rw [if_neg (by omega),hA]
    exact Q2q h hf g1 g2 g3 g4 (by show (st.People.set n f.N).length≤20;rw [List.length_set];exact h.pl) (.inr ⟨n,hn,rfl⟩)
  ·by_cases h0:f.Kind=0
   ·rw [Q6f h0];exact h
   ·have:=Q34 (s:=s) (st:=st) h0 h1 h2 h3 h4 h5
    rw [this] at hb;cases hb
theorem Q5n (hf:RF s.Floor) (hs:RS s) (h:RSt s st) (hz:Sz st):LS s st:=⟨hf,hs,hz,h.cells,fun i r hr=>⟨(h.rob i r hr).cell,(h.rob i r hr).load.1,(h.rob i r hr).load.2⟩⟩
theorem Q5m {f:ApiFloor} {c:Int} (h:0≤kx f c):isC f c=true:=by
 unfold kx at h;cases e:isC f c with
 | true=>rfl
 | false=>rw [e] at h;simp at h
theorem Q7m (hf:RF s.Floor) (h:RSt s st) (hz:Sz st):QZ st where
 Tick:=WC (by have:=h.tick;omega)
 Shelves:=YP hz.sh (fun c hc=>ZK hf (h.cells c hc))
 Robots:=YP hz.rb (fun r hr=>by
  obtain⟨i,hi⟩:=List.getElem?_of_mem hr
  have hR:=h.rob i r hi
  have h1:=hR.load;have h2:=hR.charge;have h3:=hR.rest;have h4:=hR.mute;have h5:=hz.sh
  exact⟨ZK hf hR.cell,WC (by omega),WC (by omega),WC (by omega),WC (by omega),trivial⟩)
 People:=YP hz.pp (fun c hc=>by obtain⟨i,hi⟩:=List.getElem?_of_mem hc;exact ZK hf (Q5m (by have:=h.ppl i c hi;omega)))
 Dead:=YP hz.dd (fun c hc=>by obtain⟨i,hi⟩:=List.getElem?_of_mem hc;exact ZK hf (h.dead i c hi))
 Stuck:=YP hz.sk (fun x hx=>by
  obtain⟨i,hi⟩:=List.getElem?_of_mem hx
  have:=h.stuck i x hi
  exact⟨ZK hf (Q5m (by omega)),WC (by omega)⟩)
def doA (s:ApiSite) (st:ApiState) (i:Nat) (a:Int):ApiState:=doS s st i (if legS s st i a=0 then a else 0)
theorem legA {i:Nat} (hi:i<st.Robots.length) (a:Int):legS s st i (if legS s st i a=0 then a else 0)=0:=by
 split
 ·assumption
 ·exact Q5A ⟨by omega,by omega⟩
theorem Q5S (hf:RF s.Floor) (hs:RS s) (h:RSt s st) (hz:Sz st) {i:Nat} (hi:i<st.Robots.length) (a:Int):RSt s (doA s st i a):=by
 have hx:=List.getElem?_eq_getElem hi
 have hl:=legA (s:=s) hi a
 have ha:=(Q5Y hl).2
 unfold doA
 generalize (if legS s st i a=0 then a else 0)=b at *
 rw [Q7h rfl hx]
 rw [Q42 rfl hx] at hl
 exact (Q7H h (Q5n hf hs h hz) hx ha hl).1
def runS (s:ApiSite) (acts:List Int):Nat→Nat→ApiState→ApiState
 | 0,_,st=>st
 | n+1,i,st=>runS s acts n (i+1) (doA s st i (acts.getD i 0))
end
end Go.Taq
/- The mathematics, part AE: the end of a tick; a whole tick (arena.Step and its reference). -/
set_option linter.unusedVariables false
set_option linter.unusedSimpArgs false
namespace Go.Taq
open Go
def mset {α:Type} (g:Nat→α) (xs:List α) (i:Nat):List α:=(List.range i).map g++xs.drop i
theorem Q7e {α:Type} (g:Nat→α) (xs:List α):mset g xs 0=xs:=by unfold mset;simp
theorem Q4W {α:Type} (g:Nat→α) {xs:List α} {i:Nat} {x:α} (h:xs[i]?=some x):(mset g xs i)[i]?=some x:=by
 unfold mset;rw [List.getElem?_append_right (by simp)];simp [h]
theorem Q4O {α:Type} (g:Nat→α) {xs:List α} {i:Nat} (h:i<xs.length):(mset g xs i).set i (g i)=mset g xs (i+1):=by
 unfold mset
 rw [List.set_append,if_neg (by simp),List.length_map,List.length_range,Nat.sub_self,List.drop_eq_getElem_cons h,List.set_cons_zero,List.range_succ,List.map_append]
 simp
theorem Q4X {α:Type} (g:Nat→α) (xs:List α):mset g xs xs.length=(List.range xs.length).map g:=by unfold mset;simp
theorem Q3C {α β:Type} (f:α→β) (xs:List α) (d:α):(List.range xs.length).map (fun i=>f (xs.getD i d))=xs.map f:=by
 apply List.ext_getElem?
 intro i
 rw [List.getElem?_map,List.getElem?_map]
 by_cases h:i<xs.length
 ·rw [List.getElem?_range h,List.getElem?_eq_getElem h,Option.map_some,Option.map_some,List.getD_eq_getElem?_getD,List.getElem?_eq_getElem h];rfl
 ·rw [List.getElem?_eq_none (by simp;omega),List.getElem?_eq_none (by omega)];rfl
def endR (b r:ApiRobot):ApiRobot:={r with Rest:=if r.Cell=b.Cell then imax (r.Rest-1) 0 else r.Rest,Mute:=imax (r.Mute-1) 0}
def decL (x:ApiStuck):ApiStuck:={x with Left:=x.Left-1}
def Q1B (b st:ApiState):ApiState:=
 {st with Tick:=st.Tick+1,Robots:=(List.range st.Robots.length).map (fun i=>endR (b.Robots.getD i default) (st.Robots.getD i default)),Stuck:=(st.Stuck.map decL).filter fun x=>!decide (x.Left≤0)}
section
variable {s:ApiSite} {st b:ApiState}
theorem Q3p (h:RSt s st) (hz:Sz st) (hl:b.Robots.length=st.Robots.length) {post:ApiState→Prop} (hp:post (Q1B b st)):Xr b st post:=by
 unfold Xr
 have q2:=hz.rb;have q5:=hz.sk
 have htk:=h.tick
 refine Jn.mk (fun l=>l=(List.range st.Robots.length).map (fun i=>endR (b.Robots.getD i default) (st.Robots.getD i default))) (Q22 st.Robots.length (fun t:List ApiRobot×Int=>t.2) (fun i t=>t.1=mset (fun i=>endR (b.Robots.getD i default) (st.Robots.getD i default)) st.Robots i) (by unfold maxLen;omega) rfl (Q7e _ _).symm (fun i t hi ht hI=>?_) (fun t h=>by rw [Q4X] at h;exact h)) (fun l hl2=>?_)
 ·have hx:=List.getElem?_eq_getElem hi
  generalize st.Robots[i]=r at hx
  have hy:=List.getElem?_eq_getElem (show i<b.Robots.length by omega)
  generalize b.Robots[i]'_=r0 at hy
  have hR:=h.rob i r hx
  have h1:=hR.rest;have h2:=hR.mute
  have eg:endR (b.Robots.getD i default) (st.Robots.getD i default)=endR r0 r:=by rw [Wi hx,Wi hy]
  have em:w64 (r.Mute-1)=r.Mute-1:=QF (by omega) (by omega)
  have er:w64 (r.Rest-1)=r.Rest-1:=QF (by omega) (by omega)
  rw [ht]
  refine Jn.mk (fun l=>l=t.1.set i (endR r0 r)) ⟨r,QD rfl (by rw [hI];exact Q4W _ hx),r0,QD rfl hy,Ite.mk (fun h3=>?_) (fun h3=>?_)⟩ (fun l hl2=>⟨rfl,by show l=_;rw [hl2,hI,←eg];exact Q4O _ hi⟩)
  ·have h3':r.Cell≠r0.Cell:=by simpa using h3
   show t.1.set i _=_
   unfold endR;rw [if_neg h3',em]
  ·have h3':r.Cell=r0.Cell:=by simpa using h3
   show (t.1.set i _).set i _=_
   rw [List.set_set]
   unfold endR;rw [if_pos h3',em,er]
 ·refine Jn.mk (fun m=>m=st.Stuck.map decL) (Q22 st.Stuck.length (fun t:List ApiStuck×Int=>t.2) (fun i t=>t.1=mset (fun i=>decL (st.Stuck.getD i default)) st.Stuck i) (by unfold maxLen;omega) rfl (Q7e _ _).symm (fun i t hi ht hI=>?_) (fun t h=>by rw [Q4X,Q3C] at h;exact h)) (fun m hm=>?_)
  ·have hx:=List.getElem?_eq_getElem hi
   generalize st.Stuck[i]=x at hx
   have hK:=h.stuck i x hx
   rw [ht]
   have eg:decL (st.Stuck.getD i default)=decL x:=by rw [List.getD_eq_getElem?_getD,hx];rfl
   refine⟨x,QD rfl (by rw [hI];exact Q4W _ hx),rfl,?_⟩
   show t.1.set i _=_
   rw [hI,QF (by omega) (by omega)]
   have:=Q4O (fun i=>decL (st.Stuck.getD i default)) hi
   rw [←this,eg];rfl
  ·unfold Qn Qv
   have hml:m.length≤maxLen:=by rw [hm];simp;unfold maxLen;omega
   refine Zx hml (fun x:ApiStuck=>decide (x.Left≤0)) (T:=fun x q=>Ky x q) (fun x _ q hq=>by unfold Ky;exact hq) ?_
   refine Q5x hml ({Cell:=0,Left:=0}:ApiStuck) (fun x:ApiStuck=>decide (x.Left≤0)) (T:=fun x q=>Ky x q) (fun x _ q hq=>by unfold Ky;exact hq) (post:=fun y=>post {Tick:=w64 (st.Tick+1),Shelves:=st.Shelves,Robots:=l,People:=st.People,Dead:=st.Dead,Stuck:=y}) ?_
   rw [hm,hl2,QF (by omega) (by omega)]
   exact hp
theorem Q71 (h:RSt s st) (hl:b.Robots.length=st.Robots.length) (ht:st.Tick<20000):RSt s (Q1B b st):=by
 have hget:∀(i:Nat) r',(Q1B b st).Robots[i]?=some r'→∃r,st.Robots[i]?=some r∧r'=endR (b.Robots.getD i default) r:=fun i r' hi=>by
  have hi':((List.range st.Robots.length).map (fun i=>endR (b.Robots.getD i default) (st.Robots.getD i default)))[i]?=some r':=hi
  rw [List.getElem?_map] at hi'
  cases e:(List.range st.Robots.length)[i]? with
  | none=>rw [e] at hi';cases hi'
  | some j=>
   rw [e] at hi'
   obtain⟨h1,h2⟩:=List.getElem?_eq_some_iff.1 e
   simp at h1 h2
   subst h2
   have hx:=List.getElem?_eq_getElem h1
   refine⟨_,hx,?_⟩
   exact (Option.some.inj hi').symm.trans (by show endR _ (st.Robots.getD _ default)=_;rw [Wi hx])
 refine ZQ h (st':=Q1B b st) ?_ rfl rfl (by have:=h.tick;show 0≤st.Tick+1∧st.Tick+1≤20000;omega) (fun i r' hi=>?_) h.dead h.deadA (fun i x hi=>?_) (fun i x y hx hy=>?_)
 ·show ((List.range st.Robots.length).map (fun i=>endR (b.Robots.getD i default) (st.Robots.getD i default))).map CL=_
  rw [List.map_map]
  have:(CL ∘ fun i=>endR (b.Robots.getD i default) (st.Robots.getD i default))=fun i=>CL (st.Robots.getD i default):=rfl
  rw [this];exact Q3C CL st.Robots default
 ·obtain⟨r,hr,e⟩:=hget i r' hi
  have hR:=h.rob i r hr
  have h1:=hR.rest;have h2:=hR.mute
  subst e
  refine⟨hR.charge,?_,?_⟩
  ·unfold endR;simp only;split
   ·unfold imax;split <;> omega
   ·exact h1
  ·unfold endR;simp only;unfold imax;split <;> omega
 ·have hm:=List.mem_of_getElem? hi
  have hm':x∈(st.Stuck.map decL).filter fun x=>!decide (x.Left≤0):=hm
  obtain⟨h1,h2⟩:=List.mem_filter.1 hm'
  obtain⟨y,hy,e⟩:=List.mem_map.1 h1
  obtain⟨j,hj⟩:=List.getElem?_of_mem hy
  have hK:=h.stuck j y hj
  subst e
  have h2':¬(decL y).Left≤0:=by simpa using h2
  refine⟨hK.1,?_⟩
  have:(decL y).Left=y.Left-1:=rfl
  omega
 ·have h1:=Q17 (g:=fun x:ApiStuck=>x.Cell) h.stuckA
  have h2:((st.Stuck.map decL).filter fun x=>!decide (x.Left≤0)).Pairwise (fun x y=>x.Cell<y.Cell):=List.Pairwise.filter _ (List.pairwise_map.2 (h1.imp (fun h=>h)))
  exact Q1E (g:=fun x:ApiStuck=>x.Cell) h2 i x y hx hy
/-! ## lengths -/
structure SzN (n:Nat) (st:ApiState):Prop where
 sh:st.Shelves.length≤20
 rb:st.Robots.length≤20
 pp:st.People.length≤20
 dd:st.Dead.length≤n
 sk:st.Stuck.length≤n
theorem SzN.sz {n:Nat} (h:SzN n st) (hn:n≤1000):Sz st:=⟨by have:=h.sh;omega,by have:=h.rb;omega,by have:=h.pp;omega,by have:=h.dd;omega,by have:=h.sk;omega⟩
theorem SzN.mono {n m:Nat} (h:SzN n st) (hn:n≤m):SzN m st:=⟨h.sh,h.rb,h.pp,by have:=h.dd;omega,by have:=h.sk;omega⟩
theorem Q6L {n:Nat} (hf:RF s.Floor) (h:RSt s st) (hz:SzN n st) (f:QM):SzN (n+1) (Wc s st f):=by
 have hr:=Q4Q hf h f
 have hpl:=hr.pl
 cases hb:X5 s st f with
 | false=>rw [Q4m hb];exact hz.mono (by omega)
 | true=>
  have q1:=hz.sh;have q2:=hz.rb;have q3:=hz.dd;have q4:=hz.sk
  by_cases h1:f.Kind=1
  ·rw [Q5t hb h1] at hpl ⊢;exact⟨q1,by unfold setR;simp only;rw [List.length_set];exact q2,hpl,by show st.Dead.length≤_;omega,by show st.Stuck.length≤_;omega⟩
  by_cases h2:f.Kind=2
  ·rw [Q5J hb h2] at hpl ⊢;exact⟨q1,q2,hpl,by show (srtI _).length≤_;rw [(Q3N _).length_eq];simp;omega,by show st.Stuck.length≤_;omega⟩
  by_cases h3:f.Kind=3
  ·rw [Q5V hb h3] at hpl ⊢;exact⟨q1,by unfold setR;simp only;rw [List.length_set];exact q2,hpl,by show st.Dead.length≤_;omega,by show st.Stuck.length≤_;omega⟩
  by_cases h4:f.Kind=4
  ·rw [Q5Q hb h4] at hpl ⊢;exact⟨q1,q2,hpl,by show st.Dead.length≤_;omega,by have:=(Q27 f.A f.N st.Stuck).2;show (X4 _ _ _).length≤_;omega⟩
  by_cases h5:f.Kind=5
  ·rw [Q4V hb h5] at hpl ⊢;exact⟨q1,q2,hpl,by show st.Dead.length≤_;omega,by show st.Stuck.length≤_;omega⟩
  ·by_cases h0:f.Kind=0
   ·rw [Q6f h0];exact hz.mono (by omega)
   ·have:=Q34 (s:=s) (st:=st) h0 h1 h2 h3 h4 h5
    rw [this] at hb;cases hb
theorem Q13 (i:Nat) (a:Int):(doA s st i a).Tick=st.Tick∧(doA s st i a).Robots.length=st.Robots.length∧(doA s st i a).Shelves.length=st.Shelves.length∧(doA s st i a).People=st.People∧(doA s st i a).Dead=st.Dead∧(doA s st i a).Stuck=st.Stuck:=by
 unfold doA
 generalize (if legS s st i a=0 then a else 0)=c
 unfold doS
 split
 ·exact⟨rfl,rfl,rfl,rfl,rfl,rfl⟩
 ·refine⟨?_,Q92 _ _ _,Q9r _ _ _,?_,?_,?_⟩ <;> (unfold doR;split <;> rfl)
theorem Q5k {n:Nat} (hz:SzN n st) (i:Nat) (a:Int):SzN n (doA s st i a):=by
 obtain⟨_,h1,h2,h3,h4,h5⟩:=Q13 (s:=s) (st:=st) i a
 exact⟨by rw [h2];exact hz.sh,by rw [h1];exact hz.rb,by rw [h3];exact hz.pp,by rw [h4];exact hz.dd,by rw [h5];exact hz.sk⟩
theorem Q76 {n:Nat} (hz:SzN n st):SzN n (Q1B b st):=
 ⟨hz.sh,by show ((List.range st.Robots.length).map _).length≤20;simp;exact hz.rb,hz.pp,hz.dd,by
  show ((st.Stuck.map decL).filter _).length≤n
  exact Nat.le_trans (List.length_filter_le _ _) (by simp;exact hz.sk)⟩
theorem Q1k {n:Nat} (hn:n≤1000) (hf:RF s.Floor) (hs:RS s) (acts:List Int):∀(k i:Nat) (st:ApiState),i+k≤st.Robots.length→RSt s st→SzN n st→RSt s (runS s acts k i st)∧SzN n (runS s acts k i st)∧(runS s acts k i st).Tick=st.Tick∧(runS s acts k i st).Robots.length=st.Robots.length
 | 0,i,st,_,h,hz=>⟨h,hz,rfl,rfl⟩
 | k+1,i,st,hi,h,hz=>by
  obtain⟨g1,g2,_⟩:=Q13 (s:=s) (st:=st) i (acts.getD i 0)
  obtain⟨h1,h2,h3,h4⟩:=Q1k hn hf hs acts k (i+1) (doA s st i (acts.getD i 0)) (by rw [g2];omega) (Q5S hf hs h (hz.sz hn) (by omega) _) (Q5k hz i _)
  exact⟨h1,h2,h3.trans g1,h4.trans g2⟩
theorem Qa9 {n:Nat} (hn:n≤1000) (hf:RF s.Floor) (hs:RS s) {acts:List Int} (hm:acts.length≤maxLen) {now:ApiState} (h:RSt s now) (hz:SzN n now) (hl:acts.length=now.Robots.length)
  {L:ApiState→Int→Int→(Int→Prop)→Prop} (hL:∀st,QZ st→LS s st→∀i a {q:Int→Prop},q (legS s st i a)→L st i a q)
  {D:ApiState→Int→Int→(ApiState→Prop)→Prop} (hD:∀st,QZ st→LS s st→∀i a {q:ApiState→Prop},0≤a→a<10→q (doS s st i a)→D st i a q)
  {K:Int×List Int×List ApiRobot×List Int×List Int×List ApiStuck→Prop} (hp:∀t:Int×List Int×List ApiRobot×List Int×List Int×List ApiStuck,({Tick:=t.1,Shelves:=t.2.1,Robots:=t.2.2.1,People:=t.2.2.2.1,Dead:=t.2.2.2.2.1,Stuck:=t.2.2.2.2.2}:ApiState)=runS s acts acts.length 0 now→K t):
  Jn (fun (J:(Int×List Int×List ApiRobot×List Int×List Int×List ApiStuck)→Prop)=>Loop (fun (t:Int×List Int×List ApiRobot×List Int×List Int×List ApiStuck×Int) Y=>Ite (decide (t.2.2.2.2.2.2<(acts.length:Int)))
   (∃x,idx acts t.2.2.2.2.2.2=some x∧L (stOf t) t.2.2.2.2.2.2 x (fun y=>Jn (fun (J2:Int→Prop)=>Ite (y != 0) (J2 0) (J2 x)) (fun (a:Int)=>D (stOf t) t.2.2.2.2.2.2 a (fun z=>Y (z.Tick,z.Shelves,z.Robots,z.People,z.Dead,z.Stuck,w64 (t.2.2.2.2.2.2+1))))))
   (J (t.1,t.2.1,t.2.2.1,t.2.2.2.1,t.2.2.2.2.1,t.2.2.2.2.2.1))) (now.Tick,now.Shelves,now.Robots,now.People,now.Dead,now.Stuck,0)) K:=by
 refine Jn.mk (fun t=>({Tick:=t.1,Shelves:=t.2.1,Robots:=t.2.2.1,People:=t.2.2.2.1,Dead:=t.2.2.2.2.1,Stuck:=t.2.2.2.2.2}:ApiState)=runS s acts acts.length 0 now) (Loop.inv acts.length (fun i t=>t.2.2.2.2.2.2=(i:Int)∧RSt s (stOf t)∧SzN n (stOf t)∧(stOf t).Robots.length=acts.length∧runS s acts acts.length 0 now=runS s acts (acts.length-i) i (stOf t)) ⟨rfl,h,hz,hl.symm,rfl⟩ (fun i t hi hI=>?_) (fun t hI=>?_)) hp
 ·obtain⟨ht,hr,hsz,hlen,hI⟩:=hI
  have hx:=List.getElem?_eq_getElem hi
  generalize acts[i]=a at hx
  have hn':acts.length-i=(acts.length-(i+1))+1:=by omega
  rw [hn',runS,Gv hx] at hI
  have hls:=Q5n hf hs hr (hsz.sz hn)
  have hok:=Q7m hf hr (hsz.sz hn)
  rw [ht]
  refine Ite.lt (by omega) ⟨a,QD rfl hx,hL _ hok hls i a ?_⟩
  refine Jn.mk (fun c=>c=if legS s (stOf t) i a=0 then a else 0) (Ite.mk (fun h6=>by rw [if_neg (by simpa using h6)]) (fun h6=>by rw [if_pos (by simpa using h6)])) (fun c hc=>?_)
  have hleg:=legA (s:=s) (st:=stOf t) (i:=i) (by omega) a
  rw [←hc] at hleg
  have hb:=Q5Z hleg
  have e:doS s (stOf t) i c=doA s (stOf t) i a:=by unfold doA;rw [←hc]
  refine hD _ hok hls i c hb.1 hb.2 ?_
  rw [e]
  refine⟨We hi hm,Q5S hf hs hr (hsz.sz hn) (by omega) a,Q5k hsz i a,?_,hI⟩
  show (doA s (stOf t) i a).Robots.length=_
  rw [(Q13 (s:=s) (st:=stOf t) i a).2.1];exact hlen
 ·obtain⟨ht,hr,hsz,hlen,hI⟩:=hI
  rw [Nat.sub_self,runS] at hI
  exact Ite.nlt (by omega) hI.symm
def Q7l:ApiState:={Tick:=0,Shelves:=[],Robots:=[],People:=[],Dead:=[],Stuck:=[]}
def tickS (s:ApiSite) (st:ApiState) (acts:List Int) (f:QM):ApiState:=Q1B st (runS s acts acts.length 0 (Wc s st f))
noncomputable def Q5L (s:ApiSite) (st:ApiState) (acts:List Int) (f:QM):ApiState×Int:=
 if chkS s st acts≠0 then (Q7l,chkS s st acts) else if X5 s st f=false then (Q7l,26) else (tickS s st acts f,0)
theorem Q6y {acts:List Int} (h:chkS s st acts=0):st.Tick<20000∧acts.length=st.Robots.length:=by
 unfold chkS at h
 by_cases h1:st.Tick≥20000
 ·rw [if_pos h1] at h;simp at h
 ·rw [if_neg h1] at h
  by_cases h2:(acts.length:Int)≠st.Robots.length
  ·rw [if_pos h2] at h;simp at h
  ·exact⟨by omega,by omega⟩
theorem Q7T (f:QM):(Wc s st f).Robots.length=st.Robots.length∧(Wc s st f).Tick=st.Tick:=by
 unfold Wc setR;split
 ·exact⟨rfl,rfl⟩
 ·(repeat' split) <;> first | exact⟨rfl,rfl⟩ | exact⟨by simp,rfl⟩
theorem Q3P {n:Nat} (hn:n<1000) (ks:OkApiSite s) (hf:RF s.Floor) (hs:RS s) (h:RSt s st) (hz:SzN n st) {acts:List Int} (ka:OkL I64 acts) {f:QM} {post:ApiState×Int→Prop} (hp:post (Q5L s st acts f)):Gd s st acts f post:=by
 unfold Gd
 have hsz:=hz.sz (by omega)
 have hok:=Q7m hf h hsz
 unfold Q5L at hp
 refine Q3b ks hok (Q5n hf hs h hsz) ka (Ite.mk (fun h1=>?_) (fun h1=>?_))
 ·rw [if_pos (by simpa using h1)] at hp;exact hp
 have hc:chkS s st acts=0:=by simpa using h1
 rw [if_neg (by simpa using h1)] at hp
 refine Yu hf hsz (Ite.mk (fun h2=>?_) (fun h2=>?_))
 ·have h2':Q3d s st f≠0:=by simpa using h2
  have hb:X5 s st f=false:=by
   cases e:X5 s st f with
   | false=>rfl
   | true=>exact absurd (Q02.2 e) h2'
  have:Q3d s st f=26:=by unfold Q3d;rw [hb];rfl
  rw [if_pos hb] at hp;rw [this];exact hp
 have hb:X5 s st f=true:=Q02.1 (by simpa using h2)
 rw [if_neg (by rw [hb];simp)] at hp
 obtain⟨ht,hl⟩:=Q6y hc
 obtain⟨e1,e2⟩:=Q7T (s:=s) (st:=st) f
 have hr:=Q4Q hf h f
 have hsz1:=Q6L hf h hz f
 obtain⟨g1,g2,g3,g4⟩:=Q1k (n:=n+1) (by omega) hf hs acts acts.length 0 (Wc s st f) (by rw [e1];omega) hr hsz1
 refine Q1G hf hsz (Qa9 (n:=n+1) (by omega) hf hs ka.1 hr hsz1 (by rw [e1];exact hl) (L:=fun st i a q=>Xm s st i a q) (fun st k h i a q hq=>Q1a ks k h hq) (D:=fun st i a q=>WM s st i a q) (fun st k h i a q h0 h9 hq=>Q4M ks k h h0 h9 hq) (fun t ht=>?_))
 rw [ht]
 exact YQ (g2.sz (by omega)) (Q3p g1 (g2.sz (by omega)) (by rw [g4,e1]) hp)
end
end Go.Taq
/- The mathematics, part AF: right states and right sites by the program's own functions; the bounds of the statements of chapter 16. -/
set_option linter.unusedVariables false
set_option linter.unusedSimpArgs false
namespace Go.Taq
open Go
section
/-! ## a bare site is right -/
/-! ## bounds -/
end
end Go.Taq
/- The mathematics, part AR: slices.Repeat of one number. -/
set_option linter.unusedVariables false
set_option linter.unusedSimpArgs false
namespace Go.Taq
open Go
end Go.Taq
