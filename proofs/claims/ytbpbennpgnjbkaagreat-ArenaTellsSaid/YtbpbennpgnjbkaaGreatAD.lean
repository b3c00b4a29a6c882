/- The mathematics, several parts in one text. -/
import Derived.Test.YtbpbennpgnjbkaaGreatOM
/- The mathematics, part AA: what moves, whether slots clash, whether acts may be begun (arena.Check and its reference). -/
set_option linter.unusedVariables false
set_option linter.unusedSimpArgs false
namespace Go.Taq
open Go
def slAt (r:ApiRobot) (c:Int):List Int:=if 0≤r.Load then [low c,high c] else [low c]
theorem Q4g (r:ApiRobot) (c:Int):(slAt r c).length≤2:=by unfold slAt;split <;> simp
theorem Q6D {r:ApiRobot} {c:Int} {post:List Int→Prop} (hp:post (slAt r c)):WJ r c post:=by
 unfold WJ Xt KE
 unfold slAt low high at hp
 refine Ite.mk (fun h=>?_) (fun h=>?_) <;> simp at h
 ·rw [if_pos h] at hp;exact hp
 ·rw [if_neg (by omega)] at hp;exact hp
theorem Q60 {r:ApiRobot} {c:Int} {post:List Int→Prop} (hp:post (slAt r c)):Kq r c post:=by
 unfold Kq
 unfold slAt low high at hp
 refine Ite.mk (fun h=>?_) (fun h=>?_) <;> simp at h
 ·rw [if_neg (by omega)] at hp;exact hp
 ·rw [if_pos h] at hp;exact hp
def mvS (f:Q6) (st:ApiState) (acts:List Int) (i:Nat):List Int:=
 if ((st.Robots.getD i default).Dead||!mvB (acts.getD i 0))=true then []
 else if (nx f (st.Robots.getD i default).Cell (acts.getD i 0-1)).2=true then slAt (st.Robots.getD i default) (nx f (st.Robots.getD i default).Cell (acts.getD i 0-1)).1 else []
def movL (f:Q6) (st:ApiState) (acts:List Int):List Int:=allS st++(List.range st.Robots.length).flatMap (mvS f st acts)
theorem Q5t (f:Q6) (st:ApiState) (acts:List Int) (i:Nat):(mvS f st acts i).length≤2:=by
 unfold mvS;split
 ·simp
 ·split
  ·exact Q4g _ _
  ·simp
section
variable {s:ApiSite} {st:ApiState}
theorem Q4f (hz:Sz st) (f:Q6) (acts:List Int):(movL f st acts).length≤9000:=by
 have h1:=Wq (n:=st.Robots.length) (f:=mvS f st acts) (fun i _=>Q5t ..)
 have h2:=WD hz
 have:=hz.rb
 unfold movL;rw [List.length_append];omega
theorem Q2M {f:Nat→List Int} {i:Nat}:(List.range (i+1)).flatMap f=(List.range i).flatMap f++f i:=by
 rw [List.range_succ,List.flatMap_append];simp
theorem Qas {a:Int} (ha:I64 a):(decide (w64 (a-1)<0)||decide (w64 (a-1)>5))=!mvB a:=by
 obtain⟨h1,h2⟩:=ha
 have e:w64 (a-1)=if a=-9223372036854775808 then 9223372036854775807 else a-1:=by
  split
  ·rename_i h;subst h;decide
  ·exact Qy (by omega) (by omega)
 rw [e]
 have:=@G8 a
 cases h:mvB a
 ·rw [h] at this
  simp at this
  split <;> simp <;> omega
 ·rw [h] at this
  simp at this
  split <;> simp <;> omega
theorem Q3V (hf:RF s.Floor) (hz:Sz st) {acts:List Int} (hl:acts.length=st.Robots.length) {post:List Int→Prop} (hp:∀l,List.Perm l (movL s.Floor st acts)→post l):GI s.Floor st acts post:=by
 unfold GI Qt
 have h1:=Q4f hz s.Floor acts
 have hrb:=hz.rb
 refine Q3B hz (Jn.mk (fun l=>l=movL s.Floor st acts) (Q21 st.Robots.length (fun t:List Int×Int=>t.2) (fun i t=>t.1=allS st++(List.range i).flatMap (mvS s.Floor st acts)) (by unfold maxLen;omega) rfl (by simp) (fun i t hi ht hI=>?_) (fun t h=>h)) (fun l hl=>by subst hl;exact⟨by omega,hp _ (List.mergeSort_perm _ _)⟩))
 rw [ht]
 have hx:=List.getElem?_eq_getElem hi
 generalize st.Robots[i]=r at hx
 have ha:=List.getElem?_eq_getElem (show i<acts.length by omega)
 generalize acts[i]'_=a at ha
 have hlen:t.1.length≤10000:=by
  have h3:=Wq (n:=i) (f:=mvS s.Floor st acts) (fun i _=>Q5t ..)
  have:=WD hz
  rw [hI,List.length_append];omega
 refine Jn.mk (fun l=>l=t.1++mvS s.Floor st acts i) ⟨r,Qg rfl hx,?_⟩ (fun l hl=>⟨rfl,by show l=_;rw [hl,hI,Q2M,List.append_assoc]⟩)
 have em:mvS s.Floor st acts i=if (r.Dead||!mvB a)=true then [] else if (nx s.Floor r.Cell (a-1)).2=true then slAt r (nx s.Floor r.Cell (a-1)).1 else []:=by
  unfold mvS;rw [Wc hx,Wn ha]
 rw [em]
 refine Jn.mk (fun b=>b=(r.Dead||!mvB a)) (Ite.f (by simp;omega) (Ite.mk (fun h=>by rw [h];rfl) (fun h=>⟨a,Qg rfl ha,?_⟩))) (fun b hb=>?_)
 ·rw [h,Bool.false_or]
  refine Ite.mk (fun h2=>?_) (fun h2=>?_)
  ·have:mvB a=false:=by have:=@G8 a;simp at h2;cases hm:mvB a <;> simp_all;omega
   rw [this];rfl
  ·simp at h2
   by_cases h3:a≥7
   ·have:mvB a=false:=by have:=@G8 a;cases hm:mvB a <;> simp_all;omega
    rw [this];simpa using h3
   ·have:mvB a=true:=G8.2 (by omega)
    rw [this];simpa using h3
 ·refine Ite.mk (fun h=>?_) (fun h=>?_)
  ·rw [if_pos (by rw [←hb];exact h)];simp
  ·rw [if_neg (by rw [←hb,h];simp)]
   have hm:mvB a=true:=by rw [h] at hb;simpa using (Bool.or_eq_false_iff.1 hb.symm).2
   have hm':=G8.1 hm
   refine⟨a,Qg rfl ha,?_⟩
   rw [Qy (by omega) (by omega)]
   refine ZO hf (Jn.mk' (Ite.mk (fun h2=>?_) (fun h2=>?_)))
   ·rw [if_pos h2]
    exact Q6D ⟨by have:=Q4g r (nx s.Floor r.Cell (a-1)).1;omega,rfl⟩
   ·rw [if_neg (by rw [h2];simp)];simp
theorem Q3i (k:Qh st) (hf:RF s.Floor) (hz:Sz st) {acts:List Int} (ka:OkL I64 acts) (hl:acts.length=st.Robots.length) {post:List Int→Prop} (hp:∀l,List.Perm l (movL s.Floor st acts)→post l):Kn s.Floor st acts post:=by
 unfold Kn
 have h1:=Q4f hz s.Floor acts
 have hrb:=hz.rb
 refine Z7 hz k (fun l0 hl0=>Jn.mk (fun l=>List.Perm l (movL s.Floor st acts)) ?_ (fun l hl=>Q0e (by have:=hl.length_eq;omega) (fun l' h'=>hp _ (h'.trans hl))))
 refine Loop.inv st.Robots.length (fun i (t:List Int×Int)=>t.2=(i:Int)∧t.1=l0++(List.range i).flatMap (mvS s.Floor st acts)) ⟨rfl,by simp⟩ (fun i t hi hI=>?_) (fun t hI=>?_)
 rotate_left
 ·refine Jn.mk (fun b=>b=false) (Ite.f (by rw [hI.1];simp) rfl) (fun b hb=>Ite.f hb ?_)
  rw [hI.2];exact List.Perm.append_right _ hl0
 obtain⟨ht,hI⟩:=hI
 refine Jn.mk (fun b=>b=true) (Ite.t (by rw [ht];simpa using hi) (by rw [ht];simp;omega)) (fun b hb=>Ite.t hb ?_)
 rw [ht]
 have hx:=List.getElem?_eq_getElem hi
 generalize st.Robots[i]=r at hx
 have ha:=List.getElem?_eq_getElem (show i<acts.length by omega)
 generalize acts[i]'_=a at ha
 have ka':=ka.2 a (List.mem_of_getElem? ha)
 have hlen:t.1.length≤10000:=by
  have h3:=Wq (n:=i) (f:=mvS s.Floor st acts) (fun i _=>Q5t ..)
  have:=WD hz
  have:=hl0.length_eq
  rw [hI,List.length_append];omega
 refine Jn.mk (fun l=>l=t.1++mvS s.Floor st acts i) ⟨a,Qg rfl ha,?_⟩ (fun l hl=>⟨by rw [Qy (by omega) (by omega)];simp,by show l=_;rw [hl,hI,Q2M,List.append_assoc]⟩)
 have em:mvS s.Floor st acts i=if (r.Dead||!mvB a)=true then [] else if (nx s.Floor r.Cell (a-1)).2=true then slAt r (nx s.Floor r.Cell (a-1)).1 else []:=by
  unfold mvS;rw [Wc hx,Wn ha]
 rw [em]
 have hmn:=Qas ka'
 refine Jn.mk (fun b=>b=(r.Dead||!mvB a)) ⟨r,Qg rfl hx,Ite.mk (fun h=>by rw [h];rfl) (fun h=>?_)⟩ (fun b hb=>?_)
 ·rw [h,Bool.false_or,←hmn]
  refine Ite.mk (fun h2=>by rw [h2];rfl) (fun h2=>by rw [h2];rfl)
 ·refine Ite.mk (fun h=>?_) (fun h=>?_)
  ·rw [if_pos (by rw [←hb];exact h)];simp
  ·rw [if_neg (by rw [←hb,h];simp)]
   have hm:mvB a=true:=by rw [h] at hb;simpa using (Bool.or_eq_false_iff.1 hb.symm).2
   have hm':=G8.1 hm
   refine⟨r,Qg rfl hx,?_⟩
   rw [Qy (by omega) (by omega)]
   refine Q23 hf (by omega) (Jn.mk' (Ite.mk (fun h2=>?_) (fun h2=>?_)))
   ·rw [if_pos h2]
    exact Q60 ⟨by have:=Q4g r (nx s.Floor r.Cell (a-1)).1;omega,rfl⟩
   ·rw [if_neg (by rw [h2];simp)];simp
/-! ## clashes -/
theorem Q7x {m:List Int} (hs:m.Pairwise (·≤·)) (ha:∀(i:Nat) x y,m[i]?=some x→m[i+1]?=some y→x≠y):m.Nodup:=by
 have:m.Pairwise (· < ·):=by
  induction m with
  | nil=>exact .nil
  | cons x m ih=>
   have hs':=List.pairwise_cons.1 hs
   have ih':=ih hs'.2 (fun i a b h1 h2=>ha (i+1) a b (by simpa using h1) (by simpa using h2))
   refine List.pairwise_cons.2 ⟨fun y hy=>?_,ih'⟩
   cases m with
   | nil=>cases hy
   | cons z m=>
    have h0:=ha 0 x z rfl rfl
    have h1:=hs'.1 z (by simp)
    rcases List.mem_cons.1 hy with e | e
    ·subst e;omega
    ·have:=(List.pairwise_cons.1 ih').1 y e;omega
 exact this.imp (fun h=>by omega)
theorem Q41 {l:List Int} (hl:l.length≤10000) {post:Int×Bool→Prop} (hp:∀n b,(b=true↔¬l.Nodup)→post (n,b)):Wb l post:=by
 unfold Wb X5 QC QB Qp
 refine⟨by omega,?_⟩
 refine Each.inv l (fun i t=>t=l.take i) rfl (fun i x t hx ht Y hY=>?_) (fun t ht=>?_)
 ·have:=(List.getElem?_eq_some_iff.1 hx).1
  refine⟨by rw [ht];simp;omega,hY _ ?_⟩
  rw [ht,QY hx]
 rw [List.take_length] at ht;subst ht
 unfold Qt
 refine⟨by omega,?_⟩
 have hperm:=List.mergeSort_perm t (fun x y=>decide (x≤y))
 have hsort:(t.mergeSort fun x y=>decide (x≤y)).Pairwise (·≤·):=by
  have:=List.pairwise_mergeSort (le:=fun x y:Int=>decide (x≤y)) (fun a b c h1 h2=>by simp at *;omega) (fun a b=>by simp;omega) t
  exact this.imp (fun h=>by simpa using h)
 have hlen:=hperm.length_eq
 have hnd:=hperm.nodup_iff
 generalize t.mergeSort (fun x y=>decide (x≤y))=m at *
 refine Jn.mk (fun _=>m.Nodup) ?_ (fun _ h=>hp 0 false (by simp [←hnd,h]))
 refine Loop.inv (m.length-1) (fun i q=>q=(i:Int)+1∧∀(j:Nat) x y,j<i→m[j]?=some x→m[j+1]?=some y→x≠y) ⟨rfl,fun j x y h=>by omega⟩ (fun i q hi hq=>?_) (fun q hq=>Ite.f (by rw [hq.1];simp;omega) (Q7x hsort (fun j x y h1 h2=>hq.2 j x y (by have:=(List.getElem?_eq_some_iff.1 h2).1;omega) h1 h2)))
 obtain⟨hq,hI⟩:=hq
 subst hq
 have h1:=List.getElem?_eq_getElem (show i+1<m.length by omega)
 have h2:=List.getElem?_eq_getElem (show i<m.length by omega)
 refine Ite.lt (by omega) ⟨_,Qg (n:=i+1) (by omega) h1,_,Qg (n:=i) (by rw [Qy (by omega) (by omega)];omega) h2,Ite.mk (fun h3=>?_) (fun h3=>?_)⟩
 ·refine hp _ true ⟨fun _ hn=>?_,fun _=>rfl⟩
  have:=List.pairwise_iff_getElem.1 (hnd.2 hn) i (i+1) (by omega) (by omega) (by omega)
  exact this (by simpa using h3:m[i+1]=m[i]).symm
 ·refine⟨by rw [Qy (by omega) (by omega)];simp,fun j x y hj hx hy=>?_⟩
  by_cases e:j=i
  ·subst e;rw [h2] at hx;rw [h1] at hy;cases hx;cases hy
   intro e;rw [e] at h3;simp at h3
  ·exact hI j x y (by omega) hx hy
theorem Q36 {l:List Int} (hl:l.length≤10000) {post:Int×Bool→Prop} (hp:∀n b,(b=true↔¬l.Nodup)→post (n,b)):QR l post:=by
 have hT:∀{i j:Nat} {x:Int},j<i→l[i]?=some x→l[j]?=some x→¬l.Nodup:=fun {i j x} hji hi hj hn=>by
  have h1:=(List.getElem?_eq_some_iff.1 hi)
  have h2:=(List.getElem?_eq_some_iff.1 hj)
  obtain⟨a1,b1⟩:=h1
  obtain⟨a2,b2⟩:=h2
  exact List.pairwise_iff_getElem.1 hn j i (by omega) (by omega) hji (by rw [b1,b2])
 unfold QR
 refine Jn.mk (fun t:Bool×Int=>(t.1=false→l.Nodup)∧(t.1=true→¬l.Nodup)) (ZP (xs:=l) (by unfold maxLen;omega) (fun t:Bool×Int×Int=>t.2.2) (fun i t=>(t.1=false→(l.take i).Nodup)∧(t.1=true→¬l.Nodup)) rfl ⟨fun _=>by simp,fun h=>by cases h⟩ (fun i x t hx ht hI=>?_) (fun t h=>by rw [List.take_length] at h;exact h)) (fun t h=>hp _ _ ?_)
 rotate_left
 ·refine⟨h.2,fun hn=>?_⟩
  cases e:t.1 with
  | true=>rfl
  | false=>exact absurd (h.1 e) hn
 obtain⟨hI,hI2⟩:=hI
 have hlt:i<l.length:=(List.getElem?_eq_some_iff.1 hx).1
 refine Jn.mk (fun u:Bool×Int=>(u.1=false→(l.take (i+1)).Nodup)∧(u.1=true→¬l.Nodup)) ?_ (fun u hu=>⟨by show w64 (t.2.2+1)=_;rw [ht],hu⟩)
 refine Jn.mk (fun u:Bool×Int=>(u.1=false→(l.take (i+1)).Nodup)∧(u.1=true→¬l.Nodup)) ?_ (fun u hu=>hu)
 rw [ht]
 refine Q21 i (t0:=(t.1,t.2.1,0)) (fun t:Bool×Int×Int=>t.2.2) (fun m u=>(u.1=false→(l.take i).Nodup∧∀(j:Nat) y,j<m→l[j]?=some y→y≠x)∧(u.1=true→¬l.Nodup)) (by unfold maxLen;omega) rfl ⟨fun h=>⟨hI h,fun j y hj=>by omega⟩,hI2⟩ (fun m u hm hu hJ=>?_) (fun u h=>⟨?_,h.2⟩)
 ·obtain⟨hJ,hJ2⟩:=hJ
  have hy:=List.getElem?_eq_getElem (Nat.lt_trans hm hlt)
  generalize l[m]'_=y at hy
  refine Jn.mk (fun b=>(b=false→x=y→u.1=true)∧(b=true→x=y)) ⟨x,Qg rfl hx,y,Qg hu hy,Ite.mk (fun h1=>Ite.mk (fun h2=>⟨fun _ _=>h2,fun _=>by simpa using h1⟩) (fun _=>⟨fun h=>(by cases h),fun _=>by simpa using h1⟩)) (fun h1=>⟨fun _ h2=>(by subst h2;simp at h1),fun h=>by cases h⟩)⟩ (fun b hb=>?_)
  refine Jn.mk (fun v:Bool×Int=>(v.1=false→u.1=false∧x≠y)∧(v.1=true→¬l.Nodup)) (Ite.mk (fun h1=>⟨x,Qg rfl hx,fun h=>(by cases h),fun _=>hT hm hx (by rw [hb.2 h1];exact hy)⟩) (fun h1=>⟨fun h2=>⟨h2,fun e=>by rw [hb.1 h1 e] at h2;cases h2⟩,hJ2⟩)) (fun v hv=>⟨by show w64 (u.2.2+1)=_;rw [hu],fun h2=>?_,hv.2⟩)
  obtain⟨e1,e2⟩:=hv.1 h2
  obtain⟨g1,g2⟩:=hJ e1
  refine⟨g1,fun j z hj hz=>?_⟩
  by_cases e:j=m
  ·subst e;rw [hy] at hz;cases hz;exact fun h=>e2 h.symm
  ·exact g2 j z (by omega) hz
 ·intro hu
  obtain⟨g1,g2⟩:=h.1 hu
  rw [QY hx,List.nodup_append]
  refine⟨g1,by simp,fun a ha b hb=>?_⟩
  simp at hb;subst hb
  obtain⟨j,hj⟩:=List.getElem?_of_mem ha
  have hjl:=(List.getElem?_eq_some_iff.1 hj).1
  rw [List.getElem?_take_of_lt (by rw [List.length_take] at hjl;omega)] at hj
  exact g2 j a (by rw [List.length_take] at hjl;omega) hj
/-! ## Check -/
def fstB (s:ApiSite) (st:ApiState) (acts:List Int):Nat→Nat→Int
 | 0,_=>0
 | n+1,i=>if legS s st i (acts.getD i 0)=0 then fstB s st acts n (i+1) else legS s st i (acts.getD i 0)
def seqB (s:ApiSite) (acts:List Int):Nat→Nat→ApiState→Int
 | 0,_,_=>0
 | n+1,i,st=>if legS s st i (acts.getD i 0)=0 then seqB s acts n (i+1) (doS s st i (acts.getD i 0)) else legS s st i (acts.getD i 0)
open Classical in
noncomputable def chkS (s:ApiSite) (st:ApiState) (acts:List Int):Int:=
 if st.Tick≥20000 then 28 else if (acts.length:Int)≠st.Robots.length then 1
 else if fstB s st acts acts.length 0≠0 then fstB s st acts acts.length 0
 else if ¬(movL s.Floor st acts).Nodup then 15 else seqB s acts acts.length 0 st
theorem Q7y {s:ApiSite} {st:ApiState} {i a:Int} (h:legS s st i a=0):0≤a∧a<10:=(Q70 h).2
theorem Q7o {s:ApiSite} {st:ApiState} {acts:List Int} (k:Qh st) (h:LS s st) (hm:acts.length≤maxLen) {post:Int→Prop}
  {L:ApiState→Int→Int→(Int→Prop)→Prop} (hL:∀st,Qh st→LS s st→∀i a {q:Int→Prop},q (legS s st i a)→L st i a q)
  {D:ApiState→Int→Int→(ApiState→Prop)→Prop} (hD:∀st,Qh st→LS s st→∀i a {q:ApiState→Prop},0≤a→a<10→q (doS s st i a)→D st i a q)
  {M:(List Int→Prop)→Prop} (hM:∀{q:List Int→Prop},acts.length=st.Robots.length→(∀l,List.Perm l (movL s.Floor st acts)→q l)→M q)
  {C:List Int→(Int×Bool→Prop)→Prop} (hC:∀l {q:Int×Bool→Prop},l.length≤10000→(∀n b,(b=true↔¬l.Nodup)→q (n,b))→C l q) (hp:post (chkS s st acts)):
  Ite (decide (st.Tick≥20000)) (post 28) (Ite ((acts.length:Int) != (st.Robots.length:Int)) (post 1)
   (Jn (fun (J:Unit→Prop)=>Loop (fun (t:Int) Y=>Ite (decide (t<(acts.length:Int))) (∃x,idx acts t=some x∧L st t x (fun y=>Ite (y != 0) (post y) (Y (w64 (t+1))))) (J ())) 0)
    (fun (_:Unit)=>M (fun l=>C l (fun c=>Ite c.2 (post 15)
     (Jn (fun (J:Unit→Prop)=>Loop (fun (t:Int×List Int×List ApiRobot×List Int×List Int×List Q0×Int) Y=>Ite (decide (t.2.2.2.2.2.2<(acts.length:Int)))
      (∃x,idx acts t.2.2.2.2.2.2=some x∧L (stOf t) t.2.2.2.2.2.2 x (fun y=>Ite (y != 0) (post y) (D (stOf t) t.2.2.2.2.2.2 x (fun z=>Y (z.Tick,z.Shelves,z.Robots,z.People,z.Dead,z.Stuck,w64 (t.2.2.2.2.2.2+1)))))) (J ())) (st.Tick,st.Shelves,st.Robots,st.People,st.Dead,st.Stuck,0)) (fun _=>post 0))))))):=by
 unfold chkS at hp
 refine Ite.mk (fun h1=>by rw [if_pos (by simpa using h1)] at hp;exact hp) (fun h1=>?_)
 rw [if_neg (by simpa using h1)] at hp
 refine Ite.mk (fun h2=>by rw [if_pos (by simpa using h2)] at hp;exact hp) (fun h2=>?_)
 rw [if_neg (by simpa using h2)] at hp
 have hl:acts.length=st.Robots.length:=by simp at h2;omega
 refine Jn.mk (fun _=>fstB s st acts acts.length 0=0) (Loop.inv acts.length (fun i t=>t=(i:Int)∧fstB s st acts acts.length 0=fstB s st acts (acts.length-i) i) ⟨rfl,rfl⟩ (fun i t hi hI=>?_) (fun t hI=>?_)) (fun _ h3=>?_)
 ·obtain⟨ht,hI⟩:=hI
  have hx:=List.getElem?_eq_getElem hi
  generalize acts[i]=a at hx
  have hn:acts.length-i=(acts.length-(i+1))+1:=by omega
  rw [hn,fstB,Wn hx] at hI
  subst ht
  refine Ite.lt (by omega) ⟨a,Qg rfl hx,hL st k h i a (Ite.mk (fun h4=>?_) (fun h4=>?_))⟩
  ·have h4':legS s st i a≠0:=by simpa using h4
   rw [if_neg h4'] at hI
   rw [if_pos (by rw [hI];exact h4'),hI] at hp
   exact hp
  ·have h4':legS s st i a=0:=by simpa using h4
   rw [if_pos h4'] at hI
   exact⟨XJ hi hm,hI⟩
 ·obtain⟨ht,hI⟩:=hI
  rw [Nat.sub_self,fstB] at hI
  exact Ite.nlt (by omega) hI
 ·rw [if_neg (by simpa using h3)] at hp
  refine hM hl (fun l hperm=>hC l (by rw [hperm.length_eq];have:=Q4f h.sz s.Floor acts;omega) (fun n b hb=>Ite.mk (fun h4=>?_) (fun h4=>?_)))
  ·rw [if_pos (by rw [←hperm.nodup_iff];exact hb.1 h4)] at hp;exact hp
  ·rw [if_neg (by rw [←hperm.nodup_iff];intro hn;have:=hb.2 hn;simp only at h4;rw [h4] at this;cases this)] at hp
   refine Jn.mk (fun _=>seqB s acts acts.length 0 st=0) (Loop.inv acts.length (fun i t=>t.2.2.2.2.2.2=(i:Int)∧Qh (stOf t)∧LS s (stOf t)∧seqB s acts acts.length 0 st=seqB s acts (acts.length-i) i (stOf t)) ⟨rfl,k,h,rfl⟩ (fun i t hi hI=>?_) (fun t hI=>?_)) (fun _ h5=>by rw [h5] at hp;exact hp)
   ·obtain⟨ht,hk,hls,hI⟩:=hI
    have hx:=List.getElem?_eq_getElem hi
    generalize acts[i]=a at hx
    have hn':acts.length-i=(acts.length-(i+1))+1:=by omega
    rw [hn',seqB,Wn hx] at hI
    rw [ht]
    refine Ite.lt (by omega) ⟨a,Qg rfl hx,hL _ hk hls i a (Ite.mk (fun h6=>?_) (fun h6=>?_))⟩
    ·have h6':legS s (stOf t) i a≠0:=by simpa using h6
     rw [if_neg h6'] at hI
     rw [hI] at hp;exact hp
    ·have h6':legS s (stOf t) i a=0:=by simpa using h6
     rw [if_pos h6'] at hI
     have ha:=Q7y h6'
     have hd:=Qa6 hk hls (i:Int) a
     exact hD _ hk hls i a ha.1 ha.2 ⟨XJ hi hm,hd.2,hd.1,hI⟩
   ·obtain⟨ht,hk,hls,hI⟩:=hI
    rw [Nat.sub_self,seqB] at hI
    exact Ite.nlt (by omega) hI
theorem Q0Z (ks:Qz s) (k:Qh st) (h:LS s st) {acts:List Int} (ka:OkL I64 acts) {post:Int→Prop} (hp:post (chkS s st acts)):GM s st acts post:=by
 unfold GM
 exact Q7o k h ka.1 (L:=fun st i a q=>G7 s st i a q) (fun st k h i a q hq=>Q2C ks k h hq) (D:=fun st i a q=>Yz s st i a q) (fun st k h i a q h0 h9 hq=>Q6k ks k h h0 h9 hq)
  (M:=fun q=>GI s.Floor st acts q) (fun {q} hl hq=>Q3V h.fl h.sz hl hq) (C:=fun l q=>Wb l q) (fun l q hl hq=>Q41 hl hq) hp
theorem Q12 (ks:Qz s) (hr:ZH s) (k:Qh st) (h:LS s st) {acts:List Int} (ka:OkL I64 acts) {post:Int→Prop} (hp:post (chkS s st acts)):Ky s st acts post:=by
 unfold Ky
 exact Q7o k h ka.1 (L:=fun st i a q=>QQ s st i a q) (fun st k h i a q hq=>Q19 ks hr k h hq) (D:=fun st i a q=>Kr s st i a q) (fun st k h i a q h0 h9 hq=>Q3E ks hr k h h0 h9 hq)
  (M:=fun q=>Kn s.Floor st acts q) (fun {q} hl hq=>Q3i k h.fl h.sz ka hl hq) (C:=fun l q=>QR l q) (fun l q hl hq=>Q36 hl hq) hp
end
end Go.Taq
/- The mathematics, part AB: faults: which can happen, and what they do (arena.Possible, Happen and their references). -/
set_option linter.unusedVariables false
set_option linter.unusedSimpArgs false
namespace Go.Taq
open Go
def k0 (f:Q6) (c:Int):Int:=if isC f c=true then kd f c else 0
def Zn (st:ApiState) (i:Int):Bool:=decide (0≤i)&&decide (i<st.Robots.length)&&!(st.Robots.getD i.toNat default).Dead
def Q2A (n:Int):Bool:=decide (n≥1)&&decide (n≤20000)
def Q0M (s:ApiSite) (st:ApiState) (a c:Int):Bool:=
 (k0 s.Floor c == 4||k0 s.Floor c == 5)&&(!(allS st).contains (low c)&&!(allS st).contains (high c)) &&
 (if a=st.People.length then k0 s.Floor c == 5&&decide (a<20) else decide (0≤a)&&decide (a<st.People.length)&&YM s.Floor (st.People.getD a.toNat 0) c)
def Kx (s:ApiSite) (st:ApiState) (f:Qk):Bool:=
 if f.Kind=0 then true else if f.Kind=1 then Zn st f.A else if f.Kind=2 then k0 s.Floor f.A != 0&&!st.Dead.contains f.A
 else if f.Kind=3 then Zn st f.A&&Q2A f.N else if f.Kind=4 then k0 s.Floor f.A == 6&&Q2A f.N else if f.Kind=5 then Q0M s st f.A f.N else false
section
variable {s:ApiSite} {st:ApiState}
theorem Q4D {i:Int} {n:Nat} {r:ApiRobot} (hi:i=n) (h:st.Robots[n]?=some r):st.Robots.getD i.toNat default=r:=by subst hi;exact Wc h
theorem Q1Z {i:Int} {post:Bool→Prop} (hp:post (Zn st i)):Wa st i post:=by
 unfold Wa
 refine Jn.mk' (Ite.mk (fun h1=>Ite.mk (fun h2=>?_) (fun h2=>?_)) (fun h1=>?_))
 ·have h1':0≤i:=by simpa using h1
  obtain⟨n,hn⟩:=Int.eq_ofNat_of_zero_le h1'
  have h2':i<(st.Robots.length:Int):=by simpa using h2
  have hx:=List.getElem?_eq_getElem (show n<st.Robots.length by omega)
  refine⟨_,Qg hn hx,?_⟩
  have:Zn st i=!(st.Robots[n]).Dead:=by unfold Zn;rw [Q4D hn hx];simp [h1',h2']
  rw [←this];exact hp
 ·have:Zn st i=false:=by unfold Zn;rw [h2];simp
  rw [←this];exact hp
 ·have:Zn st i=false:=by unfold Zn;have:decide (0≤i)=false:=by simpa using h1
                         rw [this];simp
  rw [←this];exact hp
theorem Q0T {i:Int} {post:Bool→Prop} (hp:post (Zn st i)):KC st i post:=by
 unfold KC
 refine Jn.mk (fun b=>b=(decide (i<0)||decide (i≥(st.Robots.length:Int)))) (Ite.mk (fun h=>by rw [h];rfl) (fun h=>by rw [h];simp)) (fun b hb=>Ite.mk (fun h=>?_) (fun h=>?_))
 ·have:Zn st i=false:=by
   rw [h] at hb
   have:=hb.symm
   simp at this
   unfold Zn
   rcases this with h1 | h1
   ·have:decide (0≤i)=false:=by simpa using h1
    rw [this];simp
   ·have:decide (i<(st.Robots.length:Int))=false:=by simpa using h1
    rw [this];simp
  rw [←this];exact hp
 ·rw [h] at hb
  have:=hb.symm
  simp at this
  obtain⟨n,hn⟩:=Int.eq_ofNat_of_zero_le this.1
  have hx:=List.getElem?_eq_getElem (show n<st.Robots.length by omega)
  refine⟨_,Qg hn hx,?_⟩
  have:Zn st i=!(st.Robots[n]).Dead:=by unfold Zn;rw [Q4D hn hx];simp [this.1,this.2]
  rw [←this];exact hp
theorem Q7P {f:Q6} {c:Int} {post:Int→Prop} (hp:post (k0 f c)):
  Jn (fun (J4:Bool→Prop)=>Ite (decide (c<0)) (J4 true) (J4 (decide (c≥(f.Kind.length:Int))))) (fun (x3:Bool)=>Ite x3 (post 0) (∃x11,idx f.Kind c=some x11∧post x11)):=by
 unfold k0 at hp
 refine Jn.mk (fun b=>b=!isC f c) (Ite.mk (fun h=>?_) (fun h=>?_)) (fun b hb=>Ite.mk (fun h=>?_) (fun h=>?_))
 ·rw [Q5v.2 (by simp at h;omega)];rfl
 ·cases e:isC f c with
  | true=>have:=XT.1 e;simp;omega
  | false=>have:=Q5v.1 e;simp at h ⊢;omega
 ·rw [h] at hb
  have:isC f c=false:=by simpa using hb.symm
  rw [this] at hp;exact hp
 ·rw [h] at hb
  have:isC f c=true:=by simpa using hb.symm
  rw [if_pos this] at hp
  exact⟨_,Wl this,hp⟩
theorem ZD {f:Q6} {c:Int} {post:Int→Prop} (hp:post (k0 f c)):Gw f c post:=by unfold Gw;exact Q7P hp
theorem ZG {c:Int} {post:Int→Prop} (hp:post (k0 s.Floor c)):Ki s c post:=by unfold Ki;exact Q7P hp
theorem Q4m (hf:RF s.Floor) (hz:Sz st) {a c:Int} {post:Bool→Prop} (hp:post (Q0M s st a c)):Wr s st a c post:=by
 unfold Wr Xt KE
 unfold Q0M at hp
 refine ZD (Jn.mk (fun b=>b=!(k0 s.Floor c == 4||k0 s.Floor c == 5)) (Ite.mk (fun h=>?_) (fun h=>?_)) (fun b hb=>Ite.mk (fun h=>?_) (fun h=>?_)))
 ·have:(k0 s.Floor c == 4)=false:=by simpa using h
  rw [this];simp [bne]
 ·have:(k0 s.Floor c == 4)=true:=by simpa using h
  rw [this];rfl
 ·rw [h] at hb
  have:(k0 s.Floor c == 4||k0 s.Floor c == 5)=false:=by cases e:(k0 s.Floor c == 4||k0 s.Floor c == 5) with
   | false=>rfl
   | true=>rw [e] at hb;cases hb
  rw [this] at hp;simpa using hp
 ·rw [h] at hb
  have:(k0 s.Floor c == 4||k0 s.Floor c == 5)=true:=by cases e:(k0 s.Floor c == 4||k0 s.Floor c == 5) with
   | true=>rfl
   | false=>rw [e] at hb;cases hb
  rw [this,Bool.true_and] at hp
  refine Q3w hz (fun l hl=>?_)
  rw [←Kf hl,←Kf hl] at hp
  have hll:l.length≤maxLen:=by have:=hl.length_eq;have:=WD hz;unfold maxLen;omega
  have hany:(l.any fun x=>x == low c||x == high c)=!(!l.contains (low c)&&!l.contains (high c)):=by
   cases e1:l.contains (low c) with
   | true=>
    have h1:low c∈l:=by simpa using e1
    show _=true
    exact List.any_eq_true.2 ⟨_,h1,by simp⟩
   | false=>
    cases e2:l.contains (high c) with
    | true=>
     have h1:high c∈l:=by simpa using e2
     show _=true
     exact List.any_eq_true.2 ⟨_,h1,by simp⟩
    | false=>
     have h1:low c∉l:=by simpa using e1
     have h2:high c∉l:=by simpa using e2
     show _=false
     cases e3:(l.any fun x=>x == low c||x == high c) with
     | false=>rfl
     | true=>
      obtain⟨x,hx,h⟩:=List.any_eq_true.1 e3
      simp at h
      rcases h with h | h <;> subst h
      ·exact absurd hx h1
      ·exact absurd hx h2
  refine Jn.mk (fun _=>(l.any fun x=>x == low c||x == high c)=false) (Wg (xs:=l) hll (fun t:Int=>t) (fun i _=>∀x,x∈l.take i→(x == low c||x == high c)=false) rfl (fun x hx=>by simp at hx) (fun i x t hx ht hI=>?_) (fun t hI=>?_)) (fun _ hn=>?_)
  ·refine Jn.mk (fun b=>b=(x == low c||x == high c)) (Ite.mk (fun h1=>?_) (fun h1=>?_)) (fun b hb=>Ite.mk (fun h2=>?_) (fun h2=>⟨by rw [ht],fun y hy=>?_⟩))
   ·have:(x == low c)=true:=h1
    rw [this];rfl
   ·have:(x == low c)=false:=h1
    rw [this];rfl
   ·have:(l.any fun x=>x == low c||x == high c)=true:=List.any_eq_true.2 ⟨x,List.mem_of_getElem? hx,by rw [←hb];exact h2⟩
    rw [hany] at this
    have:(!l.contains (low c)&&!l.contains (high c))=false:=by
     cases e:(!l.contains (low c)&&!l.contains (high c)) with
     | false=>rfl
     | true=>rw [e] at this;cases this
    rw [this] at hp;exact hp
   ·rw [QY hx] at hy
    rcases List.mem_append.1 hy with h | h
    ·exact hI y h
    ·simp at h;subst h;rw [←hb];exact h2
  ·rw [List.take_length] at hI
   cases e:(l.any fun x=>x == low c||x == high c) with
   | false=>rfl
   | true=>obtain⟨x,hx,h⟩:=List.any_eq_true.1 e;rw [hI x hx] at h;cases h
  ·rw [hany] at hn
   have:(!l.contains (low c)&&!l.contains (high c))=true:=by
    cases e:(!l.contains (low c)&&!l.contains (high c)) with
    | true=>rfl
    | false=>rw [e] at hn;cases hn
   rw [this,Bool.true_and] at hp
   refine Ite.mk (fun h1=>?_) (fun h1=>?_)
   ·rw [if_pos (by simpa using h1)] at hp
    exact YS hp
   ·rw [if_neg (by simpa using h1)] at hp
    refine Jn.mk' (Ite.mk (fun h2=>Ite.mk (fun h3=>?_) (fun h3=>?_)) (fun h2=>?_))
    ·have h2':0≤a:=by simpa using h2
     obtain⟨n,hn⟩:=Int.eq_ofNat_of_zero_le h2'
     have h3':a<(st.People.length:Int):=by simpa using h3
     have hx:=List.getElem?_eq_getElem (show n<st.People.length by omega)
     have e:∀y,st.People[n]?=some y→st.People.getD a.toNat 0=y:=fun y hy=>by rw [hn];exact Wn hy
     rw [e _ hx] at hp
     refine⟨_,Qg hn hx,Q1W hf ?_⟩
     rw [decide_eq_true h2',decide_eq_true h3'] at hp;exact hp
    ·rw [h3] at hp;simpa using hp
    ·have:decide (0≤a)=false:=by simpa using h2
     rw [this] at hp;simpa using hp
theorem Q5w {f:Qk} (h:f.Kind=0):Kx s st f=true:=by unfold Kx;rw [if_pos h]
theorem Q2U {f:Qk} (h:f.Kind=1):Kx s st f=Zn st f.A:=by unfold Kx;rw [if_neg (by omega),if_pos h]
theorem Q5J {f:Qk} (h:f.Kind=2):Kx s st f=(k0 s.Floor f.A != 0&&!st.Dead.contains f.A):=by unfold Kx;rw [if_neg (by omega),if_neg (by omega),if_pos h]
theorem Q2H {f:Qk} (h:f.Kind=3):Kx s st f=(Zn st f.A&&Q2A f.N):=by unfold Kx;rw [if_neg (by omega),if_neg (by omega),if_neg (by omega),if_pos h]
theorem Q5B {f:Qk} (h:f.Kind=4):Kx s st f=(k0 s.Floor f.A == 6&&Q2A f.N):=by unfold Kx;rw [if_neg (by omega),if_neg (by omega),if_neg (by omega),if_neg (by omega),if_pos h]
theorem Q2x {f:Qk} (h:f.Kind=5):Kx s st f=Q0M s st f.A f.N:=by unfold Kx;rw [if_neg (by omega),if_neg (by omega),if_neg (by omega),if_neg (by omega),if_neg (by omega),if_pos h]
theorem Q1F {f:Qk} (h0:f.Kind≠0) (h1:f.Kind≠1) (h2:f.Kind≠2) (h3:f.Kind≠3) (h4:f.Kind≠4) (h5:f.Kind≠5):Kx s st f=false:=by
 unfold Kx;rw [if_neg h0,if_neg h1,if_neg h2,if_neg h3,if_neg h4,if_neg h5]
def Q1e (s:ApiSite) (st:ApiState) (f:Qk):Int:=if Kx s st f=true then 0 else 26
theorem WL (hf:RF s.Floor) (hz:Sz st) {f:Qk} {post:Int→Prop} (hp:post (Q1e s st f)):KW s st f post:=by
 unfold KW
 refine Jn.mk (fun b=>b=Q2A f.N) (Ite.mk (fun h=>?_) (fun h=>?_)) (fun lg hlg=>?_)
 ·unfold Q2A;rw [h];rfl
 ·unfold Q2A;rw [h];rfl
 refine Jn.mk (fun b=>b=Kx s st f) ?_ (fun b hb=>?_)
 rotate_left
 ·unfold Q1e at hp
  refine Ite.mk (fun h=>?_) (fun h=>?_)
  ·have:b=false:=by simpa using h
   rw [this] at hb;rw [←hb,if_neg (by simp)] at hp;exact hp
  ·have:b=true:=by simpa using h
   rw [this] at hb;rw [←hb,if_pos rfl] at hp;exact hp
 refine Ite.mk (fun h=>(Q5w (by simpa using h)).symm) (fun h0=>Jn.mk' (Ite.mk (fun h=>?_) (fun h1=>Jn.mk' (Ite.mk (fun h=>?_) (fun h2=>Jn.mk' (Ite.mk (fun h=>?_) (fun h3=>Jn.mk' (Ite.mk (fun h=>?_) (fun h4=>Jn.mk' (Ite.mk (fun h=>?_) (fun h5=>?_)))))))))))
 ·exact Q1Z (Q2U (by simpa using h)).symm
 ·have e:=Q5J (s:=s) (st:=st) (f:=f) (by simpa using h)
  refine Jn.mk' (ZD (Ite.mk (fun h=>XN (by have:=hz.dd;unfold maxLen;omega) ?_) (fun h=>?_)))
  ·show _=Kx s st f
   rw [e,h];rfl
  ·show _=Kx s st f
   rw [e,h];rfl
 ·have e:=Q2H (s:=s) (st:=st) (f:=f) (by simpa using h)
  refine Jn.mk' (Q1Z (Ite.mk (fun h=>?_) (fun h=>?_)))
  ·show _=Kx s st f
   rw [e,h,hlg];rfl
  ·show _=Kx s st f
   rw [e,h];rfl
 ·have e:=Q5B (s:=s) (st:=st) (f:=f) (by simpa using h)
  refine Jn.mk' (ZD (Ite.mk (fun h=>?_) (fun h=>?_)))
  ·show _=Kx s st f
   rw [e,h,hlg];rfl
  ·show _=Kx s st f
   rw [e,h];rfl
 ·exact Q4m hf hz (Q2x (by simpa using h)).symm
 ·exact (Q1F (by simpa using h0) (by simpa using h1) (by simpa using h2) (by simpa using h3) (by simpa using h4) (by simpa using h5)).symm
theorem WN (hf:RF s.Floor) (k:Qh st) (hz:Sz st) {f:Qk} {post:Int→Prop} (hp:post (Q1e s st f)):QU s st f post:=by
 unfold QU
 refine Jn.mk (fun b=>b=Kx s st f) ?_ (fun b hb=>?_)
 rotate_left
 ·unfold Q1e at hp
  refine Ite.mk (fun h=>?_) (fun h=>?_)
  ·have:b=false:=by simpa using h
   rw [this] at hb;rw [←hb,if_neg (by simp)] at hp;exact hp
  ·have:b=true:=by simpa using h
   rw [this] at hb;rw [←hb,if_pos rfl] at hp;exact hp
 have hlong:∀{q:Bool→Prop},q (Q2A f.N)→Ite (decide (f.N≥1)) (q (decide (f.N≤20000))) (q false):=fun {q} hq=>by
  unfold Q2A at hq
  refine Ite.mk (fun h=>by rw [h] at hq;exact hq) (fun h=>by rw [h] at hq;exact hq)
 refine Ite.mk (fun h=>(Q5w (by simpa using h)).symm) (fun h0=>Jn.mk' (Ite.mk (fun h=>?_) (fun h1=>Jn.mk' (Ite.mk (fun h=>?_) (fun h3=>Jn.mk' (Ite.mk (fun h=>?_) (fun h2=>Jn.mk' (Ite.mk (fun h=>?_) (fun h4=>Jn.mk' (Ite.mk (fun h=>?_) (fun h5=>?_)))))))))))
 ·exact Q0T (Q2U (by simpa using h)).symm
 ·have e:=Q2H (s:=s) (st:=st) (f:=f) (by simpa using h)
  refine Jn.mk' (Q0T (Ite.mk (fun h=>hlong (q:=fun b=>b=Kx s st f) ?_) (fun h=>?_)))
  ·rw [e,h];rfl
  ·show _=Kx s st f
   rw [e,h];rfl
 ·have e:=Q5J (s:=s) (st:=st) (f:=f) (by simpa using h)
  refine Jn.mk' (ZG (Ite.mk (fun h=>GG (by have:=hz.dd;unfold maxLen;omega) ?_) (fun h=>?_)))
  ·show _=Kx s st f
   rw [e,h];rfl
  ·show _=Kx s st f
   rw [e,h];rfl
 ·have e:=Q5B (s:=s) (st:=st) (f:=f) (by simpa using h)
  refine Jn.mk' (ZG (Ite.mk (fun h=>hlong (q:=fun b=>b=Kx s st f) ?_) (fun h=>?_)))
  ·rw [e,h];rfl
  ·show _=Kx s st f
   rw [e,h];rfl
 ·have e:=Q2x (s:=s) (st:=st) (f:=f) (by simpa using h)
  refine ZG (Z7 hz k (fun l hl=>?_))
  have hll:l.length≤maxLen:=by have:=hl.length_eq;have:=WD hz;unfold maxLen;omega
  refine Jn.mk (fun b=>b=(!(allS st).contains (low f.N)&&!(allS st).contains (high f.N))) (GG hll (Ite.mk (fun h=>?_) (fun h=>GG hll ?_))) (fun x63 h63=>?_)
  ·have h':(allS st).contains (low f.N)=true:=by rw [←Kf hl];exact h
   rw [h'];rfl
  ·have h':(allS st).contains (low f.N)=false:=by rw [←Kf hl];exact h
   rw [h',←Kf hl];rfl
  refine Jn.mk (fun b=>b=(decide (f.A≥0)&&decide (f.A<(st.People.length:Int)))) (Ite.mk (fun h=>by rw [h];rfl) (fun h=>by rw [h];rfl)) (fun x68 h68=>?_)
  have fin:∀b,b=Q0M s st f.A f.N→b=Kx s st f:=fun b hb=>by rw [e];exact hb
  refine Jn.mk' (Ite.mk (fun h=>Jn.mk' ?_) (fun h=>Jn.mk' ?_))
  ·rw [h] at h68
   have hA:=h68.symm
   simp at hA
   obtain⟨n,hn⟩:=Int.eq_ofNat_of_zero_le hA.1
   have hx:=List.getElem?_eq_getElem (show n<st.People.length by omega)
   have eP0:∀y,st.People[n]?=some y→st.People.getD f.A.toNat 0=y:=fun y hy=>by rw [hn];exact Wn hy
   have eP:=eP0 _ hx
   have eS:Q0M s st f.A f.N=((k0 s.Floor f.N == 4||k0 s.Floor f.N == 5)&&x63&&YM s.Floor st.People[n] f.N):=by
    unfold Q0M;rw [if_neg (by omega),←h63,eP,decide_eq_true hA.1,decide_eq_true hA.2];rfl
   refine Ite.mk (fun h6=>?_) (fun h6=>fin _ (by rw [eS,h6];simp))
   refine Ite.mk (fun h7=>⟨_,Qg hn hx,ZE hf (fin _ (by rw [eS,h6,h7];simp))⟩) (fun h7=>Ite.mk (fun h8=>⟨_,Qg hn hx,ZE hf (fin _ (by rw [eS,h6,h7,h8];simp))⟩) (fun h8=>fin _ (by rw [eS,h7,h8];simp)))
  ·rw [h] at h68
   have hA:¬(0≤f.A∧f.A<(st.People.length:Int)):=fun hc=>by
    rw [decide_eq_true (show f.A≥0 from hc.1),decide_eq_true hc.2] at h68;cases h68
   by_cases hl2:f.A=(st.People.length:Int)
   ·have eS:Q0M s st f.A f.N=((k0 s.Floor f.N == 4||k0 s.Floor f.N == 5)&&x63&&(k0 s.Floor f.N == 5&&decide (f.A<20))):=by
     unfold Q0M;rw [if_pos hl2,←h63]
    refine Ite.mk (fun h6=>Ite.mk (fun h7=>Ite.mk (fun h8=>fin _ (by rw [eS,h6,h7];simp)) (fun h8=>absurd hl2 (by simpa using h8))) (fun h7=>fin _ (by rw [eS,h7];simp))) (fun h6=>fin _ (by rw [eS,h6];simp))
   ·have eS:Q0M s st f.A f.N=false:=by
     unfold Q0M;rw [if_neg hl2]
     have:(decide (0≤f.A)&&decide (f.A<(st.People.length:Int)))=false:=by
      cases e:(decide (0≤f.A)&&decide (f.A<(st.People.length:Int))) with
      | false=>rfl
      | true=>simp at e;exact absurd e hA
     rw [this];simp
    refine Ite.mk (fun h6=>Ite.mk (fun h7=>Ite.mk (fun h8=>absurd (by simpa using h8) hl2) (fun h8=>fin _ eS.symm)) (fun h7=>fin _ eS.symm)) (fun h6=>fin _ eS.symm)
 ·exact (Q1F (by simpa using h0) (by simpa using h1) (by simpa using h2) (by simpa using h3) (by simpa using h4) (by simpa using h5)).symm
/-! ## what happens -/
def srtI (l:List Int):List Int:=l.mergeSort fun x y=>decide (x≤y)
theorem Q2K (l:List Int):List.Perm (srtI l) l:=List.mergeSort_perm _ _
theorem Q76 (l:List Int):(srtI l).Pairwise (·≤·):=by
 have:=List.pairwise_mergeSort (le:=fun x y:Int=>decide (x≤y)) (fun a b c h1 h2=>by simp at *;omega) (fun a b=>by simp;omega) l
 exact this.imp (fun h=>by simpa using h)
theorem Q85 {l m:List Int} (h1:l.Pairwise (·≤·)) (h2:m.Pairwise (·≤·)) (hp:List.Perm l m):l=m:=
 List.Perm.eq_of_pairwise (fun a b _ _ h3 h4=>by omega) h1 h2 hp
theorem Q8T {l:List Int} (h:l.Pairwise (·≤·)) (n:Int):(putA l n).Pairwise (·≤·):=by
 induction l with
 | nil=>unfold putA;simp
 | cons x xs ih=>
  have h':=List.pairwise_cons.1 h
  unfold putA
  split
  ·rename_i hx
   refine List.pairwise_cons.2 ⟨fun y hy=>?_,h⟩
   rcases List.mem_cons.1 hy with e | e
   ·subst e;omega
   ·have:=h'.1 y e;omega
  ·rename_i hx
   refine List.pairwise_cons.2 ⟨fun y hy=>?_,ih h'.2⟩
   rcases List.mem_append.1 ((Q2O xs n).mem_iff.1 hy) with e | e
   ·exact h'.1 y e
   ·simp at e;subst e;omega
theorem Q2u {l:List Int} (hl:l.length≤10000) {post:List Int→Prop} (hp:post (srtI l)):QL l post:=by
 unfold QL
 refine Jn.mk (fun u=>List.Perm u l∧u.Pairwise (·≤·)) (Wg (xs:=l) (by unfold maxLen;omega) (fun t:List Int×Int=>t.2) (fun i t=>List.Perm t.1 (l.take i)∧t.1.Pairwise (·≤·)) rfl ⟨.refl _,.nil⟩ (fun i x t hx ht hI=>?_) (fun t h=>by rw [List.take_length] at h;exact h)) (fun u hu=>by rw [Q85 hu.2 (Q76 l) (hu.1.trans (Q2K l).symm)];exact hp)
 have hlt:i<l.length:=(List.getElem?_eq_some_iff.1 hx).1
 refine Q1X (by rw [hI.1.length_eq,List.length_take];omega) ⟨by show w64 (t.2+1)=_;rw [ht],?_,Q8T hI.2 x⟩
 show List.Perm (putA t.1 x) _
 rw [QY hx]
 exact (Q2O _ _).trans (hI.1.append_right _)
def K8 (c n:Int):List Q0→List Q0
 | []=>[{Cell:=c,Left:=n}]
 | x :: r=>if x.Cell<c then x :: K8 c n r else if x.Cell=c then {Cell:=c,Left:=imax x.Left n} :: r else {Cell:=c,Left:=n} :: x :: r
theorem Ww {c n:Int}:∀{p:List Q0} (q:List Q0),(∀x,x∈p→x.Cell<c)→K8 c n (p++q)=p++K8 c n q
 | [],_,_=>rfl
 | x :: p,q,h=>by
  show K8 c n (x :: (p++q))=_
  rw [K8,if_pos (h x (by simp)),Ww q (fun y hy=>h y (by simp [hy]))];rfl
theorem Q1C (c n:Int):∀l:List Q0,l.length≤(K8 c n l).length∧(K8 c n l).length≤l.length+1
 | []=>by simp [K8]
 | x :: r=>by
  have:=Q1C c n r
  unfold K8;split
  ·simp;omega
  ·split <;> simp
theorem Q3X {c n:Int} {l:List Q0} (hl:l.length≤1000) {post:List Q0→Prop} (hp:post (K8 c n l)):XL c n l post:=by
 unfold XL Qq
 refine Q0z (xs:=l) (by unfold maxLen;omega) (fun x:Q0=>decide (x.Cell≥c)) (T:=fun x q=>Gv x c q) (fun x _ q hq=>by unfold Gv;exact hq) (post:=fun m=>Ite (decide (m<0)) _ _) ?_
 rcases Wx (fun x:Q0=>decide (x.Cell≥c)) l with ⟨i,x,hx,e,hpx,hb⟩ | ⟨e,hb⟩
 ·rw [e]
  have hlt:=(List.getElem?_eq_some_iff.1 hx).1
  have hsplit:l=l.take i++x :: l.drop (i+1):=by
   have h1:=(List.getElem?_eq_some_iff.1 hx).2
   conv=>lhs;rw [←List.take_append_drop i l]
   rw [List.drop_eq_getElem_cons hlt,h1]
  have hlow:∀y,y∈l.take i→y.Cell<c:=fun y hy=>by
   obtain⟨j,hj⟩:=List.getElem?_of_mem hy
   have hjl:=(List.getElem?_eq_some_iff.1 hj).1
   rw [List.length_take] at hjl
   rw [List.getElem?_take,if_pos (by omega)] at hj
   have:=hb j y (by omega) hj
   simpa using this
  have hpx':c≤x.Cell:=by simpa using hpx
  have est:K8 c n l=l.take i++K8 c n (x :: l.drop (i+1)):=by
   conv=>lhs;rw [hsplit]
   exact Ww _ hlow
  refine Ite.f (decide_eq_false (by omega)) ⟨x,Qg rfl hx,Ite.mk (fun h=>?_) (fun h=>?_)⟩
  ·have hc:x.Cell=c:=by simpa using h
   have:l.set (Int.toNat (i:Int)) {Cell:=x.Cell,Left:=imax x.Left n}=K8 c n l:=by
    rw [est,K8,if_neg (by omega),if_pos hc]
    show l.set i _=_
    conv=>lhs;rw [hsplit]
    have hti:(l.take i).length=i:=by rw [List.length_take];omega
    rw [List.set_append,if_neg (by omega),hti,Nat.sub_self,List.set_cons_zero,hc]
   rw [this];exact hp
  ·have hc:x.Cell≠c:=by simpa using h
   unfold QG
   refine⟨by omega,by simp,by rw [List.length_singleton];omega,?_⟩
   have:l.take (Int.toNat (i:Int))++([{Cell:=c,Left:=n}]++l.drop (Int.toNat (i:Int)))=K8 c n l:=by
    rw [est,K8,if_neg (by omega),if_neg hc]
    show l.take i++([_]++l.drop i)=_
    rw [List.drop_eq_getElem_cons hlt,(List.getElem?_eq_some_iff.1 hx).2];rfl
   rw [this];exact hp
 ·rw [e]
  refine Ite.t (by decide) ⟨by simp;omega,?_⟩
  have:K8 c n l=l++K8 c n []:=by
   have:=Ww (n:=n) (p:=l) [] (fun x hx=>by simpa using hb x hx)
   simpa using this
  rw [this] at hp;exact hp
end
end Go.Taq
/- The mathematics, part AC: what a fault does (arena.Happen and its reference). -/
set_option linter.unusedVariables false
set_option linter.unusedSimpArgs false
namespace Go.Taq
open Go
def setR (st:ApiState) (i:Int) (r:ApiRobot):ApiState:={st with Robots:=st.Robots.set i.toNat r}
def rAt (st:ApiState) (i:Int):ApiRobot:=st.Robots.getD i.toNat default
def Wt (s:ApiSite) (st:ApiState) (f:Qk):ApiState:=
 if Kx s st f=false then st
 else if f.Kind=1 then setR st f.A {rAt st f.A with Dead:=true}
 else if f.Kind=2 then {st with Dead:=srtI (st.Dead++[f.A])}
 else if f.Kind=3 then setR st f.A {rAt st f.A with Mute:=f.N}
 else if f.Kind=4 then {st with Stuck:=K8 f.A f.N st.Stuck}
 else if f.Kind=5 then {st with People:=if f.A=st.People.length then st.People++[f.N] else st.People.set f.A.toNat f.N}
 else st
theorem Q8m {α:Type} {l:List α} {g:α→Int} (h:∀(i:Nat) x y,l[i]?=some x→l[i+1]?=some y→g x<g y):∀(i j:Nat) x y,i<j→l[i]?=some x→l[j]?=some y→g x<g y:=by
 intro i j
 induction j with
 | zero=>intro x y h0;omega
 | succ j ih=>
  intro x y hij hx hy
  by_cases e:i=j
  ·subst e;exact h i x y hx hy
  ·have hjl:=(List.getElem?_eq_some_iff.1 hy).1
   have hz:=List.getElem?_eq_getElem (show j<l.length by omega)
   have h1:=ih x _ (by omega) hx hz
   have h2:=h j _ y hz hy
   omega
theorem Q3J {c n:Int}:∀{p:List Q0} (q:List Q0),(∃x,x∈p∧c≤x.Cell)→K8 c n (p++q)=K8 c n p++q
 | [],_,h=>by obtain⟨x,hx,_⟩:=h;cases hx
 | x :: p,q,h=>by
  show K8 c n (x :: (p++q))=_
  rw [K8,K8]
  split
  ·rename_i hc
   obtain⟨y,hy,hcy⟩:=h
   rcases List.mem_cons.1 hy with e | e
   ·subst e;omega
   ·rw [Q3J q ⟨y,e,hcy⟩];rfl
  ·split <;> rfl
section
variable {s:ApiSite} {st:ApiState}
theorem Q4e {f:Qk} (h:Kx s st f=false):Wt s st f=st:=by unfold Wt;rw [if_pos h]
theorem Q5m {f:Qk} (h:f.Kind=0):Wt s st f=st:=by unfold Wt;rw [if_neg (by rw [Q5w h];simp),if_neg (by omega),if_neg (by omega),if_neg (by omega),if_neg (by omega),if_neg (by omega)]
theorem Q6p {f:Qk} (hb:Kx s st f=true) (h:f.Kind=1):Wt s st f=setR st f.A {rAt st f.A with Dead:=true}:=by unfold Wt;rw [if_neg (by rw [hb];simp),if_pos h]
theorem Q5d {f:Qk} (hb:Kx s st f=true) (h:f.Kind=2):Wt s st f={st with Dead:=srtI (st.Dead++[f.A])}:=by unfold Wt;rw [if_neg (by rw [hb];simp),if_neg (by omega),if_pos h]
theorem Q6s {f:Qk} (hb:Kx s st f=true) (h:f.Kind=3):Wt s st f=setR st f.A {rAt st f.A with Mute:=f.N}:=by unfold Wt;rw [if_neg (by rw [hb];simp),if_neg (by omega),if_neg (by omega),if_pos h]
theorem Q68 {f:Qk} (hb:Kx s st f=true) (h:f.Kind=4):Wt s st f={st with Stuck:=K8 f.A f.N st.Stuck}:=by unfold Wt;rw [if_neg (by rw [hb];simp),if_neg (by omega),if_neg (by omega),if_neg (by omega),if_pos h]
theorem Q3R {f:Qk} (hb:Kx s st f=true) (h:f.Kind=5):Wt s st f={st with People:=if f.A=st.People.length then st.People++[f.N] else st.People.set f.A.toNat f.N}:=by unfold Wt;rw [if_neg (by rw [hb];simp),if_neg (by omega),if_neg (by omega),if_neg (by omega),if_neg (by omega),if_pos h]
theorem YQ {i:Int} (h:Zn st i=true):∃(n:Nat) (r:ApiRobot),i=n∧st.Robots[n]?=some r∧r.Dead=false∧rAt st i=r:=by
 unfold Zn at h
 simp only [Bool.and_eq_true,decide_eq_true_eq] at h
 obtain⟨⟨h1,h2⟩,h3⟩:=h
 obtain⟨n,hn⟩:=Int.eq_ofNat_of_zero_le h1
 have hx:=List.getElem?_eq_getElem (show n<st.Robots.length by omega)
 rw [Q4D hn hx] at h3
 exact⟨n,_,hn,hx,by simpa using h3,Q4D hn hx⟩
theorem Q5A {a c:Int} (h:Q0M s st a c=true):a=st.People.length∨∃n:Nat,a=n∧n<st.People.length:=by
 unfold Q0M at h
 simp only [Bool.and_eq_true] at h
 by_cases e:a=st.People.length
 ·exact .inl e
 ·rw [if_neg e] at h
  simp only [Bool.and_eq_true,decide_eq_true_eq] at h
  obtain⟨n,hn⟩:=Int.eq_ofNat_of_zero_le h.2.1.1
  exact .inr ⟨n,hn,by omega⟩
theorem Y6 {f:Qk}:Q1e s st f=0↔Kx s st f=true:=by
 unfold Q1e;cases Kx s st f <;> simp
def st4 (st:ApiState) (t:List ApiRobot×List Int×List Int×List Q0):ApiState:={st with Robots:=t.1,People:=t.2.1,Dead:=t.2.2.1,Stuck:=t.2.2.2}
theorem Q0f (hf:RF s.Floor) (hz:Sz st) {f:Qk} {post:ApiState→Prop} (hp:post (Wt s st f)):Gk s st f post:=by
 unfold Gk
 refine ZL hz (WL hf hz (Ite.mk (fun h=>?_) (fun h=>?_)))
 ·have:Kx s st f=false:=by
   have h1:Q1e s st f≠0:=by simpa using h
   cases e:Kx s st f with
   | false=>rfl
   | true=>exact absurd (Y6.2 e) h1
  rw [Q4e this] at hp;exact hp
 have hb:Kx s st f=true:=Y6.1 (by simpa using h)
 have q3:=hz.pp;have q4:=hz.dd;have q5:=hz.sk
 refine Jn.mk (fun t=>st4 st t=Wt s st f) ?_ (fun t ht=>by rw [←ht] at hp;exact hp)
 refine Ite.mk (fun h1=>?_) (fun h1=>Jn.mk' (Ite.mk (fun h2=>?_) (fun h2=>Jn.mk' (Ite.mk (fun h3=>?_) (fun h3=>Jn.mk' (Ite.mk (fun h4=>?_) (fun h4=>Jn.mk' (Ite.mk (fun h5=>?_) (fun h5=>?_)))))))))
 ·have e:f.Kind=1:=by simpa using h1
  have hl:=hb;rw [Q2U e] at hl
  obtain⟨n,r,hn,hx,_,hr⟩:=YQ hl
  refine⟨r,Qg hn hx,?_⟩
  rw [Q6p hb e,hr];rfl
 ·have e:f.Kind=2:=by simpa using h2
  unfold Qt
  refine⟨by simp;omega,by simp;omega,?_⟩
  show st4 st _=_
  rw [Q5d hb e];rfl
 ·have e:f.Kind=3:=by simpa using h3
  have hl:=hb;rw [Q2H e,Bool.and_eq_true] at hl
  obtain⟨n,r,hn,hx,_,hr⟩:=YQ hl.1
  refine⟨r,Qg hn hx,?_⟩
  show st4 st _=_
  rw [Q6s hb e,hr];rfl
 ·have e:f.Kind=4:=by simpa using h4
  refine Q3X q5 ?_
  show st4 st _=_
  rw [Q68 hb e];rfl
 ·have e:f.Kind=5:=by simpa using h5
  have hl:=hb;rw [Q2x e] at hl
  refine Jn.mk (fun l=>l=if f.A=st.People.length then st.People++[f.N] else st.People) (Ite.mk (fun h6=>⟨by simp;omega,by rw [if_pos (by simpa using h6)]⟩) (fun h6=>by rw [if_neg (by simpa using h6)])) (fun l hl2=>?_)
  rcases Q5A hl with hA | ⟨n,hA,hn⟩
  ·rw [if_pos hA] at hl2
   refine⟨f.N,?_,?_⟩
   ·rw [hl2];exact Qg hA (by simp)
   ·show st4 st _=_
    rw [Q3R hb e,if_pos hA,hl2,hA]
    show st4 st (st.Robots,(st.People++[f.N]).set st.People.length f.N,st.Dead,st.Stuck)=_
    rw [Q8P];rfl
  ·rw [if_neg (by omega)] at hl2
   subst hl2
   refine⟨_,Qg hA (List.getElem?_eq_getElem hn),?_⟩
   show st4 st _=_
   rw [Q3R hb e,if_neg (by omega)];rfl
 ·show st4 st _=_
  by_cases e:f.Kind=0
  ·rw [Q5m e];rfl
  ·have:=Q1F (s:=s) (st:=st) e (by simpa using h1) (by simpa using h2) (by simpa using h3) (by simpa using h4) (by simpa using h5)
   rw [this] at hb;cases hb
theorem Q8O {l:List Q0} (hl:l.length≤1000) (ha:∀(i:Nat) x y,l[i]?=some x→l[i+1]?=some y→x.Cell<y.Cell) {c n:Int} {K:List Q0→Prop} (hK:K (K8 c n l)):
  Jn (fun (J55:(List Q0×Int×Bool)→Prop)=>Loop (fun (s56:List Q0×Int×Bool×Int) Y57=>Ite (decide (s56.2.2.2<(l.length:Int)))
   (Jn (fun (J62:(List Q0×Int×Bool)→Prop)=>∃x65,idx l s56.2.2.2=some x65∧Ite (x65.Cell == c) (J62 (s56.1,imax s56.2.1 x65.Left,s56.2.2.1))
    (Jn (fun (J72:Bool→Prop)=>Ite (decide (x65.Cell>c)) (J72 (!s56.2.2.1)) (J72 false)) (fun (x71:Bool)=>Jn (fun (J75:(List Q0×Bool)→Prop)=>Ite x71
     ((s56.1.length+([({Cell:=c,Left:=s56.2.1:Q0})]:List Q0).length≤1099511627776)∧J75 ((s56.1++([({Cell:=c,Left:=s56.2.1:Q0})]:List Q0)),true)) (J75 (s56.1,s56.2.2.1)))
     (fun (x74:List Q0×Bool)=>(x74.1.length+([x65]:List Q0).length≤1099511627776)∧J62 ((x74.1++([x65]:List Q0)),s56.2.1,x74.2)))))
    (fun (x61:List Q0×Int×Bool)=>Y57 (x61.1,x61.2.1,x61.2.2,w64 (s56.2.2.2+1)))) (J55 (s56.1,s56.2.1,s56.2.2.1))) (([],n,false,0):List Q0×Int×Bool×Int))
   (fun (x54:List Q0×Int×Bool)=>Jn (fun (J90:(List Q0)→Prop)=>Ite (!x54.2.2)
    ((x54.1.length+([({Cell:=c,Left:=x54.2.1:Q0})]:List Q0).length≤1099511627776)∧J90 (x54.1++([({Cell:=c,Left:=x54.2.1:Q0})]:List Q0))) (J90 x54.1)) (fun (x89:List Q0)=>K x89)):=by
 let I:Nat→List Q0×Int×Bool→Prop:=fun i t=>
  (t=(l.take i,n,false)∧∀x,x∈l.take i→x.Cell<c) ∨
  (∃p x,l.take i=p++[x]∧(∀y,y∈p→y.Cell<c)∧x.Cell=c∧t=(p,imax x.Left n,false)) ∨
  (t.2.2=true∧t.1=K8 c n (l.take i)∧∃y,y∈l.take i∧c<y.Cell)
 have hlt:∀(i:Nat) x y,l[i]?=some x→y∈l.take i→y.Cell<x.Cell:=fun i x y hx hy=>by
  obtain⟨j,hj⟩:=List.getElem?_of_mem hy
  have hjl:=(List.getElem?_eq_some_iff.1 hj).1
  rw [List.length_take] at hjl
  rw [List.getElem?_take,if_pos (by omega)] at hj
  exact Q8m (g:=fun z:Q0=>z.Cell) ha j i y x (by omega) hj hx
 have im:∀a b:Int,imax a b=imax b a:=fun a b=>by unfold imax;split <;> split <;> omega
 have hlen:∀i t,I i t→t.1.length≤1001:=fun i t h=>by
  rcases h with ⟨h,_⟩ | ⟨p,x,h1,_,_,h⟩ | ⟨_,h,_⟩
  ·rw [h];simp;omega
  ·have:=congrArg List.length h1;simp at this
   rw [h];show p.length≤_;omega
  ·rw [h];have:=(Q1C c n (l.take i)).2;simp at this ⊢;omega
 refine Jn.mk (I l.length) (ZP (xs:=l) (by unfold maxLen;omega) (fun t:List Q0×Int×Bool×Int=>t.2.2.2) (fun i t=>I i (t.1,t.2.1,t.2.2.1)) rfl (.inl ⟨by simp,fun x hx=>by simp at hx⟩) (fun i x t hx ht hI=>?_) (fun t h=>h)) (fun t hI=>?_)
 ·have hll:=hlen i _ hI
  have htk:=QY hx
  simp only at hll
  rw [ht]
  refine Jn.mk (I (i+1)) ⟨x,Qg rfl hx,?_⟩ (fun u hu=>⟨rfl,hu⟩)
  rcases hI with ⟨h,hb⟩ | ⟨p,y,h1,hb,hy,h⟩ | ⟨h0,h,y,hym,hyc⟩
  ·injection h with e1 h;injection h with e2 e3
   rw [e1,e2,e3]
   refine Ite.mk (fun h4=>?_) (fun h4=>?_)
   ·exact .inr (.inl ⟨l.take i,x,htk,hb,by simpa using h4,by rw [im]⟩)
   ·have h4':x.Cell≠c:=by simpa using h4
    refine Jn.mk (fun b=>b=decide (x.Cell>c)) (Ite.mk (fun h5=>by rw [h5];rfl) (fun h5=>h5.symm)) (fun b hb2=>?_)
    refine Jn.mk (fun u=>(b=true→u=(l.take i++[{Cell:=c,Left:=n}],true))∧(b=false→u=(l.take i,false))) (Ite.mk (fun h5=>⟨by simp;omega,fun _=>rfl,fun h=>by rw [h5] at h;cases h⟩) (fun h5=>⟨fun h=>(by rw [h5] at h;cases h),fun _=>rfl⟩)) (fun u hu=>?_)
    cases e:b with
    | true=>
     rw [hu.1 e]
     have hgt:x.Cell>c:=by rw [e] at hb2;simpa using hb2.symm
     refine⟨by simp;omega,.inr (.inr ⟨rfl,?_,x,by rw [htk];simp,hgt⟩)⟩
     rw [htk,Ww _ hb,K8,if_neg (by omega),if_neg h4'];simp
    | false=>
     rw [hu.2 e]
     have hgt:¬x.Cell>c:=by rw [e] at hb2;simpa using hb2.symm
     refine⟨by simp;omega,.inl ⟨by rw [htk],fun z hz=>?_⟩⟩
     rw [htk] at hz
     rcases List.mem_append.1 hz with hz | hz
     ·exact hb z hz
     ·simp at hz;subst hz;omega
  ·injection h with e1 h;injection h with e2 e3
   have hcx:c<x.Cell:=by
    have:=hlt i x y hx (by rw [h1];simp)
    omega
   rw [e1,e2,e3]
   refine Ite.f (by simp;omega) ?_
   refine Jn.mk (fun b=>b=true) (Ite.t (by simpa using hcx) rfl) (fun b hb2=>?_)
   refine Jn.mk (fun u=>u=(p++[{Cell:=c,Left:=imax y.Left n}],true)) (Ite.t hb2 ⟨by rw [e1] at hll;simp;omega,rfl⟩) (fun u hu=>?_)
   subst hu
   refine⟨by rw [e1] at hll;simp;omega,.inr (.inr ⟨rfl,?_,x,by rw [htk];simp,hcx⟩)⟩
   rw [htk,h1]
   show p++[({Cell:=c,Left:=imax y.Left n}:Q0)]++[x]=K8 c n (p++[y]++[x])
   rw [List.append_assoc p [y] [x],Ww _ hb,List.singleton_append,K8,if_neg (by omega),if_pos hy];simp
  ·simp only at h0 h
   have hcx:c<x.Cell:=by have:=hlt i x y hx hym;omega
   refine Ite.f (by simp;omega) ?_
   refine Jn.mk (fun b=>b=false) (Ite.t (by simpa using hcx) (by rw [h0];rfl)) (fun b hb2=>?_)
   refine Jn.mk (fun u=>u=(t.1,t.2.2.1)) (Ite.f hb2 rfl) (fun u hu=>?_)
   subst hu
   refine⟨by simp;omega,.inr (.inr ⟨h0,?_,x,by rw [htk];simp,hcx⟩)⟩
   show t.1++[x]=_
   rw [htk,Q3J _ ⟨y,hym,by omega⟩,h]
 ·have hll:=hlen _ _ hI
  have hI':I l.length t:=hI
  rcases hI with ⟨h,hb⟩ | ⟨p,y,h1,hb,hy,h⟩ | ⟨h0,h,y,hym,hyc⟩
  ·rw [List.take_length] at h hb
   subst h
   refine Jn.mk (fun u=>u=K8 c n l) (Ite.t rfl ⟨by simp;omega,?_⟩) (fun u hu=>hu▸hK)
   have:=Ww (n:=n) (p:=l) [] hb
   rw [List.append_nil] at this
   rw [this];rfl
  ·rw [List.take_length] at h1
   subst h
   refine Jn.mk (fun u=>u=K8 c n l) (Ite.t rfl ⟨by simp at hll ⊢;omega,?_⟩) (fun u hu=>hu▸hK)
   rw [h1,Ww _ hb,K8,if_neg (by omega),if_pos hy]
  ·rw [List.take_length] at h
   exact Jn.mk (fun u=>u=K8 c n l) (Ite.f (by rw [h0];rfl) h) (fun u hu=>hu▸hK)
theorem Q0k (hf:RF s.Floor) (k:Qh st) (hr:RSt s st) (hz:Sz st) {f:Qk} {post:ApiState→Prop} (hp:post (Wt s st f)):Kl s st f post:=by
 unfold Kl
 refine Zb hz (WN hf k hz (Ite.mk (fun h=>?_) (fun h=>?_)))
 ·have:Kx s st f=false:=by
   have h1:Q1e s st f≠0:=by simpa using h
   cases e:Kx s st f with
   | false=>rfl
   | true=>exact absurd (Y6.2 e) h1
  rw [Q4e this] at hp;exact hp
 have hb:Kx s st f=true:=Y6.1 (by simpa using h)
 have q3:=hz.pp;have q4:=hz.dd;have q5:=hz.sk
 refine Jn.mk (fun t=>st4 st t=Wt s st f) (Jn.mk' ?_) (fun t ht=>by rw [←ht] at hp;exact hp)
 refine Ite.mk (fun h1=>?_) (fun h1=>Jn.mk' (Ite.mk (fun h3=>?_) (fun h3=>Jn.mk' (Ite.mk (fun h2=>?_) (fun h2=>Jn.mk' (Ite.mk (fun h4=>?_) (fun h4=>Jn.mk' (Ite.mk (fun h5=>Jn.mk' ?_) (fun h5=>?_)))))))))
 ·have e:f.Kind=1:=by simpa using h1
  have hl:=hb;rw [Q2U e] at hl
  obtain⟨n,r,hn,hx,_,hr⟩:=YQ hl
  refine⟨r,Qg hn hx,?_⟩
  show st4 st _=_
  rw [Q6p hb e,hr];rfl
 ·have e:f.Kind=3:=by simpa using h3
  have hl:=hb;rw [Q2H e,Bool.and_eq_true] at hl
  obtain⟨n,r,hn,hx,_,hr⟩:=YQ hl.1
  refine⟨r,Qg hn hx,?_⟩
  show st4 st _=_
  rw [Q6s hb e,hr];rfl
 ·have e:f.Kind=2:=by simpa using h2
  refine⟨by simp;omega,Q2u (by simp;omega) ?_⟩
  show st4 st _=_
  rw [Q5d hb e];rfl
 ·have e:f.Kind=4:=by simpa using h4
  refine Q8O q5 hr.stuckA ?_
  show st4 st _=_
  rw [Q68 hb e];rfl
 ·have e:f.Kind=5:=by simpa using h5
  have hl:=hb;rw [Q2x e] at hl
  refine Ite.mk (fun h6=>⟨by simp;omega,?_⟩) (fun h6=>?_)
  ·show st4 st _=_
   rw [Q3R hb e,if_pos (by simpa using h6)];rfl
  ·have h6':f.A≠(st.People.length:Int):=by simpa using h6
   rcases Q5A hl with hA | ⟨n,hA,hn⟩
   ·exact absurd hA h6'
   ·refine⟨_,Qg hA (List.getElem?_eq_getElem hn),?_⟩
    show st4 st _=_
    rw [Q3R hb e,if_neg h6'];rfl
 ·show st4 st _=_
  by_cases e:f.Kind=0
  ·rw [Q5m e];rfl
  ·have:=Q1F (s:=s) (st:=st) e (by simpa using h1) (by simpa using h2) (by simpa using h3) (by simpa using h4) (by simpa using h5)
   rw [this] at hb;cases hb
end
end Go.Taq
/- The mathematics, part AD: what happens, and what robots do, leaves a state right. -/
set_option linter.unusedVariables false
set_option linter.unusedSimpArgs false
namespace Go.Taq
open Go
def CL (r:ApiRobot):Int×Int:=(r.Cell,r.Load)
theorem Q8l {α β:Type} (p:β→Bool) (g:α→β) (xs:List α):fidx p (xs.map g)=fidx (fun x=>p (g x)) xs:=by
 unfold fidx;rw [List.findIdx?_map];rfl
section
variable {s:ApiSite} {st st':ApiState}
theorem Q8r (hcl:st'.Robots.map CL=st.Robots.map CL) {i:Nat} {r':ApiRobot} (h:st'.Robots[i]?=some r'):∃r,st.Robots[i]?=some r∧r'.Cell=r.Cell∧r'.Load=r.Load:=by
 have h1:(st'.Robots.map CL)[i]?=some (CL r'):=by rw [List.getElem?_map,h];rfl
 rw [hcl,List.getElem?_map] at h1
 cases e:st.Robots[i]? with
 | none=>rw [e] at h1;cases h1
 | some r=>
  rw [e] at h1
  have:=Option.some.inj h1
  unfold CL at this
  injection this with a b
  exact⟨r,rfl,a.symm,b.symm⟩
theorem Q71 (hcl:st'.Robots.map CL=st.Robots.map CL):st'.Robots.length=st.Robots.length:=by
 have:=congrArg List.length hcl;simpa using this
theorem Q77 (hcl:st'.Robots.map CL=st.Robots.map CL) (a:Int):carr st' a=carr st a:=by
 have h1:∀t:ApiState,fidx (fun z:ApiRobot=>z.Load == a) t.Robots=fidx (fun q:Int×Int=>q.2 == a) (t.Robots.map CL):=fun t=>by rw [Q8l];rfl
 unfold carr;rw [h1,h1,hcl]
theorem Q72 (hcl:st'.Robots.map CL=st.Robots.map CL) (i:Nat):carB st' i=carB st i:=by unfold carB;rw [Q77 hcl]
theorem Q9H (hcl:st'.Robots.map CL=st.Robots.map CL) (i:Nat):slR (st'.Robots.getD i default)=slR (st.Robots.getD i default):=by
 have hl:=Q71 hcl
 cases e:st'.Robots[i]? with
 | none=>
  have:st.Robots[i]?=none:=by rw [List.getElem?_eq_none_iff] at e ⊢;omega
  rw [List.getD_eq_getElem?_getD,List.getD_eq_getElem?_getD,e,this]
 | some r'=>
  obtain⟨r,hr,h1,h2⟩:=Q8r hcl e
  rw [Wc e,Wc hr];unfold slR;rw [h1,h2]
theorem Q8y (hcl:st'.Robots.map CL=st.Robots.map CL) (hsh:st'.Shelves=st.Shelves) (hpp:st'.People=st.People):allS st'=allS st:=by
 unfold allS
 rw [Q71 hcl,hsh,hpp]
 congr 1
 congr 1
 ·exact Q1h fun j _=>Q9H hcl j
 ·exact Q1h fun j _=>by unfold slS;rw [Q72 hcl,hsh]
theorem Q0W (h:RSt s st) (hcl:st'.Robots.map CL=st.Robots.map CL) (hsh:st'.Shelves=st.Shelves) (hpp:st'.People=st.People) (ht:0≤st'.Tick∧st'.Tick≤20000)
  (hr:∀(i:Nat) r,st'.Robots[i]?=some r→(0≤r.Charge∧r.Charge≤1000000)∧(0≤r.Rest∧r.Rest≤20000)∧(0≤r.Mute∧r.Mute≤20000))
  (hd:∀(i:Nat) c,st'.Dead[i]?=some c→isC s.Floor c=true) (hdA:∀(i:Nat) x y,st'.Dead[i]?=some x→st'.Dead[i+1]?=some y→x<y)
  (hk:∀(i:Nat) x,st'.Stuck[i]?=some x→kx s.Floor x.Cell=6∧1≤x.Left∧x.Left≤20000) (hkA:∀(i:Nat) x y,st'.Stuck[i]?=some x→st'.Stuck[i+1]?=some y→x.Cell<y.Cell):RSt s st' where
 tick:=ht
 sl:=by rw [hsh];exact h.sl
 rl:=by rw [Q71 hcl];exact h.rl
 pl:=by rw [hpp];exact h.pl
 rob:=fun i r' hi=>by
  obtain⟨r,hr2,h1,h2⟩:=Q8r hcl hi
  have hR:=h.rob i r hr2
  obtain⟨b1,b2,b3⟩:=hr i r' hi
  exact⟨by rw [h1];exact hR.cell,by rw [h1];exact hR.kind,by rw [h2,hsh];exact hR.load,b1,b2,b3,fun h0=>by rw [h2,Q77 hcl,hsh,h1];exact hR.own (by rw [←h2];exact h0)⟩
 shel:=fun i c hi hc=>by rw [hsh] at hi;rw [Q72 hcl] at hc;exact h.shel i c hi hc
 ppl:=fun i c hi=>by rw [hpp] at hi;exact h.ppl i c hi
 dead:=hd
 deadA:=hdA
 stuck:=hk
 stuckA:=hkA
 clash:=by rw [Q8y hcl hsh hpp];exact h.clash
theorem Q3q {n:Nat} {r y:ApiRobot} (hx:st.Robots[n]?=some r) (hc:y.Cell=r.Cell) (hl:y.Load=r.Load):(st.Robots.set n y).map CL=st.Robots.map CL:=by
 rw [List.map_set]
 have:CL y=CL r:=by unfold CL;rw [hc,hl]
 rw [this]
 exact Q6x (by rw [List.getElem?_map,hx];rfl)
theorem Q7b {n:Nat} {r y:ApiRobot} (h:RSt s st) (hx:st.Robots[n]?=some r) (hy:(0≤y.Charge∧y.Charge≤1000000)∧(0≤y.Rest∧y.Rest≤20000)∧(0≤y.Mute∧y.Mute≤20000)):
  ∀(i:Nat) z,(st.Robots.set n y)[i]?=some z→(0≤z.Charge∧z.Charge≤1000000)∧(0≤z.Rest∧z.Rest≤20000)∧(0≤z.Mute∧z.Mute≤20000):=fun i z hz=>by
 rcases Q0I hz with ⟨_,_,e⟩ | ⟨_,e⟩
 ·subst e;exact hy
 ·have:=h.rob i z e;exact⟨this.charge,this.rest,this.mute⟩
theorem Q7Y {f:Q6} {c:Int} {n:Int} (hn:n≠0) (h:k0 f c=n):isC f c=true∧kx f c=n:=by
 unfold k0 at h
 cases e:isC f c with
 | true=>rw [if_pos e] at h;unfold kx;rw [if_pos e];exact⟨rfl,h⟩
 | false=>rw [e] at h;simp at h;omega
theorem Q3u {c n:Int} {l:List Q0} {x:Q0} (h:x∈K8 c n l):x∈l∨x.Cell=c∧(x.Left=n∨∃y,y∈l∧x.Left=imax y.Left n):=by
 induction l with
 | nil=>simp [K8] at h;subst h;exact .inr ⟨rfl,.inl rfl⟩
 | cons y r ih=>
  unfold K8 at h
  split at h
  ·rcases List.mem_cons.1 h with e | e
   ·subst e;exact .inl (by simp)
   ·rcases ih e with h1 | ⟨h1,h2⟩
    ·exact .inl (by simp [h1])
    ·refine .inr ⟨h1,?_⟩
     rcases h2 with h2 | ⟨z,hz,h2⟩
     ·exact .inl h2
     ·exact .inr ⟨z,by simp [hz],h2⟩
  ·split at h
   ·rcases List.mem_cons.1 h with e | e
    ·subst e;exact .inr ⟨rfl,.inr ⟨y,by simp,rfl⟩⟩
    ·exact .inl (by simp [e])
   ·rcases List.mem_cons.1 h with e | e
    ·subst e;exact .inr ⟨rfl,.inl rfl⟩
    ·exact .inl e
theorem Q7M {c n:Int} {l:List Q0} (h:l.Pairwise (fun x y=>x.Cell<y.Cell)):(K8 c n l).Pairwise (fun x y=>x.Cell<y.Cell):=by
 induction l with
 | nil=>simp [K8]
 | cons y r ih=>
  have h':=List.pairwise_cons.1 h
  unfold K8
  split
  ·rename_i hc
   refine List.pairwise_cons.2 ⟨fun z hz=>?_,ih h'.2⟩
   rcases Q3u hz with e | ⟨e,_⟩
   ·exact h'.1 z e
   ·omega
  ·split
   ·rename_i hc
    exact List.pairwise_cons.2 ⟨fun z hz=>by have:=h'.1 z hz;show c<_;omega,h'.2⟩
   ·refine List.pairwise_cons.2 ⟨fun z hz=>?_,h⟩
    show c<_
    rcases List.mem_cons.1 hz with e | e
    ·subst e;omega
    ·have:=h'.1 z e;omega
theorem Q2G {α:Type} {l:List α} {g:α→Int} (h:∀(i:Nat) x y,l[i]?=some x→l[i+1]?=some y→g x<g y):l.Pairwise (fun x y=>g x<g y):=
 List.pairwise_iff_getElem.2 fun i j hi hj hij=>Q8m h i j _ _ hij (List.getElem?_eq_getElem hi) (List.getElem?_eq_getElem hj)
theorem Q2S {α:Type} {l:List α} {g:α→Int} (h:l.Pairwise (fun x y=>g x<g y)) (i:Nat) (x y:α) (hx:l[i]?=some x) (hy:l[i+1]?=some y):g x<g y:=by
 obtain⟨h1,e1⟩:=List.getElem?_eq_some_iff.1 hx
 obtain⟨h2,e2⟩:=List.getElem?_eq_some_iff.1 hy
 have:=List.pairwise_iff_getElem.1 h i (i+1) h1 h2 (by omega)
 rw [e1,e2] at this;exact this
theorem Q93 (h:RF s.Floor) {a c:Int} (hb:Q0M s st a c=true):isC s.Floor c=true∧(kx s.Floor c=4∨kx s.Floor c=5)∧low c∉allS st∧high c∉allS st∧(a=st.People.length→a<20):=by
 unfold Q0M at hb
 simp only [Bool.and_eq_true,Bool.or_eq_true,beq_iff_eq,Bool.not_eq_true'] at hb
 obtain⟨⟨h1,h2,h3⟩,h4⟩:=hb
 have hk:isC s.Floor c=true∧(kx s.Floor c=4∨kx s.Floor c=5):=by
  rcases h1 with h1 | h1
  ·have:=Q7Y (by decide) h1;exact⟨this.1,.inl this.2⟩
  ·have:=Q7Y (by decide) h1;exact⟨this.1,.inr this.2⟩
 refine⟨hk.1,hk.2,by simpa using h2,by simpa using h3,fun e=>?_⟩
 rw [if_pos e] at h4
 simp at h4;exact h4.2
theorem Q3v (h:RSt s st) (hf:RF s.Floor) {pp:List Int} {c:Int} (hc:isC s.Floor c=true) (hk:kx s.Floor c=4∨kx s.Floor c=5) (h1:low c∉allS st) (h2:high c∉allS st) (hl:pp.length≤20)
  (hpp:pp=st.People++[c]∨∃n:Nat,n<st.People.length∧pp=st.People.set n c):RSt s {st with People:=pp} where
 tick:=h.tick
 sl:=h.sl
 rl:=h.rl
 pl:=hl
 rob:=fun i r hi=>let R:=h.rob i r hi;⟨R.cell,R.kind,R.load,R.charge,R.rest,R.mute,R.own⟩
 shel:=fun i x hi hx=>h.shel i x hi hx
 ppl:=fun i x hi=>by
  rcases hpp with e | ⟨n,hn,e⟩
  ·have hi':(st.People++[c])[i]?=some x:=by rw [←e];exact hi
   rcases List.mem_append.1 (List.mem_of_getElem? hi') with hm | hm
   ·obtain⟨j,hj⟩:=List.getElem?_of_mem hm;exact h.ppl j x hj
   ·simp at hm;subst hm;exact hk
  ·have hi':(st.People.set n c)[i]?=some x:=by rw [←e];exact hi
   rcases Q0I hi' with ⟨_,_,e2⟩ | ⟨_,e2⟩
   ·subst e2;exact hk
   ·exact h.ppl i x e2
 dead:=h.dead
 deadA:=h.deadA
 stuck:=h.stuck
 stuckA:=h.stuckA
 clash:=by
  have hlh:=Q6e hf hc
  have hne:low c≠high c:=by omega
  have hcl:=h.clash
  rcases hpp with e | ⟨n,hn,e⟩
  ·have:allS {st with People:=pp}=allS st++slP c:=by
    unfold allS
    show _++(List.range pp.length).flatMap (fun i=>slP (pp.getD i 0))=_
    rw [e,List.length_append,List.length_singleton,Q2M]
    have e1:(List.range st.People.length).flatMap (fun i=>slP ((st.People++[c]).getD i 0))=(List.range st.People.length).flatMap (fun i=>slP (st.People.getD i 0)):=Q1h fun j hj=>by rw [List.getD_eq_getElem?_getD,List.getD_eq_getElem?_getD,List.getElem?_append_left hj]
    rw [e1,Wn (l:=st.People++[c]) (x:=c) (by simp)]
    simp only [List.append_assoc];rfl
   rw [this,List.nodup_append]
   refine⟨hcl,by unfold slP;simp [hne],fun a ha b hb=>?_⟩
   unfold slP at hb
   simp at hb
   rcases hb with e | e
   ·subst e;exact fun e=>h1 (e▸ha)
   ·subst e;exact fun e=>h2 (e▸ha)
  ·rw [List.nodup_iff_count]
   intro x
   have hle:=Q2g hcl x
   have hP:=Q02 (f:=fun i=>slP (st.People.getD i 0)) (f':=fun i=>slP ((st.People.set n c).getD i 0)) hn (fun j _ hne=>by rw [Q00 hn,if_neg hne]) x
   rw [Q00 hn,if_pos rfl] at hP
   have hle2:(slP c).count x≤1:=List.nodup_iff_count.1 (by unfold slP;simp [hne]) x
   have h0:x∈slP c→(allS st).count x=0:=fun hx=>by
    unfold slP at hx
    simp at hx
    rcases hx with e | e
    ·subst e;exact List.count_eq_zero.2 h1
    ·subst e;exact List.count_eq_zero.2 h2
   have hm:(slP c).count x=0∨x∈slP c:=by
    by_cases e:x∈slP c
    ·exact .inr e
    ·exact .inl (List.count_eq_zero.2 e)
   unfold allS at hle h0 ⊢
   simp only [List.count_append] at hle h0 ⊢
   show ((List.range st.Robots.length).flatMap (fun i=>slR (st.Robots.getD i default))).count x+((List.range st.Shelves.length).flatMap (slS st)).count x+((List.range pp.length).flatMap (fun i=>slP (pp.getD i 0))).count x≤1
   rw [e,List.length_set]
   rcases hm with e | e
   ·omega
   ·have:=h0 e;omega
theorem Q2k (hf:RF s.Floor) (h:RSt s st) (f:Qk):RSt s (Wt s st f):=by
 cases hb:Kx s st f with
 | false=>rw [Q4e hb];exact h
 | true=>
  have base:=fun (i:Nat) r (hi:st.Robots[i]?=some r)=>h.rob i r hi
  by_cases h1:f.Kind=1
  ·have hl:=hb;rw [Q2U h1] at hl
   obtain⟨n,r,hn,hx,_,hr⟩:=YQ hl
   have hR:=h.rob n r hx
   rw [Q6p hb h1,hr]
   refine Q0W h (st':=setR st f.A {r with Dead:=true}) ?_ rfl rfl h.tick ?_ h.dead h.deadA h.stuck h.stuckA
   ·show (st.Robots.set f.A.toNat _).map CL=_;rw [hn];exact Q3q hx rfl rfl
   ·show ∀(i:Nat) z,(st.Robots.set f.A.toNat _)[i]?=some z→_;rw [hn];exact Q7b h hx ⟨hR.charge,hR.rest,hR.mute⟩
  by_cases h2:f.Kind=2
  ·have hl:=hb;rw [Q5J h2,Bool.and_eq_true] at hl
   have hA:isC s.Floor f.A=true:=by
    have h3:k0 s.Floor f.A≠0:=by simpa using hl.1
    exact (Q7Y h3 rfl).1
   have hnm:f.A∉st.Dead:=by simpa using hl.2
   rw [Q5d hb h2]
   have hpw:=Q2G (g:=fun x:Int=>x) h.deadA
   have hperm:=Q2K (st.Dead++[f.A])
   have hnd:(srtI (st.Dead++[f.A])).Nodup:=hperm.nodup_iff.2 (by
    rw [List.nodup_append]
    exact⟨hpw.imp (fun h=>by omega),by simp,fun a ha b hb=>by simp at hb;subst hb;exact fun e=>hnm (e▸ha)⟩)
   have hlt:(srtI (st.Dead++[f.A])).Pairwise (fun x y:Int=>x<y):=by
    have:=List.Pairwise.and (Q76 (st.Dead++[f.A])) hnd
    exact this.imp (fun h=>by obtain⟨a,b⟩:=h;omega)
   refine Q0W h (st':={st with Dead:=srtI (st.Dead++[f.A])}) rfl rfl rfl h.tick (fun i r hi=>⟨(base i r hi).charge,(base i r hi).rest,(base i r hi).mute⟩) (fun i c hi=>?_) (fun i x y hx hy=>Q2S (g:=fun x:Int=>x) hlt i x y hx hy) h.stuck h.stuckA
   rcases List.mem_append.1 (hperm.mem_iff.1 (List.mem_of_getElem? hi)) with hm | hm
   ·obtain⟨j,hj⟩:=List.getElem?_of_mem hm;exact h.dead j c hj
   ·simp at hm;subst hm;exact hA
  by_cases h3:f.Kind=3
  ·have hl:=hb;rw [Q2H h3,Bool.and_eq_true] at hl
   obtain⟨n,r,hn,hx,_,hr⟩:=YQ hl.1
   have hlg:1≤f.N∧f.N≤20000:=by have:=hl.2;unfold Q2A at this;simpa using this
   have hR:=h.rob n r hx
   rw [Q6s hb h3,hr]
   refine Q0W h (st':=setR st f.A {r with Mute:=f.N}) ?_ rfl rfl h.tick ?_ h.dead h.deadA h.stuck h.stuckA
   ·show (st.Robots.set f.A.toNat _).map CL=_;rw [hn];exact Q3q hx rfl rfl
   ·show ∀(i:Nat) z,(st.Robots.set f.A.toNat _)[i]?=some z→_;rw [hn];exact Q7b h hx ⟨hR.charge,hR.rest,by show 0≤f.N∧f.N≤20000;omega⟩
  by_cases h4:f.Kind=4
  ·have hl:=hb;rw [Q5B h4,Bool.and_eq_true] at hl
   have hlg:1≤f.N∧f.N≤20000:=by have:=hl.2;unfold Q2A at this;simpa using this
   have hA:=Q7Y (n:=6) (by decide) (by simpa using hl.1)
   rw [Q68 hb h4]
   have hpw:=Q7M (c:=f.A) (n:=f.N) (Q2G (g:=fun x:Q0=>x.Cell) h.stuckA)
   refine Q0W h (st':={st with Stuck:=K8 f.A f.N st.Stuck}) rfl rfl rfl h.tick (fun i r hi=>⟨(base i r hi).charge,(base i r hi).rest,(base i r hi).mute⟩) h.dead h.deadA (fun i x hi=>?_) (fun i x y hx hy=>Q2S (g:=fun x:Q0=>x.Cell) hpw i x y hx hy)
   have hst:∀y,y∈st.Stuck→kx s.Floor y.Cell=6∧1≤y.Left∧y.Left≤20000:=fun y hy=>by obtain⟨j,hj⟩:=List.getElem?_of_mem hy;exact h.stuck j y hj
   rcases Q3u (List.mem_of_getElem? hi) with hm | ⟨hm,hm2⟩
   ·exact hst x hm
   ·refine⟨by rw [hm];exact hA.2,?_⟩
    rcases hm2 with e | ⟨y,hy,e⟩
    ·rw [e];exact hlg
    ·have:=(hst y hy).2
     rw [e];unfold imax;split <;> omega
  by_cases h5:f.Kind=5
  ·have hl:=hb;rw [Q2x h5] at hl
   obtain⟨g1,g2,g3,g4,g5⟩:=Q93 hf hl
   rw [Q3R hb h5]
   rcases Q5A hl with hA | ⟨n,hA,hn⟩
   ·have:=g5 hA
    rw [if_pos hA]
    exact Q3v h hf g1 g2 g3 g4 (by simp;omega) (.inl rfl)
   ·rw [if_neg (by omega),hA]
    exact Q3v h hf g1 g2 g3 g4 (by show (st.People.set n f.N).length≤20;rw [List.length_set];exact h.pl) (.inr ⟨n,hn,rfl⟩)
  ·by_cases h0:f.Kind=0
   ·rw [Q5m h0];exact h
   ·have:=Q1F (s:=s) (st:=st) h0 h1 h2 h3 h4 h5
    rw [this] at hb;cases hb
theorem Q4X (hf:RF s.Floor) (hs:RS s) (h:RSt s st) (hz:Sz st):LS s st:=⟨hf,hs,hz,h.cells,fun i r hr=>⟨(h.rob i r hr).cell,(h.rob i r hr).load.1,(h.rob i r hr).load.2⟩⟩
theorem Q8v {f:Q6} {c:Int} (h:0≤kx f c):isC f c=true:=by
 unfold kx at h;cases e:isC f c with
 | true=>rfl
 | false=>rw [e] at h;simp at h
theorem Q66 (hf:RF s.Floor) (h:RSt s st) (hz:Sz st):Qh st where
 Tick:=GT (by have:=h.tick;omega)
 Shelves:=Q2b hz.sh (fun c hc=>Q0u hf (h.cells c hc))
 Robots:=Q2b hz.rb (fun r hr=>by
  obtain⟨i,hi⟩:=List.getElem?_of_mem hr
  have hR:=h.rob i r hi
  have h1:=hR.load;have h2:=hR.charge;have h3:=hR.rest;have h4:=hR.mute;have h5:=hz.sh
  exact⟨Q0u hf hR.cell,GT (by omega),GT (by omega),GT (by omega),GT (by omega),trivial⟩)
 People:=Q2b hz.pp (fun c hc=>by obtain⟨i,hi⟩:=List.getElem?_of_mem hc;exact Q0u hf (Q8v (by have:=h.ppl i c hi;omega)))
 Dead:=Q2b hz.dd (fun c hc=>by obtain⟨i,hi⟩:=List.getElem?_of_mem hc;exact Q0u hf (h.dead i c hi))
 Stuck:=Q2b hz.sk (fun x hx=>by
  obtain⟨i,hi⟩:=List.getElem?_of_mem hx
  have:=h.stuck i x hi
  exact⟨Q0u hf (Q8v (by omega)),GT (by omega)⟩)
def doA (s:ApiSite) (st:ApiState) (i:Nat) (a:Int):ApiState:=doS s st i (if legS s st i a=0 then a else 0)
theorem legA {i:Nat} (hi:i<st.Robots.length) (a:Int):legS s st i (if legS s st i a=0 then a else 0)=0:=by
 split
 ·assumption
 ·exact Q7a ⟨by omega,by omega⟩
theorem Q7t (hf:RF s.Floor) (hs:RS s) (h:RSt s st) (hz:Sz st) {i:Nat} (hi:i<st.Robots.length) (a:Int):RSt s (doA s st i a):=by
 have hx:=List.getElem?_eq_getElem hi
 have hl:=legA (s:=s) hi a
 have ha:=(Q70 hl).2
 unfold doA
 generalize (if legS s st i a=0 then a else 0)=b at *
 rw [Qaq rfl hx]
 rw [Q97 rfl hx] at hl
 exact (Q8A h (Q4X hf hs h hz) hx ha hl).1
def runS (s:ApiSite) (acts:List Int):Nat→Nat→ApiState→ApiState
 | 0,_,st=>st
 | n+1,i,st=>runS s acts n (i+1) (doA s st i (acts.getD i 0))
end
end Go.Taq
