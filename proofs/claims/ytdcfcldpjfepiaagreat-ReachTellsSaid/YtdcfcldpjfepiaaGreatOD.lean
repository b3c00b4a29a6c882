/- The mathematics, several parts in one text. -/
import Derived.Test.YtdcfcldpjfepiaaGreatNF
import Derived.Test.YtdcfcldpjfepiaaGreatNW
/- The mathematics, part OA: batteries, and the slots of a state. -/
set_option linter.unusedVariables false
set_option linter.unusedSimpArgs false
namespace Go.Taq
open Go
def bas (a:Int) (l:Bool):Int:=
 if a=0∨a=8 then 1 else if a=7 then 3 else if a<1∨a≥7 then 0 else (if a=5 then 5 else if a=6 then 1 else 2)+if l=true then 2 else 0
def agT (t:Int):Int:=if t<0 then 0 else if t>20000 then 20 else t / 1000
def cst (t a:Int) (l:Bool):Int:=(bas a l*(10+agT t)+9) / 10
def aft (t ch a:Int) (l:Bool):Int×Int:=
 if ch<0∨ch>1000000∨a<0∨a≥10 then (ch,1) else if a=9 then (if ch>999980 then 1000000 else ch+20,0) else if ch<cst t a l then (ch,16) else (ch-cst t a l,0)
theorem Q8B (a:Int) (l:Bool):bas a l=0∨bas a l=1∨bas a l=2∨bas a l=3∨bas a l=4∨bas a l=5∨bas a l=7:=by
 unfold bas
 cases l <;> simp <;> split <;> (try split) <;> (try split) <;> (try split) <;> (try split) <;> omega
theorem Q4Z (t:Int):0≤agT t∧agT t≤20:=by unfold agT;split <;> (try split) <;> omega
theorem Q4k (a t:Int) (l:Bool):0≤bas a l*(10+agT t)∧bas a l*(10+agT t)≤210:=by
 have h:=Q4Z t
 rcases Q8B a l with e | e | e | e | e | e | e <;> rw [e] <;> omega
theorem Q3D (t a:Int) (l:Bool):0≤cst t a l∧cst t a l≤21:=by have:=Q4k a t l;unfold cst;omega
theorem act10 {a:Int} (h0:0≤a) (h9:a<10):a=0∨a=1∨a=2∨a=3∨a=4∨a=5∨a=6∨a=7∨a=8∨a=9:=by omega
theorem Q2p {a:Int} (h0:0≤a) (h9:a<10) {l:Bool} {post:Int→Prop} (hp:post (bas a l)):Gw a l post:=by
 unfold Gw
 rcases act10 h0 h9 with rfl | rfl | rfl | rfl | rfl | rfl | rfl | rfl | rfl | rfl <;> cases l <;> repeat (first | exact hp | refine Jn.mk' ?_ | refine Ite.t (by decide) ?_ | refine Ite.f (by decide) ?_)
theorem Q8A (t:Int):w64 ((imin (imax t 0) 20000).tdiv 1000)=agT t:=by
 have e:(imin (imax t 0) 20000).tdiv 1000=agT t:=by
  unfold imin imax agT
  rw [Int.tdiv_eq_ediv_of_nonneg (by repeat' split <;> omega)]
  repeat' split <;> omega
 rw [e];have:=Q4Z t;exact Qx (by omega) (by omega)
theorem Ys {t a:Int} (h0:0≤a) (h9:a<10) {l:Bool} {post:Int→Prop} (hp:post (cst t a l)):Xs t a l post:=by
 unfold Xs
 refine Q2p h0 h9 ?_
 have hb:=Q4k a t l
 have ha:=Q4Z t
 rw [Q8A,Qx (x:=10+agT t) (by omega) (by omega),Qx (x:=bas a l*(10+agT t)) (by omega) (by omega),Qx (x:=bas a l*(10+agT t)+9) (by omega) (by omega),Int.tdiv_eq_ediv_of_nonneg (by omega)]
 have hc:=Q3D t a l
 unfold cst at hc hp
 rw [Qx (by omega) (by omega)]
 exact hp
theorem Q29 {ch c:Int} (hc:0≤c∧c≤100) {post:Int×Int→Prop} (hp:post (if ch<0∨ch>1000000 then (ch,1) else if ch<c then (ch,16) else (ch-c,0))):G9 ch c post:=by
 unfold G9 KB
 refine Jn.mk (fun b=>b=decide (ch<0∨ch>1000000)) (YS (Ite.mk (fun h=>?_) (fun h=>?_))) (fun b hb=>?_)
 ·simp at h;rw [decide_eq_false (by omega:¬c<0)];simp;omega
 ·simp at h;simp;omega
 ·subst hb
  refine Ite.mk (fun h=>?_) (fun h=>Ite.mk (fun h1=>?_) (fun h1=>?_))
  ·rw [if_pos (by simpa using h)] at hp;exact hp
  ·rw [if_neg (by simpa using h),if_pos (by simpa using h1)] at hp;exact hp
  ·rw [if_neg (by simpa using h),if_neg (by simpa using h1)] at hp
   simp at h h1
   rw [Qx (by omega) (by omega)];exact hp
theorem Zo {t ch a:Int} {l:Bool} {post:Int×Int→Prop} (hp:post (aft t ch a l)):Xy t ch a l post:=by
 unfold Xy KB
 refine Jn.mk (fun b=>b=decide (ch<0∨ch>1000000∨a<0∨a≥10)) (YS (Ite.mk (fun h=>Ite.mk (fun h1=>?_) (fun h1=>?_)) (fun h=>?_))) (fun b hb=>?_)
 ·simp at h h1;simp;omega
 ·simp at h h1;show decide (a≥10)=decide (ch<0∨ch>1000000∨a<0∨a≥10);rw [Bool.eq_iff_iff];simp;omega
 ·simp at h;simp;omega
 ·subst hb
  unfold aft at hp
  refine Ite.mk (fun h=>?_) (fun h=>Ite.mk (fun h1=>?_) (fun h1=>?_))
  ·rw [if_pos (by simpa using h)] at hp;exact hp
  ·simp at h1;rw [if_neg (by simpa using h),if_pos h1] at hp
   simp at h
   rw [Qx (x:=ch+20) (by omega) (by omega)]
   have e:imin (ch+20) 1000000=if ch>999980 then 1000000 else ch+20:=by unfold imin;repeat' split <;> omega
   rw [e];exact hp
  ·simp at h1;rw [if_neg (by simpa using h),if_neg h1] at hp
   simp at h
   refine Ys (by omega) (by omega) (Q29 (by have:=Q3D t a l;omega) ?_)
   rw [if_neg (by omega)]
   split
   ·rw [if_pos (by assumption)] at hp;exact hp
   ·rw [if_neg (by assumption)] at hp;exact hp
theorem Q3U {a:Int} {l:Bool} {post:Int→Prop} (hp:post (bas a l)):Xm a l post:=by
 unfold Xm
 by_cases h:0≤a∧a<10
 ·rcases act10 h.1 h.2 with rfl | rfl | rfl | rfl | rfl | rfl | rfl | rfl | rfl | rfl <;> cases l <;> repeat (first | exact hp | refine Jn.mk' ?_ | refine Ite.t (by decide) ?_ | refine Ite.f (by decide) ?_)
 ·unfold bas at hp
  rw [if_neg (by omega),if_neg (by omega),if_pos (by omega)] at hp
  refine Jor2 (Ite.f (by simp;omega) (Ite.f (by simp;omega) (Jor2 (Ite.t (by simp;omega) hp))))
theorem Q4A {t:Int} {post:Int→Prop} (hp:post (agT t)):XA t post:=by
 unfold XA;unfold agT at hp
 refine Ite.mk (fun h=>?_) (fun h=>Ite.mk (fun h1=>?_) (fun h1=>?_)) <;> simp at h
 ·rw [if_pos h] at hp;exact hp
 ·simp at h1;rw [if_neg (by omega),if_pos h1] at hp;exact hp
 ·simp at h1;rw [if_neg (by omega),if_neg (by omega)] at hp
  rw [Int.tdiv_eq_ediv_of_nonneg h,Qx (by omega) (by omega)];exact hp
theorem Zj {t a:Int} {l:Bool} {post:Int→Prop} (hp:post (cst t a l)):Kb t a l post:=by
 unfold Kb
 refine Q3U (Q4A ?_)
 have hb:=Q4k a t l
 have ha:=Q4Z t
 have hc:=Q3D t a l
 unfold cst at hp hc
 rw [Qx (x:=10+agT t) (by omega) (by omega),Qx (x:=bas a l*(10+agT t)) (by omega) (by omega),Int.tdiv_eq_ediv_of_nonneg (by omega),Int.tmod_eq_emod_of_nonneg (by omega)]
 generalize bas a l*(10+agT t)=x at *
 rw [Qx (x:=x / 10) (by omega) (by omega)]
 refine Ite.mk (fun h=>?_) (fun h=>?_) <;> simp at h
 ·rw [Qx (by omega) (by omega)]
  have:(x+9) / 10=x / 10+1:=by omega
  rw [←this];exact hp
 ·have:(x+9) / 10=x / 10:=by omega
  rw [←this];exact hp
theorem Q0P {t ch a:Int} {l:Bool} {post:Int×Int→Prop} (hp:post (aft t ch a l)):Ks t ch a l post:=by
 unfold Ks Gm
 refine Jn.mk (fun b=>b=decide (ch<0∨ch>1000000∨a<0∨a≥10)) (Ite.mk (fun h=>?_) (fun h=>Ite.mk (fun h1=>?_) (fun h1=>YS ?_))) (fun b hb=>?_)
 ·simp at h;simp;omega
 ·simp at h h1;simp;omega
 ·simp at h h1;show (!(decide (a≥0)&&decide (a<10)))=decide (ch<0∨ch>1000000∨a<0∨a≥10);rw [Bool.eq_iff_iff];simp;omega
 ·subst hb
  unfold aft at hp
  refine Ite.mk (fun h=>?_) (fun h=>Ite.mk (fun h1=>?_) (fun h1=>?_))
  ·rw [if_pos (by simpa using h)] at hp;exact hp
  ·simp at h1;rw [if_neg (by simpa using h),if_pos h1] at hp
   simp at h
   refine Ite.mk (fun h2=>?_) (fun h2=>?_) <;> simp at h2
   ·rw [if_pos (by omega)] at hp;exact hp
   ·rw [if_neg (by omega)] at hp;rw [Qx (by omega) (by omega)];exact hp
  ·simp at h1;rw [if_neg (by simpa using h),if_neg h1] at hp
   simp at h
   have hc:=Q3D t a l
   refine Zj ?_
   unfold XO
   refine Jor3 (Ite.f (by simp;omega) (Ite.mk (fun h2=>?_) (fun h2=>?_))) <;> simp at h2
   ·rw [if_pos (by omega)] at hp;exact hp
   ·rw [if_neg (by omega)] at hp;rw [Qx (by omega) (by omega)];exact hp
end Go.Taq
/- The mathematics, part OB: the slots of a state, in both; who carries. -/
set_option linter.unusedVariables false
set_option linter.unusedSimpArgs false
namespace Go.Taq
open Go
def low (c:Int):Int:=w64 (2*c)
def high (c:Int):Int:=w64 (w64 (2*c)+1)
def slR (r:Q0):List Int:=if 0≤r.Load then [low r.Cell,high r.Cell] else [low r.Cell]
def slS (st:ApiState) (i:Nat):List Int:=if carB st i=true then [] else [high (st.Shelves.getD i 0)]
def slP (c:Int):List Int:=[low c,high c]
def allS (st:ApiState):List Int:=(List.range st.Robots.length).flatMap (fun i=>slR (st.Robots.getD i default))++(List.range st.Shelves.length).flatMap (slS st)++(List.range st.People.length).flatMap (fun i=>slP (st.People.getD i 0))
structure Sz (st:ApiState):Prop where
 sh:st.Shelves.length≤1000
 rb:st.Robots.length≤1000
 pp:st.People.length≤1000
 dd:st.Dead.length≤1000
 sk:st.Stuck.length≤1000
theorem Yh {n:Nat} {f:Nat→List Int} (h:∀i,i<n→(f i).length≤2):((List.range n).flatMap f).length≤2*n:=by
 induction n with
 | zero=>simp
 | succ n ih=>rw [List.range_succ,List.flatMap_append,List.length_append];have:=ih (fun i hi=>h i (by omega));have:=h n (by omega);simp only [List.flatMap_cons,List.flatMap_nil,List.append_nil];omega
theorem Q5s {n:Nat} (hn:n≤1000) {f:Nat→List Int} (hf:∀i,i<n→(f i).length≤2) {T:Int→(List Int→Prop)→Prop} (hT:∀i:Nat,i<n→∀{q:List Int→Prop},q (f i)→T (i:Int) q) {l0:List Int} (hl:l0.length≤1000000) {K:List Int→Prop} (hK:K (l0++(List.range n).flatMap f)):
  Jn (fun (J:List Int→Prop)=>Loop (fun (s:List Int×Int) Y=>Ite (decide (s.2<(n:Int))) (T s.2 (fun x=>(s.1.length+x.length≤1099511627776)∧Y (s.1++x,w64 (s.2+1)))) (J s.1)) (l0,0)) (fun x=>K x):=by
 refine Jn.mk (fun x=>x=l0++(List.range n).flatMap f) (Q24 n (fun t:List Int×Int=>t.2) (fun i t=>t.1=l0++(List.range i).flatMap f) (by unfold maxLen;omega) rfl (by simp) (fun i t hi h1 h2=>?_) (fun t h=>h)) (fun x hx=>hx▸hK)
 rw [h1]
 refine hT i hi ⟨?_,rfl,?_⟩
 ·have:=hf i hi
  have h3:=Yh (n:=i) (f:=f) (fun j hj=>hf j (by omega))
  rw [h2,List.length_append];omega
 ·show t.1++f i=_
  rw [h2,List.range_succ,List.flatMap_append,List.append_assoc];simp
section
variable {st:ApiState}
theorem Q5u {r:Q0} {post:List Int→Prop} (hp:post (slR r)):Zr r r.Cell post:=by
 unfold Zr Gp Xt
 unfold slR low high at hp
 refine Ite.mk (fun h=>?_) (fun h=>?_) <;> simp at h
 ·rw [if_pos h] at hp;exact hp
 ·rw [if_neg (by omega)] at hp;exact hp
theorem Q5i {r:Q0} {post:List Int→Prop} (hp:post (slR r)):XT r r.Cell post:=by
 unfold XT
 unfold slR low high at hp
 refine Ite.mk (fun h=>?_) (fun h=>?_) <;> simp at h
 ·rw [if_neg (by omega)] at hp;exact hp
 ·rw [if_pos h] at hp;exact hp
theorem Q1Q {i:Nat} {r:Q0} (h:st.Robots[i]?=some r):st.Robots.getD i default=r:=by rw [List.getD_eq_getElem?_getD,h];rfl
theorem Q25 {l:List Int} {n:Nat} {x:Int} (h:l[n]?=some x):l.getD n 0=x:=by rw [List.getD_eq_getElem?_getD,h];rfl
theorem Q3M {i:Nat} (hi:i<st.Robots.length) {post:List Int→Prop} (hp:post (slR (st.Robots.getD i default))):GO st i post:=by
 have hx:=List.getElem?_eq_getElem hi
 rw [Q1Q hx] at hp
 unfold GO
 exact Jor2 (Ite.f (by simp;omega) ⟨_,Qq rfl hx,Q5u hp⟩)
theorem Q3r {i:Nat} (hi:i<st.Robots.length) {post:List Int→Prop} (hp:post (slR (st.Robots.getD i default))):Kl st i post:=by
 have hx:=List.getElem?_eq_getElem hi
 rw [Q1Q hx] at hp
 unfold Kl
 exact Jor2 (Ite.f (by simp;omega) ⟨_,Qq rfl hx,Q5i hp⟩)
theorem ZY (hz:Sz st) {i:Int} {post:Int→Prop} (hp:post (carr st i)):Xp st i post:=by
 unfold Xp Qo
 unfold carr at hp
 refine Ite.mk (fun h=>?_) (fun h=>?_) <;> simp at h
 ·rw [if_pos h] at hp;exact hp
 ·rw [if_neg (by omega)] at hp
  exact Q11 (by have:=hz.rb;unfold maxLen;omega) (fun r:Q0=>r.Load == i) (T:=fun x q=>XR x i q) (fun x _ q hq=>by unfold XR;exact hq) hp
theorem Q1S (k:OkApiState st) {i:Int} {post:Int→Prop} (hp:post (carr st i)):Ky st i post:=by
 unfold Ky
 refine Jn.mk (fun _=>carr st i=-1) (Loop.mk (fun t:Int=>∃n:Nat,t=(n:Int)∧n≤st.Robots.length∧∀(j:Nat) r,j<n→st.Robots[j]?=some r→(r.Load == i)=false) (fun t=>st.Robots.length-t.toNat) ⟨0,rfl,by omega,fun j r h=>by omega⟩ ?_) (fun _ h=>by rw [h] at hp;exact hp)
 rintro t ⟨n,rfl,hn,hI⟩
 refine YS (Ite.mk (fun h=>?_) (fun h=>?_))
 ·simp only [Bool.and_eq_true,decide_eq_true_eq] at h
  have hlt:n<st.Robots.length:=by omega
  have hx:st.Robots[n]?=some (st.Robots[n]'hlt):=List.getElem?_eq_getElem hlt
  generalize st.Robots[n]'hlt=r at hx
  refine⟨r,Qq rfl hx,Ite.mk (fun h1=>?_) (fun h1=>?_)⟩
  ·have:carr st i=n:=by
    unfold carr;rw [if_neg (by omega)]
    rcases Xz (fun r:Q0=>r.Load == i) st.Robots with ⟨j,y,hy,e,hpj,hb⟩ | ⟨e,hb⟩
    ·have h2:¬n<j:=fun h2=>by have:=hb n r h2 hx;rw [h1] at this;cases this
     have h3:¬j<n:=fun h3=>by have:=hI j y h3 hy;rw [hpj] at this;cases this
     rw [e];omega
    ·have:=hb r (List.mem_of_getElem? hx);rw [h1] at this;cases this
   rw [this] at hp;exact hp
  ·rw [Yt hlt k.Robots.1]
   refine⟨⟨n+1,rfl,by omega,fun j y hj hy=>?_⟩,by omega⟩
   by_cases e:j=n
   ·subst e;rw [hx] at hy;cases hy;exact h1
   ·exact hI j y (by omega) hy
 ·show carr st i=-1
  unfold carr
  split
  ·rfl
  ·have:n=st.Robots.length:=by simp at h;omega
   subst this
   rcases Xz (fun r:Q0=>r.Load == i) st.Robots with ⟨j,y,hy,e,hpj,hb⟩ | ⟨e,hb⟩
   ·have:=hI j y (List.getElem?_eq_some_iff.1 hy).1 hy;rw [hpj] at this;cases this
   ·exact e
theorem Q3O (hz:Sz st) {i:Nat} (hi:i<st.Shelves.length) {post:List Int→Prop} (hp:post (slS st i)):GP st i post:=by
 have hx:=List.getElem?_eq_getElem hi
 unfold slS carB high at hp
 rw [Q25 hx] at hp
 unfold GP
 refine Jn.mk' (Ite.f (by simp) (Ite.f (by simp;omega) (ZY hz ?_)))
 refine Ite.mk (fun h=>?_) (fun h=>?_)
 ·rw [if_pos (by simpa using h)] at hp;exact hp
 ·rw [if_neg (by simpa using h)] at hp;exact⟨_,Qq rfl hx,by unfold Xt;exact hp⟩
theorem Q3j (k:OkApiState st) {i:Nat} (hi:i<st.Shelves.length) {post:List Int→Prop} (hp:post (slS st i)):Kn st i post:=by
 have hx:=List.getElem?_eq_getElem hi
 unfold slS carB high at hp
 rw [Q25 hx] at hp
 unfold Kn
 refine Jn.mk' (Ite.f (by simp) (Ite.f (by simp;omega) (Q1S k ?_)))
 refine Ite.mk (fun h=>?_) (fun h=>?_)
 ·rw [if_pos (by simpa using h)] at hp;exact hp
 ·rw [if_neg (by simpa using h)] at hp;exact⟨_,Qq rfl hx,hp⟩
theorem Q36 {i:Nat} (hi:i<st.People.length) {post:List Int→Prop} (hp:post (slP (st.People.getD i 0))):Gj st i post:=by
 have hx:=List.getElem?_eq_getElem hi
 rw [Q25 hx] at hp
 unfold Gj Gp Xt
 exact Jor2 (Ite.f (by simp;omega) ⟨_,Qq rfl hx,hp⟩)
theorem Q2m {i:Nat} (hi:i<st.People.length) {post:List Int→Prop} (hp:post (slP (st.People.getD i 0))):Ke st i post:=by
 have hx:=List.getElem?_eq_getElem hi
 rw [Q25 hx] at hp
 unfold Ke
 exact Jor2 (Ite.f (by simp;omega) ⟨_,Qq rfl hx,hp⟩)
theorem Q1U (r:Q0):(slR r).length≤2:=by unfold slR;split <;> simp
theorem Q2c (i:Nat):(slS st i).length≤2:=by unfold slS;split <;> simp
theorem Q0N (hz:Sz st):(allS st).length≤6000:=by
 have h1:=Yh (n:=st.Robots.length) (f:=fun i=>slR (st.Robots.getD i default)) (fun i _=>Q1U _)
 have h2:=Yh (n:=st.Shelves.length) (f:=slS st) (fun i _=>Q2c i)
 have h3:=Yh (n:=st.People.length) (f:=fun i=>slP (st.People.getD i 0)) (fun i _=>by simp [slP])
 have:=hz.sh;have:=hz.rb;have:=hz.pp
 unfold allS;rw [List.length_append,List.length_append];omega
theorem Q2J (hz:Sz st) {post:List Int→Prop} (hp:post (allS st)):WR st post:=by
 have h1:=Yh (n:=st.Robots.length) (f:=fun i=>slR (st.Robots.getD i default)) (fun i _=>Q1U _)
 have h2:=Yh (n:=st.Shelves.length) (f:=slS st) (fun i _=>Q2c i)
 have q1:=hz.sh;have q2:=hz.rb;have q3:=hz.pp
 unfold WR
 refine Q5s q2 (f:=fun i=>slR (st.Robots.getD i default)) (fun i _=>Q1U _) (T:=fun i q=>GO st i q) (fun i hi q hq=>Q3M hi hq) (by simp) ?_
 refine Q5s q1 (f:=slS st) (fun i _=>Q2c i) (T:=fun i q=>GP st i q) (fun i hi q hq=>Q3O hz hi hq) (by rw [List.nil_append];omega) ?_
 refine Q5s q3 (f:=fun i=>slP (st.People.getD i 0)) (fun i _=>by simp [slP]) (T:=fun i q=>Gj st i q) (fun i hi q hq=>Q36 hi hq) (by rw [List.length_append];simp only [List.nil_append];omega) ?_
 exact hp
theorem Q5e (hz:Sz st) {post:List Int→Prop} (hp:∀l,List.Perm l (allS st)→post l):YC st post:=by
 unfold YC QF
 exact Q2J hz ⟨by have:=Q0N hz;omega,hp _ (List.mergeSort_perm _ _)⟩
def putA:List Int→Int→List Int
 | [],n=>[n]
 | x :: xs,n=>if x>n then n :: x :: xs else x :: putA xs n
theorem Q66 (l:List Int) (n:Int):List.Perm (putA l n) (l++[n]):=by
 induction l with
 | nil=>exact .refl _
 | cons x xs ih=>
  unfold putA
  split
  ·exact List.perm_append_comm (l₁:=[n]) (l₂:=x :: xs)
  ·exact .cons _ ih
theorem Q6m {l:List Int} {n:Int} (h:∀x,x∈l→¬x>n):putA l n=l++[n]:=by
 induction l with
 | nil=>rfl
 | cons x xs ih=>rw [putA,if_neg (h x (by simp)),ih (fun y hy=>h y (by simp [hy]))];rfl
theorem Q6U {l r:List Int} {n x:Int} (h:∀y,y∈l→¬y>n) (hx:x>n):putA (l++x :: r) n=l++n :: x :: r:=by
 induction l with
 | nil=>rw [List.nil_append,putA,if_pos hx];rfl
 | cons y ys ih=>rw [List.cons_append,putA,if_neg (h y (by simp)),ih (fun z hz=>h z (by simp [hz]))];rfl
theorem Q44 {l:List Int} (hl:l.length≤10000) {n:Int} {post:List Int→Prop} (hp:post (putA l n)):Xk l n post:=by
 unfold Xk
 refine Jn.mk (fun t:List Int×Bool=>(t.2=false∧t.1=l∧∀y,y∈l→¬y>n)∨(t.2=true∧t.1=putA l n))
  (Wh (xs:=l) (by unfold maxLen;omega) (fun t:List Int×Bool×Int=>t.2.2) (fun i t=>(t.2.1=false∧t.1=l.take i∧∀y,y∈l.take i→¬y>n)∨(t.2.1=true∧t.1++l.drop i=putA l n∧t.1.length=i+1)) rfl (.inl ⟨rfl,by simp,by simp⟩) (fun i x t hx ht hI=>?_) (fun t h=>?_)) (fun t ht=>?_)
 ·have hlt:i<l.length:=(List.getElem?_eq_some_iff.1 hx).1
  have hdr:l.drop i=x :: l.drop (i+1):=by
   rw [List.drop_eq_getElem_cons hlt];congr 1;exact (List.getElem?_eq_some_iff.1 hx).2
  rcases hI with ⟨h1,h2,h3⟩ | ⟨h1,h2,h3⟩
  ·refine Jn.mk (fun b=>b=decide (x>n)) (Ite.f h1 ⟨x,Qq ht hx,rfl⟩) (fun b hb=>?_)
   subst hb
   refine Jn.mk (fun u:List Int×Bool=>u=if x>n then (t.1++[n],true) else (t.1,t.2.1)) (Ite.mk (fun hc=>?_) (fun hc=>?_)) (fun u hu=>?_)
   ·simp only [decide_eq_true_eq] at hc
    exact⟨by rw [h2];simp;omega,by rw [if_pos hc]⟩
   ·simp only [decide_eq_false_iff_not] at hc;rw [if_neg hc]
   ·refine⟨x,Qq ht hx,?_,?_,?_⟩
    ·subst hu;split <;> simp [h2] <;> omega
    ·show w64 (t.2.2+1)=_;rw [ht]
    ·subst hu
     by_cases hc:x>n
     ·right
      rw [if_pos hc]
      refine⟨rfl,?_,?_⟩
      ·show ((t.1++[n])++[x])++l.drop (i+1)=putA l n
       have e:l=l.take i++x :: l.drop (i+1):=by rw [←hdr,List.take_append_drop]
       have:=Q6U (l:=l.take i) (r:=l.drop (i+1)) h3 hc
       rw [←e] at this
       rw [this,h2];simp
      ·show ((t.1++[n])++[x]).length=i+1+1
       rw [h2];simp;omega
     ·left
      rw [if_neg hc]
      refine⟨h1,?_,?_⟩
      ·show t.1++[x]=_;rw [h2,QI hx]
      ·rw [QI hx];intro y hy
       rcases List.mem_append.1 hy with hy | hy
       ·exact h3 y hy
       ·simp at hy;subst hy;exact hc
  ·refine Jn.mk (fun b=>b=false) (Ite.t h1 rfl) (fun b hb=>?_)
   subst hb
   refine Jn.mk (fun u:List Int×Bool=>u=(t.1,t.2.1)) (Ite.f rfl rfl) (fun u hu=>?_)
   subst hu
   refine⟨x,Qq ht hx,by simp;omega,by show w64 (t.2.2+1)=_;rw [ht],.inr ⟨h1,?_,?_⟩⟩
   ·show (t.1++[x])++l.drop (i+1)=_
    rw [←h2,hdr];simp
   ·show (t.1++[x]).length=_;simp;omega
 ·rcases h with ⟨h1,h2,h3⟩ | ⟨h1,h2,h3⟩
  ·exact .inl ⟨h1,by rw [h2,List.take_length],by rw [List.take_length] at h3;exact h3⟩
  ·exact .inr ⟨h1,by rw [List.drop_length,List.append_nil] at h2;exact h2⟩
 ·rcases ht with ⟨h1,h2,h3⟩ | ⟨h1,h2⟩
  ·refine Jn.mk (fun u=>u=putA l n) (Ite.t (by rw [h1];rfl) ⟨by rw [h2];simp;omega,by rw [h2,Q6m h3]⟩) (fun u hu=>hu▸hp)
  ·refine Jn.mk (fun u=>u=putA l n) (Ite.f (by rw [h1];rfl) h2) (fun u hu=>hu▸hp)
theorem Q2s {l:List Int} (hl:l.length≤10000) {post:List Int→Prop} (hp:∀l',List.Perm l' l→post l'):KJ l post:=by
 unfold KJ
 refine Jn.mk (fun u=>List.Perm u l) (Kh (xs:=l) (by unfold maxLen;omega) (fun t:List Int×Int=>t.2) (fun i t=>List.Perm t.1 (l.take i)) rfl (.refl _) (fun i x t hx ht hI=>?_) (fun t h=>by rw [List.take_length] at h;exact h)) (fun u hu=>hp u hu)
 have hlt:i<l.length:=(List.getElem?_eq_some_iff.1 hx).1
 refine Q44 (by rw [hI.length_eq,List.length_take];omega) ⟨by show w64 (t.2+1)=_;rw [ht],?_⟩
 show List.Perm (putA t.1 x) _
 rw [QI hx]
 exact (Q66 _ _).trans (hI.append_right _)
theorem Q4B (hz:Sz st) (k:OkApiState st) {post:List Int→Prop} (hp:∀l,List.Perm l (allS st)→post l):XK st post:=by
 have h1:=Yh (n:=st.Robots.length) (f:=fun i=>slR (st.Robots.getD i default)) (fun i _=>Q1U _)
 have h2:=Yh (n:=st.Shelves.length) (f:=slS st) (fun i _=>Q2c i)
 have q1:=hz.sh;have q2:=hz.rb;have q3:=hz.pp
 have q4:=Q0N hz
 unfold XK
 refine Q5s q2 (f:=fun i=>slR (st.Robots.getD i default)) (fun i _=>Q1U _) (T:=fun i q=>Kl st i q) (fun i hi q hq=>Q3r hi hq) (by simp) ?_
 refine Q5s q1 (f:=slS st) (fun i _=>Q2c i) (T:=fun i q=>Kn st i q) (fun i hi q hq=>Q3j k hi hq) (by rw [List.nil_append];omega) ?_
 refine Q5s q3 (f:=fun i=>slP (st.People.getD i 0)) (fun i _=>by simp [slP]) (T:=fun i q=>Ke st i q) (fun i hi q hq=>Q2m hi hq) (by rw [List.length_append];simp only [List.nil_append];omega) ?_
 exact Q2s (l:=allS st) (by omega) hp
theorem Gl {l m:List Int} (h:List.Perm l m) (x:Int):l.contains x=m.contains x:=by
 rw [Bool.eq_iff_iff];simp [h.mem_iff]
end
end Go.Taq
/- The mathematics, part OC: right states (taquinref14.Right, Few); the bounds of the statements about actions. -/
set_option linter.unusedVariables false
set_option linter.unusedSimpArgs false
namespace Go.Taq
open Go
def kx (f:ApiFloor) (c:Int):Int:=if isC f c=true then kd f c else -1
structure RRob (s:ApiSite) (st:ApiState) (i:Nat) (r:Q0):Prop where
 cell:isC s.Floor r.Cell=true
 kind:kd s.Floor r.Cell≠0
 load:-1≤r.Load∧r.Load<st.Shelves.length
 charge:0≤r.Charge∧r.Charge≤1000000
 rest:0≤r.Rest∧r.Rest≤20000
 mute:0≤r.Mute∧r.Mute≤20000
 own:0≤r.Load→carr st r.Load=i∧st.Shelves.getD r.Load.toNat 0=r.Cell
structure RSt (s:ApiSite) (st:ApiState):Prop where
 tick:0≤st.Tick∧st.Tick≤20000
 sl:st.Shelves.length=s.Shelves.length
 rl:st.Robots.length=s.Robots.length
 pl:st.People.length≤20
 rob:∀(i:Nat) r,st.Robots[i]?=some r→RRob s st i r
 shel:∀(i:Nat) c,st.Shelves[i]?=some c→carB st i=false→kx s.Floor c=1∨kx s.Floor c=2
 ppl:∀(i:Nat) c,st.People[i]?=some c→kx s.Floor c=4∨kx s.Floor c=5
 dead:∀(i:Nat) c,st.Dead[i]?=some c→isC s.Floor c=true
 deadA:∀(i:Nat) x y,st.Dead[i]?=some x→st.Dead[i+1]?=some y→x<y
 stuck:∀(i:Nat) x,st.Stuck[i]?=some x→kx s.Floor x.Cell=6∧1≤x.Left∧x.Left≤20000
 stuckA:∀(i:Nat) x y,st.Stuck[i]?=some x→st.Stuck[i+1]?=some y→x.Cell<y.Cell
 clash:(allS st).Nodup
structure Q5H (st:ApiState):Prop where
 sh:st.Shelves.length≤12
 rb:st.Robots.length≤12
 pp:st.People.length≤12
 dd:st.Dead.length≤12
 sk:st.Stuck.length≤12
theorem Q5H.sz {st:ApiState} (h:Q5H st):Sz st:=⟨by have:=h.sh;omega,by have:=h.rb;omega,by have:=h.pp;omega,by have:=h.dd;omega,by have:=h.sk;omega⟩
theorem Q5D {α:Type} {xs:List α} (hm:xs.length≤maxLen) (P:Nat→α→Prop) {T:Int→(Bool→Prop)→Prop} {E:Prop} {post:Bool→Prop}
  (hT:∀(i:Nat) x,xs[i]?=some x→∀{q:Bool→Prop},q true→(P i x→q false)→T (i:Int) q) (hF:post false) (hE:(∀(i:Nat) x,xs[i]?=some x→P i x)→E):
  Jn (fun (J:Unit→Prop)=>Loop (fun (s:Int) Y=>Ite (decide (s<(xs.length:Int))) (T s (fun b=>Ite b (post false) (Y (w64 (s+1))))) (J ())) 0) (fun _=>E):=by
 refine Jn.mk (fun _=>E) (Wh hm (fun t=>t) (fun i _=>∀(j:Nat) x,j<i→xs[j]?=some x→P j x) rfl (fun j x h=>by omega) (fun i x t hx ht hI=>?_) (fun t h=>hE fun j x hj=>h j x (List.getElem?_eq_some_iff.1 hj).1 hj)) (fun _ h=>h)
 rw [ht]
 refine hT i x hx (Ite.t rfl hF) (fun hP=>Ite.f rfl ⟨rfl,fun j y hj hy=>?_⟩)
 by_cases e:j=i
 ·subst e;rw [hx] at hy;cases hy;exact hP
 ·exact hI j y (by omega) hy
section
variable {st:ApiState}
theorem Q4K {post:Bool→Prop} (hF:post false) (hT:Q5H st→post true):XJ st post:=by
 unfold XJ
 refine Jor5 (Ite.mk (fun _=>hF) (fun h=>?_))
 simp only [Bool.or_eq_false_iff,decide_eq_false_iff_not] at h
 have hw:Q5H st:=⟨by omega,by omega,by omega,by omega,by omega⟩
 have:=hw.sh;have:=hw.pp;have:=hw.dd;have:=hw.rb
 refine⟨by simp;omega,by simp;omega,by simp;omega,?_⟩
 refine Jn.mk (fun l:List Int=>l.length≤48) (Kh (xs:=st.Robots) (by unfold maxLen;omega) (fun t:List Int×Int=>t.2) (fun i t=>t.1.length≤36+i) rfl (by simp;omega) (fun i x t hx ht hI=>?_) (fun t h=>by show t.1.length≤48;omega)) (fun l hl=>?_)
 ·have:=(List.getElem?_eq_some_iff.1 hx).1
  refine⟨by simp;omega,by show w64 (t.2+1)=_;rw [ht],by show (t.1++[x.Cell]).length≤_;simp;omega⟩
 ·exact Q5D (xs:=l) (by unfold maxLen;omega) (fun _ _=>True) (T:=fun i q=>Jn (fun (J42:Bool→Prop)=>∃x43,idx l i=some x43∧Ite (decide (x43<(-1152921504606846976))) (J42 true) (J42 (decide (x43>1152921504606846976)))) q) (fun i x hx q q1 q2=>Jn.ex x (Qq rfl hx) (Jor2 (by
   cases hb:(decide (x<(-1152921504606846976))||decide (x>1152921504606846976))
   ·exact q2 trivial
   ·exact q1))) hF (fun _=>hT hw)
end
end Go.Taq
/- The mathematics, part OD: which actions are legal, and what they do. -/
set_option linter.unusedVariables false
set_option linter.unusedSimpArgs false
namespace Go.Taq
open Go
structure LS (s:ApiSite) (st:ApiState):Prop where
 fl:RF s.Floor
 rs:RS s
 sz:Sz st
 cell:∀c,c∈st.Shelves→isC s.Floor c=true
 rob:∀(i:Nat) r,st.Robots[i]?=some r→isC s.Floor r.Cell=true∧-1≤r.Load∧r.Load<st.Shelves.length
def mvB (a:Int):Bool:=decide (1≤a)&&decide (a<7)
def movS (s:ApiSite) (st:ApiState) (r:Q0) (d:Int):Int:=
 if (!(nx s.Floor r.Cell d).2||st.Dead.contains (nx s.Floor r.Cell d).1)=true then 14
 else if ((d == 4||d == 5)&&(st.Stuck.any fun x=>x.Cell == r.Cell||x.Cell == (nx s.Floor r.Cell d).1))=true then 14
 else if opn s (nx s.Floor r.Cell d).1 st.Tick=false then 18
 else if ((allS st).contains (low (nx s.Floor r.Cell d).1)||(decide (r.Load≥0)&&(allS st).contains (high (nx s.Floor r.Cell d).1)))=true then 15 else 0
def legR (s:ApiSite) (st:ApiState) (r:Q0) (a:Int):Int:=
 if a<0∨a≥10 then 1 else if a=0 then 0
 else if (r.Dead||decide (r.Mute>0))=true then 9
 else if (mvB a&&decide (r.Rest>0))=true then 8
 else if (aft st.Tick r.Charge a (decide (r.Load≥0))).2=16 then 16
 else if mvB a=true then movS s st r (a-1)
 else if a=7 then (if r.Load≥0 then 7 else if atS st r.Cell<0 then 4 else 0)
 else if a=8 then (if r.Load<0 then 7 else Q3s s st r.Load r.Cell)
 else if kd s.Floor r.Cell=3 then 0 else 13
def legS (s:ApiSite) (st:ApiState) (i a:Int):Int:=if i<0∨i≥st.Robots.length then 4 else legR s st (st.Robots.getD i.toNat default) a
def chg (st:ApiState) (r:Q0) (a:Int):Int:=if (aft st.Tick r.Charge a (decide (r.Load≥0))).2=0 then (aft st.Tick r.Charge a (decide (r.Load≥0))).1 else 0
def lod (st:ApiState) (r:Q0) (a:Int):Int:=if a=7 then atS st r.Cell else if a=8 then -1 else r.Load
def nwR (s:ApiSite) (st:ApiState) (r:Q0) (a:Int):Q0:=
 if (mvB a&&(nx s.Floor r.Cell (a-1)).2)=true then {r with Cell:=(nx s.Floor r.Cell (a-1)).1,Load:=lod st r a,Charge:=chg st r a,Rest:=spd s (nx s.Floor r.Cell (a-1)).1-1}
 else {r with Load:=lod st r a,Charge:=chg st r a}
def nwS (s:ApiSite) (st:ApiState) (r:Q0) (a:Int):List Int:=
 if (mvB a&&(nx s.Floor r.Cell (a-1)).2)=true∧0≤lod st r a then st.Shelves.set (lod st r a).toNat (nx s.Floor r.Cell (a-1)).1 else st.Shelves
def doR (s:ApiSite) (st:ApiState) (n:Nat) (r:Q0) (a:Int):ApiState:=
 if r.Dead=true then st else {st with Shelves:=nwS s st r a,Robots:=st.Robots.set n (nwR s st r a)}
section
variable {s:ApiSite} {st:ApiState}
theorem Q0a {a:Int}:mvB a=true↔1≤a∧a<7:=by simp [mvB]
theorem Zc {a:Int} (h0:0≤a) (h9:a<10) {post:Int×Bool→Prop} (hp:post (a-1,mvB a)):XB a post:=by
 unfold XB
 rw [Qx (by omega) (by omega)]
 refine YS ?_
 have:(decide (a-1≥0)&&decide (a-1<6))=mvB a:=by rw [Bool.eq_iff_iff,Q0a];simp;omega
 rw [this];exact hp
theorem Q79 {xs:List Qd} (hl:xs.length≤maxLen) {r:Q0} {c:Int} {post:Bool→Prop} (hp:post (xs.any fun x=>x.Cell == r.Cell||x.Cell == c)):Qi xs r c post:=by
 unfold Qi Qt
 exact Q11 hl (fun x:Qd=>x.Cell == r.Cell||x.Cell == c) (T:=fun x q=>WC x r c q) (fun x _ q hq=>by unfold WC;exact Jor2 hq) (post:=fun n=>post (decide (n≥0))) (by rw [Q0p];exact hp)
theorem Q0t {c:Int} (hz:Sz st) {post:Bool→Prop} (hp:post (st.Stuck.any fun x=>x.Cell == c)):Kk st c post:=by
 unfold Kk
 exact Q7j (by have:=hz.sk;unfold maxLen;omega) hp
theorem Q5b (ks:OkApiSite s) (h:LS s st) {r:Q0} {d:Int} {post:Int→Prop} (hp:post (movS s st r d)):YA s st r d post:=by
 have hd:st.Dead.length≤maxLen:=by have:=h.sz.dd;unfold maxLen;omega
 have hk:st.Stuck.length≤maxLen:=by have:=h.sz.sk;unfold maxLen;omega
 unfold YA Gp Xt
 unfold movS at hp
 refine Zx h.fl ?_
 generalize nx s.Floor r.Cell d=x at hp
 refine Jn.mk (fun b=>b=(!x.2||st.Dead.contains x.1)) (Ite.mk (fun h1=>KY hd (by rw [h1];rfl)) (fun h1=>by rw [h1];rfl)) (fun b hb=>?_)
 subst hb
 refine Ite.mk (fun h1=>?_) (fun h1=>?_)
 ·rw [if_pos h1] at hp;exact hp
 rw [if_neg (by rw [h1];simp)] at hp
 refine Jor2 (Jn.mk (fun _=>((d == 4||d == 5)&&(st.Stuck.any fun y=>y.Cell == r.Cell||y.Cell == x.1))=false) (Ite.mk (fun h2=>Q79 hk (Ite.mk (fun h3=>?_) (fun h3=>?_))) (fun h2=>?_)) (fun _ h2=>?_))
 ·rw [if_pos (by rw [h2,h3];rfl)] at hp;exact hp
 ·rw [h3];simp
 ·rw [h2];simp
 rw [if_neg (by rw [h2];simp)] at hp
 refine Q49 ks h.rs (Ite.mk (fun h3=>?_) (fun h3=>Q5e h.sz (fun l hl=>?_)))
 ·rw [if_pos (by simpa using h3)] at hp;exact hp
 rw [if_neg (by simpa using h3)] at hp
 have hlm:l.length≤maxLen:=by rw [hl.length_eq];have:=Q0N h.sz;unfold maxLen;omega
 refine Jn.mk (fun b=>b=((allS st).contains (low x.1)||(decide (r.Load≥0)&&(allS st).contains (high x.1)))) (KY hlm (Ite.mk (fun h4=>?_) (fun h4=>Ite.mk (fun h5=>KY hlm ?_) (fun h5=>?_)))) (fun b hb=>?_)
 ·rw [Gl hl] at h4;unfold low;rw [h4];rfl
 ·rw [Gl hl] at h4 ⊢;unfold low high;rw [h4,h5];rfl
 ·rw [Gl hl] at h4;unfold low;rw [h4,h5];rfl
 ·subst hb
  refine Ite.mk (fun h4=>?_) (fun h4=>?_)
  ·rw [if_pos h4] at hp;exact hp
  ·rw [if_neg (by rw [h4];simp)] at hp;exact hp
theorem Q4L (ks:OkApiSite s) (k:OkApiState st) (h:LS s st) {i a:Int} {post:Int→Prop} (hp:post (legS s st i a)):WX s st i a post:=by
 have hsl:st.Shelves.length≤1000000:=by have:=h.sz.sh;omega
 unfold WX
 unfold legS legR at hp
 refine Jor2 (Ite.mk (fun h1=>?_) (fun h1=>?_)) <;> simp at h1
 ·rw [if_pos (by omega)] at hp;exact hp
 rw [if_neg (by omega)] at hp
 refine Jor2 (Ite.mk (fun h2=>?_) (fun h2=>?_)) <;> simp at h2
 ·rw [if_pos (by omega)] at hp;exact hp
 rw [if_neg (by omega)] at hp
 refine Ite.mk (fun h3=>?_) (fun h3=>?_) <;> simp at h3
 ·rw [if_pos h3] at hp;exact hp
 rw [if_neg h3] at hp
 obtain⟨n,hn⟩:=Int.eq_ofNat_of_zero_le h1.1
 have hlt:n<st.Robots.length:=by omega
 have hx:=List.getElem?_eq_getElem hlt
 have hg:st.Robots.getD i.toNat default=st.Robots[n]:=by rw [hn];exact Q1Q hx
 rw [hg] at hp
 generalize st.Robots[n]=r at hp hx
 obtain⟨hc,hlo⟩:=h.rob n r hx
 refine⟨r,Qq hn hx,Zc h2.1 h2.2 (Jor2 (Ite.mk (fun h4=>?_) (fun h4=>?_)))⟩
 ·rw [if_pos h4] at hp;exact hp
 rw [if_neg (by rw [h4];simp)] at hp
 refine YS (Ite.mk (fun h5=>?_) (fun h5=>?_))
 ·rw [if_pos h5] at hp;exact hp
 rw [if_neg (by rw [h5];simp)] at hp
 refine Zo (Ite.mk (fun h6=>?_) (fun h6=>?_))
 ·simp at h6;rw [if_pos h6] at hp;rw [h6];exact hp
 simp at h6;rw [if_neg h6] at hp
 refine Ite.mk (fun h7=>?_) (fun h7=>?_)
 ·simp only at h7;rw [if_pos h7] at hp;exact Q5b ks h hp
 simp only at h7;rw [if_neg (by rw [h7];simp)] at hp
 refine Ite.mk (fun h8=>?_) (fun h8=>?_) <;> simp at h8
 ·rw [if_pos h8] at hp
  unfold ZG
  refine Ite.mk (fun h9=>?_) (fun h9=>Q2O k hsl ?_) <;> simp at h9
  ·rw [if_pos h9] at hp;exact hp
  ·rw [if_neg (by omega)] at hp
   refine Ite.mk (fun g=>?_) (fun g=>?_) <;> simp at g
   ·rw [if_pos g] at hp;exact hp
   ·rw [if_neg (by omega)] at hp;exact hp
 rw [if_neg h8] at hp
 refine YS (Ite.mk (fun h9=>?_) (fun h9=>Ite.mk (fun g=>?_) (fun g=>?_)))
 ·simp at h9;rw [if_pos h9.1,if_pos h9.2] at hp;exact hp
 ·simp at g;rw [g] at h9;simp at h9
  rw [if_pos g,if_neg (by omega)] at hp;exact Q3W ks k h.fl hsl hp
 ·simp at g;rw [if_neg g] at hp
  refine⟨_,GN hc,Ite.mk (fun g1=>?_) (fun g1=>?_)⟩
  ·rw [if_neg (by simpa using g1)] at hp;exact hp
  ·rw [if_pos (by simpa using g1)] at hp;exact hp
theorem ZS {i a:Int} {n:Nat} {r:Q0} (hn:i=n) (hx:st.Robots[n]?=some r) (hf:RF s.Floor) (ha:mvB a=true) {post:Int×Bool→Prop} (hp:post (nx s.Floor r.Cell (a-1))):K4 s st i a post:=by
 have hm:=Q0a.1 ha
 have hlt:=(List.getElem?_eq_some_iff.1 hx).1
 unfold K4 Kd
 refine Jn.mk' (Ite.f (by simp;omega) (Ite.f (by simp;omega) (YS (Ite.f (by simp;omega) ⟨r,Qq hn hx,?_⟩))))
 rw [Qx (by omega) (by omega)]
 exact Q1t hf (by omega) hp
theorem Q43 (ks:OkApiSite s) (hr:Ws s) (k:OkApiState st) (h:LS s st) {i a:Int} {n:Nat} {r:Q0} (hn:i=n) (hx:st.Robots[n]?=some r) (ha:mvB a=true) {post:Int→Prop} (hp:post (movS s st r (a-1))):Xf s st i a post:=by
 have hd:st.Dead.length≤maxLen:=by have:=h.sz.dd;unfold maxLen;omega
 have hm:=Q0a.1 ha
 unfold Xf
 unfold movS at hp
 refine⟨r,Qq hn hx,ZS hn hx h.fl ha ?_⟩
 generalize nx s.Floor r.Cell (a-1)=x at hp
 refine Jn.mk (fun b=>b=(!x.2||st.Dead.contains x.1)) (Ite.mk (fun h1=>YO hd (by rw [h1];rfl)) (fun h1=>by rw [h1];rfl)) (fun b hb=>?_)
 subst hb
 refine Ite.mk (fun h1=>?_) (fun h1=>?_)
 ·rw [if_pos h1] at hp;exact hp
 rw [if_neg (by rw [h1];simp)] at hp
 have e5:decide (a≥5)=(a-1 == 4||a-1 == 5):=by rw [Bool.eq_iff_iff];simp;omega
 refine Jn.mk (fun b=>b=((a-1 == 4||a-1 == 5)&&(st.Stuck.any fun y=>y.Cell == r.Cell||y.Cell == x.1))) (Ite.mk (fun h2=>Q0t h.sz (Ite.mk (fun h3=>?_) (fun h3=>Q0t h.sz ?_))) (fun h2=>?_)) (fun b hb=>?_)
 ·rw [←e5,h2,Q5I,h3];rfl
 ·show _=_;rw [←e5,h2,Q5I,h3];rfl
 ·rw [←e5,h2];rfl
 subst hb
 refine Ite.mk (fun h2=>?_) (fun h2=>?_)
 ·rw [if_pos h2] at hp;exact hp
 rw [if_neg (by rw [h2];simp)] at hp
 refine Q3K ks hr (Ite.mk (fun h3=>?_) (fun h3=>Q4B h.sz k (fun l hl=>?_)))
 ·rw [if_pos (by simpa using h3)] at hp;exact hp
 rw [if_neg (by simpa using h3)] at hp
 have hlm:l.length≤maxLen:=by rw [hl.length_eq];have:=Q0N h.sz;unfold maxLen;omega
 refine Jn.mk (fun b=>b=((allS st).contains (low x.1)||(decide (r.Load≥0)&&(allS st).contains (high x.1)))) (YO hlm (Ite.mk (fun h4=>?_) (fun h4=>Ite.mk (fun h5=>YO hlm ?_) (fun h5=>?_)))) (fun b hb=>?_)
 ·rw [Gl hl] at h4;unfold low;rw [h4];rfl
 ·rw [Gl hl] at h4 ⊢;unfold low high;rw [h4,h5];rfl
 ·rw [Gl hl] at h4;unfold low;rw [h4,h5];rfl
 ·subst hb
  refine Ite.mk (fun h4=>?_) (fun h4=>?_)
  ·rw [if_pos h4] at hp;exact hp
  ·rw [if_neg (by rw [h4];simp)] at hp;exact hp
theorem Q38 (ks:OkApiSite s) (hr:Ws s) (k:OkApiState st) (h:LS s st) {i a:Int} {post:Int→Prop} (hp:post (legS s st i a)):KZ s st i a post:=by
 have hsl:st.Shelves.length≤1000000:=by have:=h.sz.sh;omega
 unfold KZ
 unfold legS legR at hp
 refine Jor2 (Ite.mk (fun h1=>?_) (fun h1=>?_)) <;> simp at h1
 ·rw [if_pos (by omega)] at hp;exact hp
 rw [if_neg (by omega)] at hp
 refine Jor2 (Ite.mk (fun h2=>?_) (fun h2=>?_)) <;> simp at h2
 ·rw [if_pos (by omega)] at hp;exact hp
 rw [if_neg (by omega)] at hp
 refine Ite.mk (fun h3=>?_) (fun h3=>?_) <;> simp at h3
 ·rw [if_pos h3] at hp;exact hp
 rw [if_neg h3] at hp
 obtain⟨n,hn⟩:=Int.eq_ofNat_of_zero_le h1.1
 have hlt:n<st.Robots.length:=by omega
 have hx:=List.getElem?_eq_getElem hlt
 have hg:st.Robots.getD i.toNat default=st.Robots[n]:=by rw [hn];exact Q1Q hx
 rw [hg] at hp
 generalize st.Robots[n]=r at hp hx
 obtain⟨hc,hlo⟩:=h.rob n r hx
 refine⟨r,Qq hn hx,Jor2 (Ite.mk (fun h4=>?_) (fun h4=>?_))⟩
 ·rw [if_pos h4] at hp;exact hp
 rw [if_neg (by rw [h4];simp)] at hp
 refine Jn.mk (fun b=>b=(mvB a&&decide (r.Rest>0))) ?_ (fun b hb=>?_)
 ·unfold Kd
  refine YS (Ite.mk (fun h5=>?_) (fun h5=>?_))
  ·have:mvB a=true:=h5
   rw [this];rfl
  ·have:mvB a=false:=h5
   rw [this];rfl
 subst hb
 refine Ite.mk (fun h5=>?_) (fun h5=>?_)
 ·rw [if_pos h5] at hp;exact hp
 rw [if_neg (by rw [h5];simp)] at hp
 refine Q0P (Ite.mk (fun h6=>?_) (fun h6=>?_))
 ·simp at h6;rw [if_pos h6] at hp;exact hp
 simp at h6;rw [if_neg h6] at hp
 refine Ite.mk (fun h8=>?_) (fun h8=>?_) <;> simp at h8
 ·rw [if_neg (by rw [Q0a];omega),if_pos h8] at hp
  refine Ite.mk (fun h9=>?_) (fun h9=>Q2H ks k h.fl hsl h.cell ?_) <;> simp at h9
  ·rw [if_pos h9] at hp;exact hp
  ·rw [if_neg (by omega)] at hp
   refine Ite.mk (fun g=>?_) (fun g=>?_) <;> simp at g
   ·rw [if_pos g] at hp;exact hp
   ·rw [if_neg (by omega)] at hp;exact hp
 refine Ite.mk (fun h9=>?_) (fun h9=>?_) <;> simp at h9
 ·rw [if_neg (by rw [Q0a];omega),if_neg h8,if_pos h9] at hp
  refine Ite.mk (fun g=>?_) (fun g=>?_) <;> simp at g
  ·rw [if_pos g] at hp;exact hp
  ·rw [if_neg (by omega)] at hp;exact Q42 ks k h.fl hsl hp
 refine Ite.mk (fun g=>?_) (fun g=>?_) <;> simp at g
 ·rw [if_neg (by rw [Q0a];omega),if_neg h8,if_neg h9] at hp
  refine⟨_,GN hc,Ite.mk (fun g1=>?_) (fun g1=>?_)⟩
  ·rw [if_neg (by simpa using g1)] at hp;exact hp
  ·rw [if_pos (by simpa using g1)] at hp;exact hp
 ·have hm:mvB a=true:=Q0a.2 (by omega)
  rw [if_pos hm] at hp
  exact Q43 ks hr k h hn hx hm hp
end
end Go.Taq
