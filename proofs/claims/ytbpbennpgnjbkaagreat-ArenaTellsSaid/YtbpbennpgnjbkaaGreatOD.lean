/- The mathematics, several parts in one text. -/
import Derived.Test.YtbpbennpgnjbkaaGreatNF
import Derived.Test.YtbpbennpgnjbkaaGreatNW
/- The mathematics, part OA: batteries, and the slots of a state. -/
set_option linter.unusedVariables false
set_option linter.unusedSimpArgs false
namespace Go.Taq
open Go
def bas (a:Int) (l:Bool):Int:=
 if a=0∨a=8 then 1 else if a=7 then 3 else if a<1∨a≥7 then 0 else (if a=5 then 5 else if a=6 then 1 else 2)+if l=true then 2 else 0
def agT (t:Int):Int:=if t<0 then 0 else if t>20000 then 20 else t / 1000
def cst (t a:Int) (l:Bool):Int:=(bas a l*(10+agT t)+9) / 10
def aft (t ch a:Int) (l:Bool):Int×Int:=
 if ch<0∨ch>1000000∨a<0∨a≥10 then (ch,1) else if a=9 then (if ch>999980 then 1000000 else ch+20,0) else if ch<cst t a l then (ch,16) else (ch-cst t a l,0)
theorem Qal (a:Int) (l:Bool):bas a l=0∨bas a l=1∨bas a l=2∨bas a l=3∨bas a l=4∨bas a l=5∨bas a l=7:=by
 unfold bas
 cases l <;> simp <;> split <;> (try split) <;> (try split) <;> (try split) <;> (try split) <;> omega
theorem Q6g (t:Int):0≤agT t∧agT t≤20:=by unfold agT;split <;> (try split) <;> omega
theorem Q5C (a t:Int) (l:Bool):0≤bas a l*(10+agT t)∧bas a l*(10+agT t)≤210:=by
 have h:=Q6g t
 rcases Qal a l with e | e | e | e | e | e | e <;> rw [e] <;> omega
theorem Q3s (t a:Int) (l:Bool):0≤cst t a l∧cst t a l≤21:=by have:=Q5C a t l;unfold cst;omega
theorem act10 {a:Int} (h0:0≤a) (h9:a<10):a=0∨a=1∨a=2∨a=3∨a=4∨a=5∨a=6∨a=7∨a=8∨a=9:=by omega
theorem Q2W {a:Int} (h0:0≤a) (h9:a<10) {l:Bool} {post:Int→Prop} (hp:post (bas a l)):GX a l post:=by
 unfold GX
 rcases act10 h0 h9 with rfl | rfl | rfl | rfl | rfl | rfl | rfl | rfl | rfl | rfl <;> cases l <;> repeat (first | exact hp | refine Jn.mk' ?_ | refine Ite.t (by decide) ?_ | refine Ite.f (by decide) ?_)
theorem Q9r (t:Int):w64 ((imin (imax t 0) 20000).tdiv 1000)=agT t:=by
 have e:(imin (imax t 0) 20000).tdiv 1000=agT t:=by
  unfold imin imax agT
  rw [Int.tdiv_eq_ediv_of_nonneg (by repeat' split <;> omega)]
  repeat' split <;> omega
 rw [e];have:=Q6g t;exact Qy (by omega) (by omega)
theorem Q38 {t a:Int} (h0:0≤a) (h9:a<10) {l:Bool} {post:Int→Prop} (hp:post (cst t a l)):GW t a l post:=by
 unfold GW
 refine Q2W h0 h9 ?_
 have hb:=Q5C a t l
 have ha:=Q6g t
 rw [Q9r,Qy (x:=10+agT t) (by omega) (by omega),Qy (x:=bas a l*(10+agT t)) (by omega) (by omega),Qy (x:=bas a l*(10+agT t)+9) (by omega) (by omega),Int.tdiv_eq_ediv_of_nonneg (by omega)]
 have hc:=Q3s t a l
 unfold cst at hc hp
 rw [Qy (by omega) (by omega)]
 exact hp
theorem Q2N {ch c:Int} (hc:0≤c∧c≤100) {post:Int×Int→Prop} (hp:post (if ch<0∨ch>1000000 then (ch,1) else if ch<c then (ch,16) else (ch-c,0))):GA ch c post:=by
 unfold GA KT
 refine Jn.mk (fun b=>b=decide (ch<0∨ch>1000000)) (YS (Ite.mk (fun h=>?_) (fun h=>?_))) (fun b hb=>?_)
 ·simp at h;rw [decide_eq_false (by omega:¬c<0)];simp;omega
 ·simp at h;simp;omega
 ·subst hb
  refine Ite.mk (fun h=>?_) (fun h=>Ite.mk (fun h1=>?_) (fun h1=>?_))
  ·rw [if_pos (by simpa using h)] at hp;exact hp
  ·rw [if_neg (by simpa using h),if_pos (by simpa using h1)] at hp;exact hp
  ·rw [if_neg (by simpa using h),if_neg (by simpa using h1)] at hp
   simp at h h1
   rw [Qy (by omega) (by omega)];exact hp
theorem ZW {t ch a:Int} {l:Bool} {post:Int×Int→Prop} (hp:post (aft t ch a l)):XQ t ch a l post:=by
 unfold XQ KT
 refine Jn.mk (fun b=>b=decide (ch<0∨ch>1000000∨a<0∨a≥10)) (YS (Ite.mk (fun h=>Ite.mk (fun h1=>?_) (fun h1=>?_)) (fun h=>?_))) (fun b hb=>?_)
 ·simp at h h1;simp;omega
 ·simp at h h1;show decide (a≥10)=decide (ch<0∨ch>1000000∨a<0∨a≥10);rw [Bool.eq_iff_iff];simp;omega
 ·simp at h;simp;omega
 ·subst hb
  unfold aft at hp
  refine Ite.mk (fun h=>?_) (fun h=>Ite.mk (fun h1=>?_) (fun h1=>?_))
  ·rw [if_pos (by simpa using h)] at hp;exact hp
  ·simp at h1;rw [if_neg (by simpa using h),if_pos h1] at hp
   simp at h
   rw [Qy (x:=ch+20) (by omega) (by omega)]
   have e:imin (ch+20) 1000000=if ch>999980 then 1000000 else ch+20:=by unfold imin;repeat' split <;> omega
   rw [e];exact hp
  ·simp at h1;rw [if_neg (by simpa using h),if_neg h1] at hp
   simp at h
   refine Q38 (by omega) (by omega) (Q2N (by have:=Q3s t a l;omega) ?_)
   rw [if_neg (by omega)]
   split
   ·rw [if_pos (by assumption)] at hp;exact hp
   ·rw [if_neg (by assumption)] at hp;exact hp
theorem Q4Z {a:Int} {l:Bool} {post:Int→Prop} (hp:post (bas a l)):XG a l post:=by
 unfold XG
 by_cases h:0≤a∧a<10
 ·rcases act10 h.1 h.2 with rfl | rfl | rfl | rfl | rfl | rfl | rfl | rfl | rfl | rfl <;> cases l <;> repeat (first | exact hp | refine Jn.mk' ?_ | refine Ite.t (by decide) ?_ | refine Ite.f (by decide) ?_)
 ·unfold bas at hp
  rw [if_neg (by omega),if_neg (by omega),if_pos (by omega)] at hp
  refine Jor2 (Ite.f (by simp;omega) (Ite.f (by simp;omega) (Jor2 (Ite.t (by simp;omega) hp))))
theorem Q5E {t:Int} {post:Int→Prop} (hp:post (agT t)):XM t post:=by
 unfold XM;unfold agT at hp
 refine Ite.mk (fun h=>?_) (fun h=>Ite.mk (fun h1=>?_) (fun h1=>?_)) <;> simp at h
 ·rw [if_pos h] at hp;exact hp
 ·simp at h1;rw [if_neg (by omega),if_pos h1] at hp;exact hp
 ·simp at h1;rw [if_neg (by omega),if_neg (by omega)] at hp
  rw [Int.tdiv_eq_ediv_of_nonneg h,Qy (by omega) (by omega)];exact hp
theorem Q52 {t a:Int} {l:Bool} {post:Int→Prop} (hp:post (cst t a l)):Xy t a l post:=by
 unfold Xy
 refine Q4Z (Q5E ?_)
 have hb:=Q5C a t l
 have ha:=Q6g t
 have hc:=Q3s t a l
 unfold cst at hp hc
 rw [Qy (x:=10+agT t) (by omega) (by omega),Qy (x:=bas a l*(10+agT t)) (by omega) (by omega),Int.tdiv_eq_ediv_of_nonneg (by omega),Int.tmod_eq_emod_of_nonneg (by omega)]
 generalize bas a l*(10+agT t)=x at *
 rw [Qy (x:=x / 10) (by omega) (by omega)]
 refine Ite.mk (fun h=>?_) (fun h=>?_) <;> simp at h
 ·rw [Qy (by omega) (by omega)]
  have:(x+9) / 10=x / 10+1:=by omega
  rw [←this];exact hp
 ·have:(x+9) / 10=x / 10:=by omega
  rw [←this];exact hp
theorem Q1k {t ch a:Int} {l:Bool} {post:Int×Int→Prop} (hp:post (aft t ch a l)):KD t ch a l post:=by
 unfold KD GJ
 refine Jn.mk (fun b=>b=decide (ch<0∨ch>1000000∨a<0∨a≥10)) (Ite.mk (fun h=>?_) (fun h=>Ite.mk (fun h1=>?_) (fun h1=>YS ?_))) (fun b hb=>?_)
 ·simp at h;simp;omega
 ·simp at h h1;simp;omega
 ·simp at h h1;show (!(decide (a≥0)&&decide (a<10)))=decide (ch<0∨ch>1000000∨a<0∨a≥10);rw [Bool.eq_iff_iff];simp;omega
 ·subst hb
  unfold aft at hp
  refine Ite.mk (fun h=>?_) (fun h=>Ite.mk (fun h1=>?_) (fun h1=>?_))
  ·rw [if_pos (by simpa using h)] at hp;exact hp
  ·simp at h1;rw [if_neg (by simpa using h),if_pos h1] at hp
   simp at h
   refine Ite.mk (fun h2=>?_) (fun h2=>?_) <;> simp at h2
   ·rw [if_pos (by omega)] at hp;exact hp
   ·rw [if_neg (by omega)] at hp;rw [Qy (by omega) (by omega)];exact hp
  ·simp at h1;rw [if_neg (by simpa using h),if_neg h1] at hp
   simp at h
   have hc:=Q3s t a l
   refine Q52 ?_
   unfold G9
   refine Jor3 (Ite.f (by simp;omega) (Ite.mk (fun h2=>?_) (fun h2=>?_))) <;> simp at h2
   ·rw [if_pos (by omega)] at hp;exact hp
   ·rw [if_neg (by omega)] at hp;rw [Qy (by omega) (by omega)];exact hp
end Go.Taq
/- The mathematics, part OB: the slots of a state, in both; who carries. -/
set_option linter.unusedVariables false
set_option linter.unusedSimpArgs false
namespace Go.Taq
open Go
def low (c:Int):Int:=w64 (2*c)
def high (c:Int):Int:=w64 (w64 (2*c)+1)
def slR (r:ApiRobot):List Int:=if 0≤r.Load then [low r.Cell,high r.Cell] else [low r.Cell]
def slS (st:ApiState) (i:Nat):List Int:=if carB st i=true then [] else [high (st.Shelves.getD i 0)]
def slP (c:Int):List Int:=[low c,high c]
def allS (st:ApiState):List Int:=(List.range st.Robots.length).flatMap (fun i=>slR (st.Robots.getD i default))++(List.range st.Shelves.length).flatMap (slS st)++(List.range st.People.length).flatMap (fun i=>slP (st.People.getD i 0))
structure Sz (st:ApiState):Prop where
 sh:st.Shelves.length≤1000
 rb:st.Robots.length≤1000
 pp:st.People.length≤1000
 dd:st.Dead.length≤1000
 sk:st.Stuck.length≤1000
theorem Wq {n:Nat} {f:Nat→List Int} (h:∀i,i<n→(f i).length≤2):((List.range n).flatMap f).length≤2*n:=by
 induction n with
 | zero=>simp
 | succ n ih=>rw [List.range_succ,List.flatMap_append,List.length_append];have:=ih (fun i hi=>h i (by omega));have:=h n (by omega);simp only [List.flatMap_cons,List.flatMap_nil,List.append_nil];omega
theorem Q6G {n:Nat} (hn:n≤1000) {f:Nat→List Int} (hf:∀i,i<n→(f i).length≤2) {T:Int→(List Int→Prop)→Prop} (hT:∀i:Nat,i<n→∀{q:List Int→Prop},q (f i)→T (i:Int) q) {l0:List Int} (hl:l0.length≤1000000) {K:List Int→Prop} (hK:K (l0++(List.range n).flatMap f)):
  Jn (fun (J:List Int→Prop)=>Loop (fun (s:List Int×Int) Y=>Ite (decide (s.2<(n:Int))) (T s.2 (fun x=>(s.1.length+x.length≤1099511627776)∧Y (s.1++x,w64 (s.2+1)))) (J s.1)) (l0,0)) (fun x=>K x):=by
 refine Jn.mk (fun x=>x=l0++(List.range n).flatMap f) (Q21 n (fun t:List Int×Int=>t.2) (fun i t=>t.1=l0++(List.range i).flatMap f) (by unfold maxLen;omega) rfl (by simp) (fun i t hi h1 h2=>?_) (fun t h=>h)) (fun x hx=>hx▸hK)
 rw [h1]
 refine hT i hi ⟨?_,rfl,?_⟩
 ·have:=hf i hi
  have h3:=Wq (n:=i) (f:=f) (fun j hj=>hf j (by omega))
  rw [h2,List.length_append];omega
 ·show t.1++f i=_
  rw [h2,List.range_succ,List.flatMap_append,List.append_assoc];simp
section
variable {st:ApiState}
theorem Q7m {r:ApiRobot} {post:List Int→Prop} (hp:post (slR r)):WJ r r.Cell post:=by
 unfold WJ Xt KE
 unfold slR low high at hp
 refine Ite.mk (fun h=>?_) (fun h=>?_) <;> simp at h
 ·rw [if_pos h] at hp;exact hp
 ·rw [if_neg (by omega)] at hp;exact hp
theorem Q6R {r:ApiRobot} {post:List Int→Prop} (hp:post (slR r)):Kq r r.Cell post:=by
 unfold Kq
 unfold slR low high at hp
 refine Ite.mk (fun h=>?_) (fun h=>?_) <;> simp at h
 ·rw [if_neg (by omega)] at hp;exact hp
 ·rw [if_pos h] at hp;exact hp
theorem Wc {i:Nat} {r:ApiRobot} (h:st.Robots[i]?=some r):st.Robots.getD i default=r:=by rw [List.getD_eq_getElem?_getD,h];rfl
theorem Wn {l:List Int} {n:Nat} {x:Int} (h:l[n]?=some x):l.getD n 0=x:=by rw [List.getD_eq_getElem?_getD,h];rfl
theorem Q4Y {i:Nat} (hi:i<st.Robots.length) {post:List Int→Prop} (hp:post (slR (st.Robots.getD i default))):W8 st i post:=by
 have hx:=List.getElem?_eq_getElem hi
 rw [Wc hx] at hp
 unfold W8
 exact Jor2 (Ite.f (by simp;omega) ⟨_,Qg rfl hx,Q7m hp⟩)
theorem Q3Y {i:Nat} (hi:i<st.Robots.length) {post:List Int→Prop} (hp:post (slR (st.Robots.getD i default))):KH st i post:=by
 have hx:=List.getElem?_eq_getElem hi
 rw [Wc hx] at hp
 unfold KH
 exact Jor2 (Ite.f (by simp;omega) ⟨_,Qg rfl hx,Q6R hp⟩)
theorem Q3e (hz:Sz st) {i:Int} {post:Int→Prop} (hp:post (carr st i)):GV st i post:=by
 unfold GV Qo
 unfold carr at hp
 refine Ite.mk (fun h=>?_) (fun h=>?_) <;> simp at h
 ·rw [if_pos h] at hp;exact hp
 ·rw [if_neg (by omega)] at hp
  exact Q0z (by have:=hz.rb;unfold maxLen;omega) (fun r:ApiRobot=>r.Load == i) (T:=fun x q=>Gc x i q) (fun x _ q hq=>by unfold Gc;exact hq) hp
theorem Yg (k:Qh st) {i:Int} {post:Int→Prop} (hp:post (carr st i)):QO st i post:=by
 unfold QO
 refine Jn.mk (fun _=>carr st i=-1) (Loop.mk (fun t:Int=>∃n:Nat,t=(n:Int)∧n≤st.Robots.length∧∀(j:Nat) r,j<n→st.Robots[j]?=some r→(r.Load == i)=false) (fun t=>st.Robots.length-t.toNat) ⟨0,rfl,by omega,fun j r h=>by omega⟩ ?_) (fun _ h=>by rw [h] at hp;exact hp)
 rintro t ⟨n,rfl,hn,hI⟩
 refine YS (Ite.mk (fun h=>?_) (fun h=>?_))
 ·simp only [Bool.and_eq_true,decide_eq_true_eq] at h
  have hlt:n<st.Robots.length:=by omega
  have hx:st.Robots[n]?=some (st.Robots[n]'hlt):=List.getElem?_eq_getElem hlt
  generalize st.Robots[n]'hlt=r at hx
  refine⟨r,Qg rfl hx,Ite.mk (fun h1=>?_) (fun h1=>?_)⟩
  ·have:carr st i=n:=by
    unfold carr;rw [if_neg (by omega)]
    rcases Wx (fun r:ApiRobot=>r.Load == i) st.Robots with ⟨j,y,hy,e,hpj,hb⟩ | ⟨e,hb⟩
    ·have h2:¬n<j:=fun h2=>by have:=hb n r h2 hx;rw [h1] at this;cases this
     have h3:¬j<n:=fun h3=>by have:=hI j y h3 hy;rw [hpj] at this;cases this
     rw [e];omega
    ·have:=hb r (List.mem_of_getElem? hx);rw [h1] at this;cases this
   rw [this] at hp;exact hp
  ·rw [XJ hlt k.Robots.1]
   refine⟨⟨n+1,rfl,by omega,fun j y hj hy=>?_⟩,by omega⟩
   by_cases e:j=n
   ·subst e;rw [hx] at hy;cases hy;exact h1
   ·exact hI j y (by omega) hy
 ·show carr st i=-1
  unfold carr
  split
  ·rfl
  ·have:n=st.Robots.length:=by simp at h;omega
   subst this
   rcases Wx (fun r:ApiRobot=>r.Load == i) st.Robots with ⟨j,y,hy,e,hpj,hb⟩ | ⟨e,hb⟩
   ·have:=hI j y (List.getElem?_eq_some_iff.1 hy).1 hy;rw [hpj] at this;cases this
   ·exact e
theorem Q5f (hz:Sz st) {i:Nat} (hi:i<st.Shelves.length) {post:List Int→Prop} (hp:post (slS st i)):W7 st i post:=by
 have hx:=List.getElem?_eq_getElem hi
 unfold slS carB high at hp
 rw [Wn hx] at hp
 unfold W7
 refine Jn.mk' (Ite.f (by simp) (Ite.f (by simp;omega) (Q3e hz ?_)))
 refine Ite.mk (fun h=>?_) (fun h=>?_)
 ·rw [if_pos (by simpa using h)] at hp;exact hp
 ·rw [if_neg (by simpa using h)] at hp;exact⟨_,Qg rfl hx,by unfold KE;exact hp⟩
theorem Q4a (k:Qh st) {i:Nat} (hi:i<st.Shelves.length) {post:List Int→Prop} (hp:post (slS st i)):KF st i post:=by
 have hx:=List.getElem?_eq_getElem hi
 unfold slS carB high at hp
 rw [Wn hx] at hp
 unfold KF
 refine Jn.mk' (Ite.f (by simp) (Ite.f (by simp;omega) (Yg k ?_)))
 refine Ite.mk (fun h=>?_) (fun h=>?_)
 ·rw [if_pos (by simpa using h)] at hp;exact hp
 ·rw [if_neg (by simpa using h)] at hp;exact⟨_,Qg rfl hx,hp⟩
theorem Q4J {i:Nat} (hi:i<st.People.length) {post:List Int→Prop} (hp:post (slP (st.People.getD i 0))):GK st i post:=by
 have hx:=List.getElem?_eq_getElem hi
 rw [Wn hx] at hp
 unfold GK Xt KE
 exact Jor2 (Ite.f (by simp;omega) ⟨_,Qg rfl hx,hp⟩)
theorem Q32 {i:Nat} (hi:i<st.People.length) {post:List Int→Prop} (hp:post (slP (st.People.getD i 0))):Ko st i post:=by
 have hx:=List.getElem?_eq_getElem hi
 rw [Wn hx] at hp
 unfold Ko
 exact Jor2 (Ite.f (by simp;omega) ⟨_,Qg rfl hx,hp⟩)
theorem Q2q (r:ApiRobot):(slR r).length≤2:=by unfold slR;split <;> simp
theorem Q2D (i:Nat):(slS st i).length≤2:=by unfold slS;split <;> simp
theorem WD (hz:Sz st):(allS st).length≤6000:=by
 have h1:=Wq (n:=st.Robots.length) (f:=fun i=>slR (st.Robots.getD i default)) (fun i _=>Q2q _)
 have h2:=Wq (n:=st.Shelves.length) (f:=slS st) (fun i _=>Q2D i)
 have h3:=Wq (n:=st.People.length) (f:=fun i=>slP (st.People.getD i 0)) (fun i _=>by simp [slP])
 have:=hz.sh;have:=hz.rb;have:=hz.pp
 unfold allS;rw [List.length_append,List.length_append];omega
theorem Q3B (hz:Sz st) {post:List Int→Prop} (hp:post (allS st)):WY st post:=by
 have h1:=Wq (n:=st.Robots.length) (f:=fun i=>slR (st.Robots.getD i default)) (fun i _=>Q2q _)
 have h2:=Wq (n:=st.Shelves.length) (f:=slS st) (fun i _=>Q2D i)
 have q1:=hz.sh;have q2:=hz.rb;have q3:=hz.pp
 unfold WY
 refine Q6G q2 (f:=fun i=>slR (st.Robots.getD i default)) (fun i _=>Q2q _) (T:=fun i q=>W8 st i q) (fun i hi q hq=>Q4Y hi hq) (by simp) ?_
 refine Q6G q1 (f:=slS st) (fun i _=>Q2D i) (T:=fun i q=>W7 st i q) (fun i hi q hq=>Q5f hz hi hq) (by rw [List.nil_append];omega) ?_
 refine Q6G q3 (f:=fun i=>slP (st.People.getD i 0)) (fun i _=>by simp [slP]) (T:=fun i q=>GK st i q) (fun i hi q hq=>Q4J hi hq) (by rw [List.length_append];simp only [List.nil_append];omega) ?_
 exact hp
theorem Q3w (hz:Sz st) {post:List Int→Prop} (hp:∀l,List.Perm l (allS st)→post l):WX st post:=by
 unfold WX Qt
 exact Q3B hz ⟨by have:=WD hz;omega,hp _ (List.mergeSort_perm _ _)⟩
def putA:List Int→Int→List Int
 | [],n=>[n]
 | x :: xs,n=>if x>n then n :: x :: xs else x :: putA xs n
theorem Q2O (l:List Int) (n:Int):List.Perm (putA l n) (l++[n]):=by
 induction l with
 | nil=>exact .refl _
 | cons x xs ih=>
  unfold putA
  split
  ·exact List.perm_append_comm (l₁:=[n]) (l₂:=x :: xs)
  ·exact .cons _ ih
theorem Q8b {l:List Int} {n:Int} (h:∀x,x∈l→¬x>n):putA l n=l++[n]:=by
 induction l with
 | nil=>rfl
 | cons x xs ih=>rw [putA,if_neg (h x (by simp)),ih (fun y hy=>h y (by simp [hy]))];rfl
theorem Q99 {l r:List Int} {n x:Int} (h:∀y,y∈l→¬y>n) (hx:x>n):putA (l++x :: r) n=l++n :: x :: r:=by
 induction l with
 | nil=>rw [List.nil_append,putA,if_pos hx];rfl
 | cons y ys ih=>rw [List.cons_append,putA,if_neg (h y (by simp)),ih (fun z hz=>h z (by simp [hz]))];rfl
theorem Q1X {l:List Int} (hl:l.length≤10000) {n:Int} {post:List Int→Prop} (hp:post (putA l n)):Xz l n post:=by
 unfold Xz
 refine Jn.mk (fun t:List Int×Bool=>(t.2=false∧t.1=l∧∀y,y∈l→¬y>n)∨(t.2=true∧t.1=putA l n))
  (ZP (xs:=l) (by unfold maxLen;omega) (fun t:List Int×Bool×Int=>t.2.2) (fun i t=>(t.2.1=false∧t.1=l.take i∧∀y,y∈l.take i→¬y>n)∨(t.2.1=true∧t.1++l.drop i=putA l n∧t.1.length=i+1)) rfl (.inl ⟨rfl,by simp,by simp⟩) (fun i x t hx ht hI=>?_) (fun t h=>?_)) (fun t ht=>?_)
 ·have hlt:i<l.length:=(List.getElem?_eq_some_iff.1 hx).1
  have hdr:l.drop i=x :: l.drop (i+1):=by
   rw [List.drop_eq_getElem_cons hlt];congr 1;exact (List.getElem?_eq_some_iff.1 hx).2
  rcases hI with ⟨h1,h2,h3⟩ | ⟨h1,h2,h3⟩
  ·refine Jn.mk (fun b=>b=decide (x>n)) (Ite.f h1 ⟨x,Qg ht hx,rfl⟩) (fun b hb=>?_)
   subst hb
   refine Jn.mk (fun u:List Int×Bool=>u=if x>n then (t.1++[n],true) else (t.1,t.2.1)) (Ite.mk (fun hc=>?_) (fun hc=>?_)) (fun u hu=>?_)
   ·simp only [decide_eq_true_eq] at hc
    exact⟨by rw [h2];simp;omega,by rw [if_pos hc]⟩
   ·simp only [decide_eq_false_iff_not] at hc;rw [if_neg hc]
   ·refine⟨x,Qg ht hx,?_,?_,?_⟩
    ·subst hu;split <;> simp [h2] <;> omega
    ·show w64 (t.2.2+1)=_;rw [ht]
    ·subst hu
     by_cases hc:x>n
     ·right
      rw [if_pos hc]
      refine⟨rfl,?_,?_⟩
      ·show ((t.1++[n])++[x])++l.drop (i+1)=putA l n
       have e:l=l.take i++x :: l.drop (i+1):=by rw [←hdr,List.take_append_drop]
       have:=Q99 (l:=l.take i) (r:=l.drop (i+1)) h3 hc
       rw [←e] at this
       rw [this,h2];simp
      ·show ((t.1++[n])++[x]).length=i+1+1
       rw [h2];simp;omega
     ·left
      rw [if_neg hc]
      refine⟨h1,?_,?_⟩
      ·show t.1++[x]=_;rw [h2,QY hx]
      ·rw [QY hx];intro y hy
       rcases List.mem_append.1 hy with hy | hy
       ·exact h3 y hy
       ·simp at hy;subst hy;exact hc
  ·refine Jn.mk (fun b=>b=false) (Ite.t h1 rfl) (fun b hb=>?_)
   subst hb
   refine Jn.mk (fun u:List Int×Bool=>u=(t.1,t.2.1)) (Ite.f rfl rfl) (fun u hu=>?_)
   subst hu
   refine⟨x,Qg ht hx,by simp;omega,by show w64 (t.2.2+1)=_;rw [ht],.inr ⟨h1,?_,?_⟩⟩
   ·show (t.1++[x])++l.drop (i+1)=_
    rw [←h2,hdr];simp
   ·show (t.1++[x]).length=_;simp;omega
 ·rcases h with ⟨h1,h2,h3⟩ | ⟨h1,h2,h3⟩
  ·exact .inl ⟨h1,by rw [h2,List.take_length],by rw [List.take_length] at h3;exact h3⟩
  ·exact .inr ⟨h1,by rw [List.drop_length,List.append_nil] at h2;exact h2⟩
 ·rcases ht with ⟨h1,h2,h3⟩ | ⟨h1,h2⟩
  ·refine Jn.mk (fun u=>u=putA l n) (Ite.t (by rw [h1];rfl) ⟨by rw [h2];simp;omega,by rw [h2,Q8b h3]⟩) (fun u hu=>hu▸hp)
  ·refine Jn.mk (fun u=>u=putA l n) (Ite.f (by rw [h1];rfl) h2) (fun u hu=>hu▸hp)
theorem Q0e {l:List Int} (hl:l.length≤10000) {post:List Int→Prop} (hp:∀l',List.Perm l' l→post l'):QL l post:=by
 unfold QL
 refine Jn.mk (fun u=>List.Perm u l) (Wg (xs:=l) (by unfold maxLen;omega) (fun t:List Int×Int=>t.2) (fun i t=>List.Perm t.1 (l.take i)) rfl (.refl _) (fun i x t hx ht hI=>?_) (fun t h=>by rw [List.take_length] at h;exact h)) (fun u hu=>hp u hu)
 have hlt:i<l.length:=(List.getElem?_eq_some_iff.1 hx).1
 refine Q1X (by rw [hI.length_eq,List.length_take];omega) ⟨by show w64 (t.2+1)=_;rw [ht],?_⟩
 show List.Perm (putA t.1 x) _
 rw [QY hx]
 exact (Q2O _ _).trans (hI.append_right _)
theorem Z7 (hz:Sz st) (k:Qh st) {post:List Int→Prop} (hp:∀l,List.Perm l (allS st)→post l):Kd st post:=by
 have h1:=Wq (n:=st.Robots.length) (f:=fun i=>slR (st.Robots.getD i default)) (fun i _=>Q2q _)
 have h2:=Wq (n:=st.Shelves.length) (f:=slS st) (fun i _=>Q2D i)
 have q1:=hz.sh;have q2:=hz.rb;have q3:=hz.pp
 have q4:=WD hz
 unfold Kd
 refine Q6G q2 (f:=fun i=>slR (st.Robots.getD i default)) (fun i _=>Q2q _) (T:=fun i q=>KH st i q) (fun i hi q hq=>Q3Y hi hq) (by simp) ?_
 refine Q6G q1 (f:=slS st) (fun i _=>Q2D i) (T:=fun i q=>KF st i q) (fun i hi q hq=>Q4a k hi hq) (by rw [List.nil_append];omega) ?_
 refine Q6G q3 (f:=fun i=>slP (st.People.getD i 0)) (fun i _=>by simp [slP]) (T:=fun i q=>Ko st i q) (fun i hi q hq=>Q32 hi hq) (by rw [List.length_append];simp only [List.nil_append];omega) ?_
 exact Q0e (l:=allS st) (by omega) hp
theorem Kf {l m:List Int} (h:List.Perm l m) (x:Int):l.contains x=m.contains x:=by
 rw [Bool.eq_iff_iff];simp [h.mem_iff]
end
end Go.Taq
/- The mathematics, part OC: right states (taquinref14.Right, Few); the bounds of the statements about actions. -/
set_option linter.unusedVariables false
set_option linter.unusedSimpArgs false
namespace Go.Taq
open Go
def kx (f:Q6) (c:Int):Int:=if isC f c=true then kd f c else -1
structure RRob (s:ApiSite) (st:ApiState) (i:Nat) (r:ApiRobot):Prop where
 cell:isC s.Floor r.Cell=true
 kind:kd s.Floor r.Cell≠0
 load:-1≤r.Load∧r.Load<st.Shelves.length
 charge:0≤r.Charge∧r.Charge≤1000000
 rest:0≤r.Rest∧r.Rest≤20000
 mute:0≤r.Mute∧r.Mute≤20000
 own:0≤r.Load→carr st r.Load=i∧st.Shelves.getD r.Load.toNat 0=r.Cell
structure RSt (s:ApiSite) (st:ApiState):Prop where
 tick:0≤st.Tick∧st.Tick≤20000
 sl:st.Shelves.length=s.Shelves.length
 rl:st.Robots.length=s.Robots.length
 pl:st.People.length≤20
 rob:∀(i:Nat) r,st.Robots[i]?=some r→RRob s st i r
 shel:∀(i:Nat) c,st.Shelves[i]?=some c→carB st i=false→kx s.Floor c=1∨kx s.Floor c=2
 ppl:∀(i:Nat) c,st.People[i]?=some c→kx s.Floor c=4∨kx s.Floor c=5
 dead:∀(i:Nat) c,st.Dead[i]?=some c→isC s.Floor c=true
 deadA:∀(i:Nat) x y,st.Dead[i]?=some x→st.Dead[i+1]?=some y→x<y
 stuck:∀(i:Nat) x,st.Stuck[i]?=some x→kx s.Floor x.Cell=6∧1≤x.Left∧x.Left≤20000
 stuckA:∀(i:Nat) x y,st.Stuck[i]?=some x→st.Stuck[i+1]?=some y→x.Cell<y.Cell
 clash:(allS st).Nodup
structure Q4W (st:ApiState):Prop where
 sh:st.Shelves.length≤12
 rb:st.Robots.length≤12
 pp:st.People.length≤12
 dd:st.Dead.length≤12
 sk:st.Stuck.length≤12
theorem Q4W.sz {st:ApiState} (h:Q4W st):Sz st:=⟨by have:=h.sh;omega,by have:=h.rb;omega,by have:=h.pp;omega,by have:=h.dd;omega,by have:=h.sk;omega⟩
theorem Q8f {α:Type} {xs:List α} (hm:xs.length≤maxLen) (P:Nat→α→Prop) {T:Int→(Bool→Prop)→Prop} {E:Prop} {post:Bool→Prop}
  (hT:∀(i:Nat) x,xs[i]?=some x→∀{q:Bool→Prop},q true→(P i x→q false)→T (i:Int) q) (hF:post false) (hE:(∀(i:Nat) x,xs[i]?=some x→P i x)→E):
  Jn (fun (J:Unit→Prop)=>Loop (fun (s:Int) Y=>Ite (decide (s<(xs.length:Int))) (T s (fun b=>Ite b (post false) (Y (w64 (s+1))))) (J ())) 0) (fun _=>E):=by
 refine Jn.mk (fun _=>E) (ZP hm (fun t=>t) (fun i _=>∀(j:Nat) x,j<i→xs[j]?=some x→P j x) rfl (fun j x h=>by omega) (fun i x t hx ht hI=>?_) (fun t h=>hE fun j x hj=>h j x (List.getElem?_eq_some_iff.1 hj).1 hj)) (fun _ h=>h)
 rw [ht]
 refine hT i x hx (Ite.t rfl hF) (fun hP=>Ite.f rfl ⟨rfl,fun j y hj hy=>?_⟩)
 by_cases e:j=i
 ·subst e;rw [hx] at hy;cases hy;exact hP
 ·exact hI j y (by omega) hy
theorem Qa9 {α:Type} {xs:List α} (hm:xs.length≤maxLen) (g:α→Int) (P:α→Prop) {R:Int×Int→(Int×Int→Prop)→Prop} {E:Prop}
  (hR:∀(i:Nat) x t,xs[i]?=some x→t.2=(i:Int)→∀{Y:Int×Int→Prop},(t.1<g x→P x→Y (g x,w64 ((i:Int)+1)))→R t Y)
  (hE:(∀(i:Nat) x,xs[i]?=some x→0≤g x∧P x)→(∀(i:Nat) x y,xs[i]?=some x→xs[i+1]?=some y→g x<g y)→E):
  Jn (fun (J:Unit→Prop)=>Loop (fun (s:Int×Int) Y=>Ite (decide (s.2<(xs.length:Int))) (R s Y) (J ())) (-1,0)) (fun _=>E):=by
 refine Jn.mk (fun _=>E) (ZP hm (fun t:Int×Int=>t.2) (fun i t=>-1≤t.1∧(∀y,i=0∨xs[i-1]?=some y→i≠0→t.1=g y)∧(∀(j:Nat) x,j<i→xs[j]?=some x→0≤g x∧P x)∧∀(j:Nat) x y,j+1<i→xs[j]?=some x→xs[j+1]?=some y→g x<g y) rfl ⟨by simp,fun y h h0=>absurd rfl h0,fun j x h=>by omega,fun j x y h=>by omega⟩ (fun i x t hx ht hI=>?_) (fun t h=>hE (fun j x hj=>h.2.2.1 j x (List.getElem?_eq_some_iff.1 hj).1 hj) (fun j x y hj hy=>h.2.2.2 j x y (List.getElem?_eq_some_iff.1 hy).1 hj hy))) (fun _ h=>h)
 obtain⟨h1,h2,h3,h4⟩:=hI
 refine hR i x t hx ht (fun hlt hP=>⟨rfl,by simp only;omega,fun y hy _=>?_,fun j y hj hy=>?_,fun j y z hj hy hz=>?_⟩)
 ·rcases hy with hy | hy
  ·omega
  ·rw [Nat.add_sub_cancel] at hy;rw [hx] at hy;cases hy;rfl
 ·by_cases e:j=i
  ·subst e;rw [hx] at hy;cases hy;exact⟨by omega,hP⟩
  ·exact h3 j y (by omega) hy
 ·by_cases e:j+1=i
  ·subst e;rw [hx] at hz;cases hz
   rw [←h2 y (.inr (by simpa using hy)) (by omega)];exact hlt
  ·exact h4 j y z (by omega) hy hz
section
variable {s:ApiSite} {st:ApiState}
theorem YB {f:Q6} {c:Int} {post:Int→Prop} (hp:post (kx f c)):QM f c post:=by
 unfold QM;unfold kx at hp
 refine Jor2 (Ite.mk (fun h=>?_) (fun h=>?_))
 ·rw [if_neg (by rw [XT];simp at h;omega)] at hp;exact hp
 ·have:isC f c=true:=by rw [XT];simp at h;omega
  rw [if_pos this] at hp;exact⟨_,Wl this,hp⟩
theorem Q5y {post:Bool→Prop} (hF:post false) (hT:Q4W st→post true):XW st post:=by
 unfold XW
 refine Jor5 (Ite.mk (fun _=>hF) (fun h=>?_))
 simp only [Bool.or_eq_false_iff,decide_eq_false_iff_not] at h
 have hw:Q4W st:=⟨by omega,by omega,by omega,by omega,by omega⟩
 have:=hw.sh;have:=hw.pp;have:=hw.dd;have:=hw.rb
 refine⟨by simp;omega,by simp;omega,by simp;omega,?_⟩
 refine Jn.mk (fun l:List Int=>l.length≤48) (Wg (xs:=st.Robots) (by unfold maxLen;omega) (fun t:List Int×Int=>t.2) (fun i t=>t.1.length≤36+i) rfl (by simp;omega) (fun i x t hx ht hI=>?_) (fun t h=>by show t.1.length≤48;omega)) (fun l hl=>?_)
 ·have:=(List.getElem?_eq_some_iff.1 hx).1
  refine⟨by simp;omega,by show w64 (t.2+1)=_;rw [ht],by show (t.1++[x.Cell]).length≤_;simp;omega⟩
 ·exact Q8f (xs:=l) (by unfold maxLen;omega) (fun _ _=>True) (T:=fun i q=>Jn (fun (J42:Bool→Prop)=>∃x43,idx l i=some x43∧Ite (decide (x43<(-1152921504606846976))) (J42 true) (J42 (decide (x43>1152921504606846976)))) q) (fun i x hx q q1 q2=>Jn.ex x (Qg rfl hx) (Jor2 (by
   cases hb:(decide (x<(-1152921504606846976))||decide (x>1152921504606846976))
   ·exact q2 trivial
   ·exact q1))) hF (fun _=>hT hw)
theorem Q4K (k:Qh st) {i:Nat} {r:ApiRobot} (hx:st.Robots[i]?=some r) {post:Bool→Prop} (hF:post false) (hT:RRob s st i r→post true):KG s st i post:=by
 unfold KG
 refine⟨r,Qg rfl hx,YB ?_⟩
 refine Jn.mk (fun b=>b=decide (kx s.Floor r.Cell<0∨kx s.Floor r.Cell=0∨r.Load < -1∨r.Load≥st.Shelves.length∨r.Charge<0∨r.Charge>1000000∨r.Rest<0∨r.Rest>20000∨r.Mute<0∨r.Mute>20000)) ?_ (fun b hb=>?_)
 ·repeat' (first | refine Ite.mk (fun h=>?_) (fun h=>?_))
  all_goals (simp only [decide_eq_true_eq,decide_eq_false_iff_not,beq_iff_eq,beq_eq_false_iff_ne,ne_eq] at *;rw [Bool.eq_iff_iff];simp only [decide_eq_true_eq,true_iff];omega)
 ·subst hb
  refine Ite.mk (fun _=>hF) (fun h=>?_)
  simp only [decide_eq_false_iff_not,not_or] at h
  have hc:isC s.Floor r.Cell=true:=by
   cases e:isC s.Floor r.Cell with
   | true=>rfl
   | false=>have h1:=h.1;rw [kx,if_neg (by rw [e];simp)] at h1;omega
  have hk:kd s.Floor r.Cell≠0:=by have h1:=h.2.1;rw [kx,if_pos hc] at h1;exact h1
  refine Ite.mk (fun h1=>?_) (fun h1=>?_) <;> simp at h1
  ·obtain⟨n,hn⟩:=Int.eq_ofNat_of_zero_le h1
   have hlt:n<st.Shelves.length:=by omega
   have hsx:=List.getElem?_eq_getElem hlt
   refine Jn.mk (fun b=>b=true→RRob s st i r) (Yg k (Ite.mk (fun h2=>⟨_,Qg hn hsx,fun h3=>?_⟩) (fun _ h=>by cases h))) (fun b hb=>by cases b;exact hF;exact hT (hb rfl))
   simp at h2 h3
   exact⟨hc,hk,by omega,by omega,by omega,by omega,fun _=>⟨h2,by rw [hn];show st.Shelves.getD n 0=_;rw [Wn hsx,h3]⟩⟩
  ·exact hT ⟨hc,hk,by omega,by omega,by omega,by omega,fun h2=>by omega⟩
theorem Q4o {l:List Int} (hl:l.length≤10000) {post:Int×Bool→Prop} (hp:∀b f,(f=false→l.Nodup)→post (b,f)):QR l post:=by
 unfold QR
 refine Jn.mk (fun t:Bool×Int=>t.1=false→l.Nodup) (ZP (xs:=l) (by unfold maxLen;omega) (fun t:Bool×Int×Int=>t.2.2) (fun i t=>t.1=false→(l.take i).Nodup) rfl (fun _=>by simp) (fun i x t hx ht hI=>?_) (fun t h=>by rw [List.take_length] at h;exact h)) (fun t h=>hp _ _ h)
 have hlt:i<l.length:=(List.getElem?_eq_some_iff.1 hx).1
 refine Jn.mk (fun u:Bool×Int=>u.1=false→(l.take (i+1)).Nodup) ?_ (fun u hu=>⟨by show w64 (t.2.2+1)=_;rw [ht],hu⟩)
 refine Jn.mk (fun u:Bool×Int=>u.1=false→(l.take (i+1)).Nodup) ?_ (fun u hu=>hu)
 rw [ht]
 refine Q21 i (t0:=(t.1,t.2.1,0)) (fun t:Bool×Int×Int=>t.2.2) (fun m u=>u.1=false→(l.take i).Nodup∧∀(j:Nat) y,j<m→l[j]?=some y→y≠x) (by unfold maxLen;omega) rfl (fun h=>⟨hI h,fun j y hj=>by omega⟩) (fun m u hm hu hJ=>?_) (fun u h=>?_)
 ·have hy:=List.getElem?_eq_getElem (Nat.lt_trans hm hlt)
  generalize l[m]'_=y at hy
  refine Jn.mk (fun b=>b=false→x=y→u.1=true) ⟨x,Qg rfl hx,y,Qg hu hy,Ite.mk (fun h1=>Ite.mk (fun h2 _ _=>h2) (fun _ h=>by cases h)) (fun h1 _ h2=>by subst h2;simp at h1)⟩ (fun b hb=>?_)
  refine Jn.mk (fun v:Bool×Int=>v.1=false→u.1=false∧x≠y) (Ite.mk (fun h1=>⟨x,Qg rfl hx,fun h=>by cases h⟩) (fun h1 h2=>⟨h2,fun e=>by rw [hb h1 e] at h2;cases h2⟩)) (fun v hv=>⟨by show w64 (u.2.2+1)=_;rw [hu],fun h2=>?_⟩)
  obtain⟨e1,e2⟩:=hv h2
  obtain⟨g1,g2⟩:=hJ e1
  refine⟨g1,fun j z hj hz=>?_⟩
  by_cases e:j=m
  ·subst e;rw [hy] at hz;cases hz;exact fun h=>e2 h.symm
  ·exact g2 j z (by omega) hz
 ·intro hu
  obtain⟨g1,g2⟩:=h hu
  rw [QY hx,List.nodup_append]
  refine⟨g1,by simp,fun a ha b hb=>?_⟩
  simp at hb;subst hb
  obtain⟨j,hj⟩:=List.getElem?_of_mem ha
  have hjl:=(List.getElem?_eq_some_iff.1 hj).1
  rw [List.getElem?_take_of_lt (by rw [List.length_take] at hjl;omega)] at hj
  exact g2 j a (by rw [List.length_take] at hjl;omega) hj
theorem Q4r (k:Qh st) (hz:Sz st) {post:Bool→Prop} (hF:post false) (hT:RSt s st→post true):Xe s st post:=by
 unfold Xe
 refine Jor5 (Ite.mk (fun _=>hF) (fun h=>?_))
 simp only [Bool.or_eq_false_iff,decide_eq_false_iff_not,bne_eq_false_iff_eq] at h
 have q1:=hz.sh;have q2:=hz.rb;have q3:=hz.pp;have q4:=hz.dd;have q5:=hz.sk
 refine Q8f (xs:=st.Robots) (by unfold maxLen;omega) (fun i r=>RRob s st i r) (T:=fun i q=>KG s st i (fun x=>q (!x))) (fun i x hx q qt qf=>Q4K k hx qt qf) hF (fun h1=>?_)
 refine Q8f (xs:=st.Shelves) (by unfold maxLen;omega) (fun i c=>carB st i=false→kx s.Floor c=1∨kx s.Floor c=2) (T:=fun i q=>∃x40,idx st.Shelves i=some x40∧QM s.Floor x40 (fun x41=>Jn (fun (J43:Bool→Prop)=>QO st i (fun x44=>Ite (decide (x44<0)) (Ite (x41 != 1) (J43 (x41 != 2)) (J43 false)) (J43 false))) q)) (fun i x hx q qt qf=>⟨x,Qg rfl hx,YB (Jn.mk' (Yg k ?_))⟩) hF (fun h2=>?_)
 ·refine Ite.mk (fun g1=>Ite.mk (fun g2=>?_) (fun g2=>?_)) (fun g1=>?_)
  ·cases g3:(kx s.Floor x != 2)
   ·exact qf fun _=>.inr (by simpa using g3)
   ·exact qt
  ·exact qf fun _=>.inl (by simpa using g2)
  ·refine qf fun g2=>?_
   unfold carB at g2;simp at g1 g2;omega
 refine Q8f (xs:=st.People) (by unfold maxLen;omega) (fun i c=>kx s.Floor c=4∨kx s.Floor c=5) (T:=fun i q=>∃x63,idx st.People i=some x63∧QM s.Floor x63 (fun x64=>Jn (fun (J66:Bool→Prop)=>Ite (x64 != 4) (J66 (x64 != 5)) (J66 false)) q)) (fun i x hx q qt qf=>⟨x,Qg rfl hx,YB (Jn.mk' ?_)⟩) hF (fun h3=>?_)
 ·refine Ite.mk (fun g2=>?_) (fun g2=>?_)
  ·cases g3:(kx s.Floor x != 5)
   ·exact qf (.inr (by simpa using g3))
   ·exact qt
  ·exact qf (.inl (by simpa using g2))
 refine Qa9 (xs:=st.Dead) (by unfold maxLen;omega) (fun x=>x) (fun x=>x<s.Floor.Kind.length) (fun i x t hx ht Y hY=>Jn.mk' ⟨x,Qg ht hx,?_⟩) (fun h4 h5=>?_)
 ·refine Ite.mk (fun _=>Ite.t rfl hF) (fun g1=>?_)
  cases g2:decide (x≥(s.Floor.Kind.length:Int))
  ·refine Ite.f rfl ⟨x,Qg ht hx,?_⟩
   simp at g1 g2
   rw [ht];exact hY (by omega) (by omega)
  ·exact Ite.t rfl hF
 refine Qa9 (xs:=st.Stuck) (by unfold maxLen;omega) (fun x:Q0=>x.Cell) (fun x=>kx s.Floor x.Cell=6∧1≤x.Left∧x.Left≤20000) (fun i x t hx ht Y hY=>⟨x,Qg ht hx,Jn.mk (fun b=>b=false→t.1<x.Cell∧kx s.Floor x.Cell=6∧1≤x.Left∧x.Left≤20000) ?_ (fun b hb=>Ite.mk (fun _=>hF) (fun g=>by rw [ht];exact hY (hb g).1 (hb g).2))⟩) (fun h6 h7=>?_)
 ·refine Ite.mk (fun _ h=>by cases h) (fun g1=>YB (Ite.mk (fun _ h=>by cases h) (fun g2=>Ite.mk (fun _ h=>by cases h) (fun g3 g4=>?_))))
  simp at g1 g2 g3 g4
  exact⟨by omega,g2,by omega,by omega⟩
 refine Z7 hz k (fun l hl=>Q4o (by rw [hl.length_eq];have:=WD hz;omega) (fun b f hf=>?_))
 cases f with
 | true=>exact hF
 | false=>
  exact hT ⟨by omega,by omega,by omega,by omega,h1,h2,h3,fun i c hc=>XT.2 ⟨(h4 i c hc).1,(h4 i c hc).2⟩,h5,fun i x hx=>(h6 i x hx).2,h7,hl.nodup_iff.1 (hf rfl)⟩
structure Fair (s:ApiSite) (st:ApiState):Prop where
 r:ZH s
 few:FewS s 60 30
 f12:Q4W st
 rst:RSt s st
end
end Go.Taq
/- The mathematics, part OD: which actions are legal, and what they do. -/
set_option linter.unusedVariables false
set_option linter.unusedSimpArgs false
namespace Go.Taq
open Go
structure LS (s:ApiSite) (st:ApiState):Prop where
 fl:RF s.Floor
 rs:RS s
 sz:Sz st
 cell:∀c,c∈st.Shelves→isC s.Floor c=true
 rob:∀(i:Nat) r,st.Robots[i]?=some r→isC s.Floor r.Cell=true∧-1≤r.Load∧r.Load<st.Shelves.length
def mvB (a:Int):Bool:=decide (1≤a)&&decide (a<7)
def movS (s:ApiSite) (st:ApiState) (r:ApiRobot) (d:Int):Int:=
 if (!(nx s.Floor r.Cell d).2||st.Dead.contains (nx s.Floor r.Cell d).1)=true then 14
 else if ((d == 4||d == 5)&&(st.Stuck.any fun x=>x.Cell == r.Cell||x.Cell == (nx s.Floor r.Cell d).1))=true then 14
 else if opn s (nx s.Floor r.Cell d).1 st.Tick=false then 18
 else if ((allS st).contains (low (nx s.Floor r.Cell d).1)||(decide (r.Load≥0)&&(allS st).contains (high (nx s.Floor r.Cell d).1)))=true then 15 else 0
def legR (s:ApiSite) (st:ApiState) (r:ApiRobot) (a:Int):Int:=
 if a<0∨a≥10 then 1 else if a=0 then 0
 else if (r.Dead||decide (r.Mute>0))=true then 9
 else if (mvB a&&decide (r.Rest>0))=true then 8
 else if (aft st.Tick r.Charge a (decide (r.Load≥0))).2=16 then 16
 else if mvB a=true then movS s st r (a-1)
 else if a=7 then (if r.Load≥0 then 7 else if atS st r.Cell<0 then 4 else 0)
 else if a=8 then (if r.Load<0 then 7 else Q1S s st r.Load r.Cell)
 else if kd s.Floor r.Cell=3 then 0 else 13
def legS (s:ApiSite) (st:ApiState) (i a:Int):Int:=if i<0∨i≥st.Robots.length then 4 else legR s st (st.Robots.getD i.toNat default) a
def chg (st:ApiState) (r:ApiRobot) (a:Int):Int:=if (aft st.Tick r.Charge a (decide (r.Load≥0))).2=0 then (aft st.Tick r.Charge a (decide (r.Load≥0))).1 else 0
def lod (st:ApiState) (r:ApiRobot) (a:Int):Int:=if a=7 then atS st r.Cell else if a=8 then -1 else r.Load
def nwR (s:ApiSite) (st:ApiState) (r:ApiRobot) (a:Int):ApiRobot:=
 if (mvB a&&(nx s.Floor r.Cell (a-1)).2)=true then {r with Cell:=(nx s.Floor r.Cell (a-1)).1,Load:=lod st r a,Charge:=chg st r a,Rest:=spd s (nx s.Floor r.Cell (a-1)).1-1}
 else {r with Load:=lod st r a,Charge:=chg st r a}
def nwS (s:ApiSite) (st:ApiState) (r:ApiRobot) (a:Int):List Int:=
 if (mvB a&&(nx s.Floor r.Cell (a-1)).2)=true∧0≤lod st r a then st.Shelves.set (lod st r a).toNat (nx s.Floor r.Cell (a-1)).1 else st.Shelves
def doR (s:ApiSite) (st:ApiState) (n:Nat) (r:ApiRobot) (a:Int):ApiState:=
 if r.Dead=true then st else {st with Shelves:=nwS s st r a,Robots:=st.Robots.set n (nwR s st r a)}
section
variable {s:ApiSite} {st:ApiState}
theorem G8 {a:Int}:mvB a=true↔1≤a∧a<7:=by simp [mvB]
theorem ZQ {a:Int} (h0:0≤a) (h9:a<10) {post:Int×Bool→Prop} (hp:post (a-1,mvB a)):XS a post:=by
 unfold XS
 rw [Qy (by omega) (by omega)]
 refine YS ?_
 have:(decide (a-1≥0)&&decide (a-1<6))=mvB a:=by rw [Bool.eq_iff_iff,G8];simp;omega
 rw [this];exact hp
theorem Q8G {xs:List Q0} (hl:xs.length≤maxLen) {r:ApiRobot} {c:Int} {post:Bool→Prop} (hp:post (xs.any fun x=>x.Cell == r.Cell||x.Cell == c)):Qf xs r c post:=by
 unfold Qf Qu
 exact Q0z hl (fun x:Q0=>x.Cell == r.Cell||x.Cell == c) (T:=fun x q=>WH x r c q) (fun x _ q hq=>by unfold WH;exact Jor2 hq) (post:=fun n=>post (decide (n≥0))) (by rw [Q1i];exact hp)
theorem Q18 {c:Int} (hz:Sz st) {post:Bool→Prop} (hp:post (st.Stuck.any fun x=>x.Cell == c)):KB st c post:=by
 unfold KB
 exact Q9b (by have:=hz.sk;unfold maxLen;omega) hp
theorem Q6E (ks:Qz s) (h:LS s st) {r:ApiRobot} {d:Int} {post:Int→Prop} (hp:post (movS s st r d)):YT s st r d post:=by
 have hd:st.Dead.length≤maxLen:=by have:=h.sz.dd;unfold maxLen;omega
 have hk:st.Stuck.length≤maxLen:=by have:=h.sz.sk;unfold maxLen;omega
 unfold YT Xt KE
 unfold movS at hp
 refine ZO h.fl ?_
 generalize nx s.Floor r.Cell d=x at hp
 refine Jn.mk (fun b=>b=(!x.2||st.Dead.contains x.1)) (Ite.mk (fun h1=>XN hd (by rw [h1];rfl)) (fun h1=>by rw [h1];rfl)) (fun b hb=>?_)
 subst hb
 refine Ite.mk (fun h1=>?_) (fun h1=>?_)
 ·rw [if_pos h1] at hp;exact hp
 rw [if_neg (by rw [h1];simp)] at hp
 refine Jor2 (Jn.mk (fun _=>((d == 4||d == 5)&&(st.Stuck.any fun y=>y.Cell == r.Cell||y.Cell == x.1))=false) (Ite.mk (fun h2=>Q8G hk (Ite.mk (fun h3=>?_) (fun h3=>?_))) (fun h2=>?_)) (fun _ h2=>?_))
 ·rw [if_pos (by rw [h2,h3];rfl)] at hp;exact hp
 ·rw [h3];simp
 ·rw [h2];simp
 rw [if_neg (by rw [h2];simp)] at hp
 refine Q4T ks h.rs (Ite.mk (fun h3=>?_) (fun h3=>Q3w h.sz (fun l hl=>?_)))
 ·rw [if_pos (by simpa using h3)] at hp;exact hp
 rw [if_neg (by simpa using h3)] at hp
 have hlm:l.length≤maxLen:=by rw [hl.length_eq];have:=WD h.sz;unfold maxLen;omega
 refine Jn.mk (fun b=>b=((allS st).contains (low x.1)||(decide (r.Load≥0)&&(allS st).contains (high x.1)))) (XN hlm (Ite.mk (fun h4=>?_) (fun h4=>Ite.mk (fun h5=>XN hlm ?_) (fun h5=>?_)))) (fun b hb=>?_)
 ·rw [Kf hl] at h4;unfold low;rw [h4];rfl
 ·rw [Kf hl] at h4 ⊢;unfold low high;rw [h4,h5];rfl
 ·rw [Kf hl] at h4;unfold low;rw [h4,h5];rfl
 ·subst hb
  refine Ite.mk (fun h4=>?_) (fun h4=>?_)
  ·rw [if_pos h4] at hp;exact hp
  ·rw [if_neg (by rw [h4];simp)] at hp;exact hp
theorem Q2C (ks:Qz s) (k:Qh st) (h:LS s st) {i a:Int} {post:Int→Prop} (hp:post (legS s st i a)):G7 s st i a post:=by
 have hsl:st.Shelves.length≤1000000:=by have:=h.sz.sh;omega
 unfold G7
 unfold legS legR at hp
 refine Jor2 (Ite.mk (fun h1=>?_) (fun h1=>?_)) <;> simp at h1
 ·rw [if_pos (by omega)] at hp;exact hp
 rw [if_neg (by omega)] at hp
 refine Jor2 (Ite.mk (fun h2=>?_) (fun h2=>?_)) <;> simp at h2
 ·rw [if_pos (by omega)] at hp;exact hp
 rw [if_neg (by omega)] at hp
 refine Ite.mk (fun h3=>?_) (fun h3=>?_) <;> simp at h3
 ·rw [if_pos h3] at hp;exact hp
 rw [if_neg h3] at hp
 obtain⟨n,hn⟩:=Int.eq_ofNat_of_zero_le h1.1
 have hlt:n<st.Robots.length:=by omega
 have hx:=List.getElem?_eq_getElem hlt
 have hg:st.Robots.getD i.toNat default=st.Robots[n]:=by rw [hn];exact Wc hx
 rw [hg] at hp
 generalize st.Robots[n]=r at hp hx
 obtain⟨hc,hlo⟩:=h.rob n r hx
 refine⟨r,Qg hn hx,ZQ h2.1 h2.2 (Jor2 (Ite.mk (fun h4=>?_) (fun h4=>?_)))⟩
 ·rw [if_pos h4] at hp;exact hp
 rw [if_neg (by rw [h4];simp)] at hp
 refine YS (Ite.mk (fun h5=>?_) (fun h5=>?_))
 ·rw [if_pos h5] at hp;exact hp
 rw [if_neg (by rw [h5];simp)] at hp
 refine ZW (Ite.mk (fun h6=>?_) (fun h6=>?_))
 ·simp at h6;rw [if_pos h6] at hp;rw [h6];exact hp
 simp at h6;rw [if_neg h6] at hp
 refine Ite.mk (fun h7=>?_) (fun h7=>?_)
 ·simp only at h7;rw [if_pos h7] at hp;exact Q6E ks h hp
 simp only at h7;rw [if_neg (by rw [h7];simp)] at hp
 refine Ite.mk (fun h8=>?_) (fun h8=>?_) <;> simp at h8
 ·rw [if_pos h8] at hp
  unfold ZZ
  refine Ite.mk (fun h9=>?_) (fun h9=>Q3o k hsl ?_) <;> simp at h9
  ·rw [if_pos h9] at hp;exact hp
  ·rw [if_neg (by omega)] at hp
   refine Ite.mk (fun g=>?_) (fun g=>?_) <;> simp at g
   ·rw [if_pos g] at hp;exact hp
   ·rw [if_neg (by omega)] at hp;exact hp
 rw [if_neg h8] at hp
 refine YS (Ite.mk (fun h9=>?_) (fun h9=>Ite.mk (fun g=>?_) (fun g=>?_)))
 ·simp at h9;rw [if_pos h9.1,if_pos h9.2] at hp;exact hp
 ·simp at g;rw [g] at h9;simp at h9
  rw [if_pos g,if_neg (by omega)] at hp;exact Q5s ks k h.fl hsl hp
 ·simp at g;rw [if_neg g] at hp
  refine⟨_,Wl hc,Ite.mk (fun g1=>?_) (fun g1=>?_)⟩
  ·rw [if_neg (by simpa using g1)] at hp;exact hp
  ·rw [if_pos (by simpa using g1)] at hp;exact hp
theorem Q0p {i a:Int} {n:Nat} {r:ApiRobot} (hn:i=n) (hx:st.Robots[n]?=some r) (hf:RF s.Floor) (ha:mvB a=true) {post:Int×Bool→Prop} (hp:post (nx s.Floor r.Cell (a-1))):K3 s st i a post:=by
 have hm:=G8.1 ha
 have hlt:=(List.getElem?_eq_some_iff.1 hx).1
 unfold K3 Kj
 refine Jn.mk' (Ite.f (by simp;omega) (Ite.f (by simp;omega) (YS (Ite.f (by simp;omega) ⟨r,Qg hn hx,?_⟩))))
 rw [Qy (by omega) (by omega)]
 exact Q23 hf (by omega) hp
theorem Q55 (ks:Qz s) (hr:ZH s) (k:Qh st) (h:LS s st) {i a:Int} {n:Nat} {r:ApiRobot} (hn:i=n) (hx:st.Robots[n]?=some r) (ha:mvB a=true) {post:Int→Prop} (hp:post (movS s st r (a-1))):XC s st i a post:=by
 have hd:st.Dead.length≤maxLen:=by have:=h.sz.dd;unfold maxLen;omega
 have hm:=G8.1 ha
 unfold XC
 unfold movS at hp
 refine⟨r,Qg hn hx,Q0p hn hx h.fl ha ?_⟩
 generalize nx s.Floor r.Cell (a-1)=x at hp
 refine Jn.mk (fun b=>b=(!x.2||st.Dead.contains x.1)) (Ite.mk (fun h1=>GG hd (by rw [h1];rfl)) (fun h1=>by rw [h1];rfl)) (fun b hb=>?_)
 subst hb
 refine Ite.mk (fun h1=>?_) (fun h1=>?_)
 ·rw [if_pos h1] at hp;exact hp
 rw [if_neg (by rw [h1];simp)] at hp
 have e5:decide (a≥5)=(a-1 == 4||a-1 == 5):=by rw [Bool.eq_iff_iff];simp;omega
 refine Jn.mk (fun b=>b=((a-1 == 4||a-1 == 5)&&(st.Stuck.any fun y=>y.Cell == r.Cell||y.Cell == x.1))) (Ite.mk (fun h2=>Q18 h.sz (Ite.mk (fun h3=>?_) (fun h3=>Q18 h.sz ?_))) (fun h2=>?_)) (fun b hb=>?_)
 ·rw [←e5,h2,Q8o,h3];rfl
 ·show _=_;rw [←e5,h2,Q8o,h3];rfl
 ·rw [←e5,h2];rfl
 subst hb
 refine Ite.mk (fun h2=>?_) (fun h2=>?_)
 ·rw [if_pos h2] at hp;exact hp
 rw [if_neg (by rw [h2];simp)] at hp
 refine Q5p ks hr (Ite.mk (fun h3=>?_) (fun h3=>Z7 h.sz k (fun l hl=>?_)))
 ·rw [if_pos (by simpa using h3)] at hp;exact hp
 rw [if_neg (by simpa using h3)] at hp
 have hlm:l.length≤maxLen:=by rw [hl.length_eq];have:=WD h.sz;unfold maxLen;omega
 refine Jn.mk (fun b=>b=((allS st).contains (low x.1)||(decide (r.Load≥0)&&(allS st).contains (high x.1)))) (GG hlm (Ite.mk (fun h4=>?_) (fun h4=>Ite.mk (fun h5=>GG hlm ?_) (fun h5=>?_)))) (fun b hb=>?_)
 ·rw [Kf hl] at h4;unfold low;rw [h4];rfl
 ·rw [Kf hl] at h4 ⊢;unfold low high;rw [h4,h5];rfl
 ·rw [Kf hl] at h4;unfold low;rw [h4,h5];rfl
 ·subst hb
  refine Ite.mk (fun h4=>?_) (fun h4=>?_)
  ·rw [if_pos h4] at hp;exact hp
  ·rw [if_neg (by rw [h4];simp)] at hp;exact hp
theorem Q19 (ks:Qz s) (hr:ZH s) (k:Qh st) (h:LS s st) {i a:Int} {post:Int→Prop} (hp:post (legS s st i a)):QQ s st i a post:=by
 have hsl:st.Shelves.length≤1000000:=by have:=h.sz.sh;omega
 unfold QQ
 unfold legS legR at hp
 refine Jor2 (Ite.mk (fun h1=>?_) (fun h1=>?_)) <;> simp at h1
 ·rw [if_pos (by omega)] at hp;exact hp
 rw [if_neg (by omega)] at hp
 refine Jor2 (Ite.mk (fun h2=>?_) (fun h2=>?_)) <;> simp at h2
 ·rw [if_pos (by omega)] at hp;exact hp
 rw [if_neg (by omega)] at hp
 refine Ite.mk (fun h3=>?_) (fun h3=>?_) <;> simp at h3
 ·rw [if_pos h3] at hp;exact hp
 rw [if_neg h3] at hp
 obtain⟨n,hn⟩:=Int.eq_ofNat_of_zero_le h1.1
 have hlt:n<st.Robots.length:=by omega
 have hx:=List.getElem?_eq_getElem hlt
 have hg:st.Robots.getD i.toNat default=st.Robots[n]:=by rw [hn];exact Wc hx
 rw [hg] at hp
 generalize st.Robots[n]=r at hp hx
 obtain⟨hc,hlo⟩:=h.rob n r hx
 refine⟨r,Qg hn hx,Jor2 (Ite.mk (fun h4=>?_) (fun h4=>?_))⟩
 ·rw [if_pos h4] at hp;exact hp
 rw [if_neg (by rw [h4];simp)] at hp
 refine Jn.mk (fun b=>b=(mvB a&&decide (r.Rest>0))) ?_ (fun b hb=>?_)
 ·unfold Kj
  refine YS (Ite.mk (fun h5=>?_) (fun h5=>?_))
  ·have:mvB a=true:=h5
   rw [this];rfl
  ·have:mvB a=false:=h5
   rw [this];rfl
 subst hb
 refine Ite.mk (fun h5=>?_) (fun h5=>?_)
 ·rw [if_pos h5] at hp;exact hp
 rw [if_neg (by rw [h5];simp)] at hp
 refine Q1k (Ite.mk (fun h6=>?_) (fun h6=>?_))
 ·simp at h6;rw [if_pos h6] at hp;exact hp
 simp at h6;rw [if_neg h6] at hp
 refine Ite.mk (fun h8=>?_) (fun h8=>?_) <;> simp at h8
 ·rw [if_neg (by rw [G8];omega),if_pos h8] at hp
  refine Ite.mk (fun h9=>?_) (fun h9=>Q3r ks k h.fl hsl h.cell ?_) <;> simp at h9
  ·rw [if_pos h9] at hp;exact hp
  ·rw [if_neg (by omega)] at hp
   refine Ite.mk (fun g=>?_) (fun g=>?_) <;> simp at g
   ·rw [if_pos g] at hp;exact hp
   ·rw [if_neg (by omega)] at hp;exact hp
 refine Ite.mk (fun h9=>?_) (fun h9=>?_) <;> simp at h9
 ·rw [if_neg (by rw [G8];omega),if_neg h8,if_pos h9] at hp
  refine Ite.mk (fun g=>?_) (fun g=>?_) <;> simp at g
  ·rw [if_pos g] at hp;exact hp
  ·rw [if_neg (by omega)] at hp;exact Q5q ks k h.fl hsl hp
 refine Ite.mk (fun g=>?_) (fun g=>?_) <;> simp at g
 ·rw [if_neg (by rw [G8];omega),if_neg h8,if_neg h9] at hp
  refine⟨_,Wl hc,Ite.mk (fun g1=>?_) (fun g1=>?_)⟩
  ·rw [if_neg (by simpa using g1)] at hp;exact hp
  ·rw [if_pos (by simpa using g1)] at hp;exact hp
 ·have hm:mvB a=true:=G8.2 (by omega)
  rw [if_pos hm] at hp
  exact Q55 ks hr k h hn hx hm hp
end
end Go.Taq
