/- The mathematics, several parts in one text. -/
import Derived.Test.YtdcfcldpjfepiaaGreatNV
import Derived.Test.YtdcfcldpjfepiaaGreatQA
/- The mathematics, part NJ: the reference of the rules; RulesTell. -/
set_option linter.unusedVariables false
set_option linter.unusedSimpArgs false
namespace Go.Taq
open Go
section
end
theorem Q0P {a b:List Int} (hm:a.length≤maxLen) {post:Bool→Prop} (hp:a=b→post true) (hab:a=b):K8 a b post:=by
 subst hab
 unfold K8
 refine Ite.f (by simp) ?_
 refine Jn.mk (fun _=>True) (Kq hm (fun t=>t) (fun _ _=>True) rfl trivial (fun n x t hx ht _=>⟨x,by rw [ht];exact QG rfl hx,Ite.f (by simp) ⟨by rw [ht],trivial⟩⟩) (fun _ _=>trivial)) (fun _ _=>hp rfl)
end Go.Taq
/- The mathematics, part NW: a step in the floor's reference. -/
set_option linter.unusedVariables false
namespace Go.Taq
open Go
end Go.Taq
/- The mathematics, part OA: batteries, and the slots of a state. -/
set_option linter.unusedVariables false
set_option linter.unusedSimpArgs false
namespace Go.Taq
open Go
def bas (a:Int) (l:Bool):Int:=
 if a=0∨a=8 then 1 else if a=7 then 3 else if a<1∨a≥7 then 0 else (if a=5 then 5 else if a=6 then 1 else 2)+if l=true then 2 else 0
def agT (t:Int):Int:=if t<0 then 0 else if t>20000 then 20 else t / 1000
def cst (t a:Int) (l:Bool):Int:=(bas a l*(10+agT t)+9) / 10
def aft (t ch a:Int) (l:Bool):Int×Int:=
 if ch<0∨ch>1000000∨a<0∨a≥10 then (ch,1) else if a=9 then (if ch>999980 then 1000000 else ch+20,0) else if ch<cst t a l then (ch,16) else (ch-cst t a l,0)
theorem Q4Y (a:Int) (l:Bool):bas a l=0∨bas a l=1∨bas a l=2∨bas a l=3∨bas a l=4∨bas a l=5∨bas a l=7:=by
 unfold bas
 cases l <;> simp <;> split <;> (try split) <;> (try split) <;> (try split) <;> (try split) <;> omega
theorem Q39 (t:Int):0≤agT t∧agT t≤20:=by unfold agT;split <;> (try split) <;> omega
theorem Q3w (a t:Int) (l:Bool):0≤bas a l*(10+agT t)∧bas a l*(10+agT t)≤210:=by
 have h:=Q39 t
 rcases Q4Y a l with e | e | e | e | e | e | e <;> rw [e] <;> omega
theorem Q34 (t a:Int) (l:Bool):0≤cst t a l∧cst t a l≤21:=by have:=Q3w a t l;unfold cst;omega
theorem act10 {a:Int} (h0:0≤a) (h9:a<10):a=0∨a=1∨a=2∨a=3∨a=4∨a=5∨a=6∨a=7∨a=8∨a=9:=by omega
theorem Q06 {a:Int} (h0:0≤a) (h9:a<10) {l:Bool} {post:Int→Prop} (hp:post (bas a l)):Xu a l post:=by
 unfold Xu
 rcases act10 h0 h9 with rfl | rfl | rfl | rfl | rfl | rfl | rfl | rfl | rfl | rfl <;> cases l <;> repeat (first | exact hp | refine Jn.mk' ?_ | refine Ite.t (by decide) ?_ | refine Ite.f (by decide) ?_)
theorem Q5z (t:Int):w64 ((imin (imax t 0) 20000).tdiv 1000)=agT t:=by
 have e:(imin (imax t 0) 20000).tdiv 1000=agT t:=by
  unfold imin imax agT
  rw [Int.tdiv_eq_ediv_of_nonneg (by repeat' split <;> omega)]
  repeat' split <;> omega
 rw [e];have:=Q39 t;exact QH (by omega) (by omega)
theorem GZ {t a:Int} (h0:0≤a) (h9:a<10) {l:Bool} {post:Int→Prop} (hp:post (cst t a l)):KE t a l post:=by
 unfold KE
 refine Q06 h0 h9 ?_
 have hb:=Q3w a t l
 have ha:=Q39 t
 rw [Q5z,QH (x:=10+agT t) (by omega) (by omega),QH (x:=bas a l*(10+agT t)) (by omega) (by omega),QH (x:=bas a l*(10+agT t)+9) (by omega) (by omega),Int.tdiv_eq_ediv_of_nonneg (by omega)]
 have hc:=Q34 t a l
 unfold cst at hc hp
 rw [QH (by omega) (by omega)]
 exact hp
theorem ZJ {ch c:Int} (hc:0≤c∧c≤100) {post:Int×Int→Prop} (hp:post (if ch<0∨ch>1000000 then (ch,1) else if ch<c then (ch,16) else (ch-c,0))):Xi ch c post:=by
 unfold Xi K9
 refine Jn.mk (fun b=>b=decide (ch<0∨ch>1000000)) (Zx (Ite.mk (fun h=>?_) (fun h=>?_))) (fun b hb=>?_)
 ·simp at h;rw [decide_eq_false (by omega:¬c<0)];simp;omega
 ·simp at h;simp;omega
 ·subst hb
  refine Ite.mk (fun h=>?_) (fun h=>Ite.mk (fun h1=>?_) (fun h1=>?_))
  ·rw [if_pos (by simpa using h)] at hp;exact hp
  ·rw [if_neg (by simpa using h),if_pos (by simpa using h1)] at hp;exact hp
  ·rw [if_neg (by simpa using h),if_neg (by simpa using h1)] at hp
   simp at h h1
   rw [QH (by omega) (by omega)];exact hp
theorem WO {t ch a:Int} {l:Bool} {post:Int×Int→Prop} (hp:post (aft t ch a l)):KU t ch a l post:=by
 unfold KU K9
 refine Jn.mk (fun b=>b=decide (ch<0∨ch>1000000∨a<0∨a≥10)) (Zx (Ite.mk (fun h=>Ite.mk (fun h1=>?_) (fun h1=>?_)) (fun h=>?_))) (fun b hb=>?_)
 ·simp at h h1;simp;omega
 ·simp at h h1;show decide (a≥10)=decide (ch<0∨ch>1000000∨a<0∨a≥10);rw [Bool.eq_iff_iff];simp;omega
 ·simp at h;simp;omega
 ·subst hb
  unfold aft at hp
  refine Ite.mk (fun h=>?_) (fun h=>Ite.mk (fun h1=>?_) (fun h1=>?_))
  ·rw [if_pos (by simpa using h)] at hp;exact hp
  ·simp at h1;rw [if_neg (by simpa using h),if_pos h1] at hp
   simp at h
   rw [QH (x:=ch+20) (by omega) (by omega)]
   have e:imin (ch+20) 1000000=if ch>999980 then 1000000 else ch+20:=by unfold imin;repeat' split <;> omega
   rw [e];exact hp
  ·simp at h1;rw [if_neg (by simpa using h),if_neg h1] at hp
   simp at h
   refine GZ (by omega) (by omega) (ZJ (by have:=Q34 t a l;omega) ?_)
   rw [if_neg (by omega)]
   split
   ·rw [if_pos (by assumption)] at hp;exact hp
   ·rw [if_neg (by assumption)] at hp;exact hp
end Go.Taq
/- The mathematics, part OB: the slots of a state, in both; who carries. -/
set_option linter.unusedVariables false
set_option linter.unusedSimpArgs false
namespace Go.Taq
open Go
def low (c:Int):Int:=w64 (2*c)
def high (c:Int):Int:=w64 (w64 (2*c)+1)
def slR (r:Q0):List Int:=if 0≤r.Load then [low r.Cell,high r.Cell] else [low r.Cell]
def slS (st:ApiState) (i:Nat):List Int:=if carB st i=true then [] else [high (st.Shelves.getD i 0)]
def slP (c:Int):List Int:=[low c,high c]
def allS (st:ApiState):List Int:=(List.range st.Robots.length).flatMap (fun i=>slR (st.Robots.getD i default))++(List.range st.Shelves.length).flatMap (slS st)++(List.range st.People.length).flatMap (fun i=>slP (st.People.getD i 0))
structure Sz (st:ApiState):Prop where
 sh:st.Shelves.length≤1000
 rb:st.Robots.length≤1000
 pp:st.People.length≤1000
 dd:st.Dead.length≤1000
 sk:st.Stuck.length≤1000
theorem Y6 {n:Nat} {f:Nat→List Int} (h:∀i,i<n→(f i).length≤2):((List.range n).flatMap f).length≤2*n:=by
 induction n with
 | zero=>simp
 | succ n ih=>rw [List.range_succ,List.flatMap_append,List.length_append];have:=ih (fun i hi=>h i (by omega));have:=h n (by omega);simp only [List.flatMap_cons,List.flatMap_nil,List.append_nil];omega
theorem Q4N {n:Nat} (hn:n≤1000) {f:Nat→List Int} (hf:∀i,i<n→(f i).length≤2) {T:Int→(List Int→Prop)→Prop} (hT:∀i:Nat,i<n→∀{q:List Int→Prop},q (f i)→T (i:Int) q) {l0:List Int} (hl:l0.length≤1000000) {K:List Int→Prop} (hK:K (l0++(List.range n).flatMap f)):
  Jn (fun (J:List Int→Prop)=>Loop (fun (s:List Int×Int) Y=>Ite (decide (s.2<(n:Int))) (T s.2 (fun x=>(s.1.length+x.length≤1099511627776)∧Y (s.1++x,w64 (s.2+1)))) (J s.1)) (l0,0)) (fun x=>K x):=by
 refine Jn.mk (fun x=>x=l0++(List.range n).flatMap f) (Q3i n (fun t:List Int×Int=>t.2) (fun i t=>t.1=l0++(List.range i).flatMap f) (by unfold maxLen;omega) rfl (by simp) (fun i t hi h1 h2=>?_) (fun t h=>h)) (fun x hx=>hx▸hK)
 rw [h1]
 refine hT i hi ⟨?_,rfl,?_⟩
 ·have:=hf i hi
  have h3:=Y6 (n:=i) (f:=f) (fun j hj=>hf j (by omega))
  rw [h2,List.length_append];omega
 ·show t.1++f i=_
  rw [h2,List.range_succ,List.flatMap_append,List.append_assoc];simp
section
variable {st:ApiState}
theorem Q3h {r:Q0} {post:List Int→Prop} (hp:post (slR r)):Wz r r.Cell post:=by
 unfold Wz Xm KG
 unfold slR low high at hp
 refine Ite.mk (fun h=>?_) (fun h=>?_) <;> simp at h
 ·rw [if_pos h] at hp;exact hp
 ·rw [if_neg (by omega)] at hp;exact hp
theorem Q2q {i:Nat} {r:Q0} (h:st.Robots[i]?=some r):st.Robots.getD i default=r:=by rw [List.getD_eq_getElem?_getD,h];rfl
theorem Q1n {l:List Int} {n:Nat} {x:Int} (h:l[n]?=some x):l.getD n 0=x:=by rw [List.getD_eq_getElem?_getD,h];rfl
theorem Q1t {i:Nat} (hi:i<st.Robots.length) {post:List Int→Prop} (hp:post (slR (st.Robots.getD i default))):XA st i post:=by
 have hx:=List.getElem?_eq_getElem hi
 rw [Q2q hx] at hp
 unfold XA
 exact Jor2 (Ite.f (by simp;omega) ⟨_,QG rfl hx,Q3h hp⟩)
theorem Yq (hz:Sz st) {i:Int} {post:Int→Prop} (hp:post (carr st i)):KD st i post:=by
 unfold KD Qi
 unfold carr at hp
 refine Ite.mk (fun h=>?_) (fun h=>?_) <;> simp at h
 ·rw [if_pos h] at hp;exact hp
 ·rw [if_neg (by omega)] at hp
  exact Q00 (by have:=hz.rb;unfold maxLen;omega) (fun r:Q0=>r.Load == i) (T:=fun x q=>X2 x i q) (fun x _ q hq=>by unfold X2;exact hq) hp
theorem Q1J (hz:Sz st) {i:Nat} (hi:i<st.Shelves.length) {post:List Int→Prop} (hp:post (slS st i)):XB st i post:=by
 have hx:=List.getElem?_eq_getElem hi
 unfold slS carB high at hp
 rw [Q1n hx] at hp
 unfold XB
 refine Jn.mk' (Ite.f (by simp) (Ite.f (by simp;omega) (Yq hz ?_)))
 refine Ite.mk (fun h=>?_) (fun h=>?_)
 ·rw [if_pos (by simpa using h)] at hp;exact hp
 ·rw [if_neg (by simpa using h)] at hp;exact⟨_,QG rfl hx,by unfold KG;exact hp⟩
theorem Q0M {i:Nat} (hi:i<st.People.length) {post:List Int→Prop} (hp:post (slP (st.People.getD i 0))):Xl st i post:=by
 have hx:=List.getElem?_eq_getElem hi
 rw [Q1n hx] at hp
 unfold Xl Xm KG
 exact Jor2 (Ite.f (by simp;omega) ⟨_,QG rfl hx,hp⟩)
theorem Q1Q (r:Q0):(slR r).length≤2:=by unfold slR;split <;> simp
theorem Q1R (i:Nat):(slS st i).length≤2:=by unfold slS;split <;> simp
theorem Q0J (hz:Sz st):(allS st).length≤6000:=by
 have h1:=Y6 (n:=st.Robots.length) (f:=fun i=>slR (st.Robots.getD i default)) (fun i _=>Q1Q _)
 have h2:=Y6 (n:=st.Shelves.length) (f:=slS st) (fun i _=>Q1R i)
 have h3:=Y6 (n:=st.People.length) (f:=fun i=>slP (st.People.getD i 0)) (fun i _=>by simp [slP])
 have:=hz.sh;have:=hz.rb;have:=hz.pp
 unfold allS;rw [List.length_append,List.length_append];omega
theorem Q0q (hz:Sz st) {post:List Int→Prop} (hp:post (allS st)):Gf st post:=by
 have h1:=Y6 (n:=st.Robots.length) (f:=fun i=>slR (st.Robots.getD i default)) (fun i _=>Q1Q _)
 have h2:=Y6 (n:=st.Shelves.length) (f:=slS st) (fun i _=>Q1R i)
 have q1:=hz.sh;have q2:=hz.rb;have q3:=hz.pp
 unfold Gf
 refine Q4N q2 (f:=fun i=>slR (st.Robots.getD i default)) (fun i _=>Q1Q _) (T:=fun i q=>XA st i q) (fun i hi q hq=>Q1t hi hq) (by simp) ?_
 refine Q4N q1 (f:=slS st) (fun i _=>Q1R i) (T:=fun i q=>XB st i q) (fun i hi q hq=>Q1J hz hi hq) (by rw [List.nil_append];omega) ?_
 refine Q4N q3 (f:=fun i=>slP (st.People.getD i 0)) (fun i _=>by simp [slP]) (T:=fun i q=>Xl st i q) (fun i hi q hq=>Q0M hi hq) (by rw [List.length_append];simp only [List.nil_append];omega) ?_
 exact hp
theorem Q2O (hz:Sz st) {post:List Int→Prop} (hp:∀l,List.Perm l (allS st)→post l):W6 st post:=by
 unfold W6 QB
 exact Q0q hz ⟨by have:=Q0J hz;omega,hp _ (List.mergeSort_perm _ _)⟩
theorem We {l m:List Int} (h:List.Perm l m) (x:Int):l.contains x=m.contains x:=by
 rw [Bool.eq_iff_iff];simp [h.mem_iff]
end
end Go.Taq
