/- The mathematics, several parts in one text. -/
import Derived.Test.YtdcfcldpjfepiaaGreatNE
import Derived.Test.YtdcfcldpjfepiaaGreatMS
/- The mathematics, part NF: the rules' statements: examples, RulesApart. -/
set_option linter.unusedVariables false
set_option linter.unusedSimpArgs false
namespace Go.Taq
open Go
theorem Q6Y {s:ApiSite} (a b:ByteArray):nev s a b=nev s b a:=by
 unfold nev apB
 have e:∀x:Q9,((seq x.A a&&seq x.B b)||(seq x.A b&&seq x.B a))=((seq x.A b&&seq x.B a)||(seq x.A a&&seq x.B b)):=fun x=>Bool.or_comm _ _
 simp only [e]
 rw [Bool.and_comm (!nosh a)]
theorem Q3c {s:ApiSite} {st:ApiState}:(Y3 s st).2.2=decide (0≤fnat (fun a=>decide (0≤Q0l s st a)) st.Shelves.length):=by
 unfold Y3
 simp only
 split <;> rename_i h <;> simp <;> omega
end Go.Taq
/- The mathematics, part NG: being near is symmetric; zones are apart; what changes where a shelf is put. -/
set_option linter.unusedVariables false
set_option linter.unusedSimpArgs false
namespace Go.Taq
open Go
theorem Q6B {f:ApiFloor} {x y z:Int} (h:0≤XA f x y z):0≤x∧x<f.W∧0≤y∧y<f.H∧0≤z∧z<f.D:=by
 unfold XA at h
 split at h
 ·assumption
 ·omega
theorem Q6b {f:ApiFloor} (hf:RF f) {x y z:Int} (h:0≤x∧x<f.W∧0≤y∧y<f.H∧0≤z∧z<f.D):pX f (XA f x y z)=x∧pY f (XA f x y z)=y∧pZ f (XA f x y z)=z:=by
 have e:XA f x y z=(z*f.H+y)*f.W+x:=by unfold XA;rw [if_pos h]
 have w:=hf.W1;have hh:=hf.H1
 have d1:((z*f.H+y)*f.W+x) / f.W=z*f.H+y:=by
  rw [Int.add_comm,Int.add_mul_ediv_right _ _ (by omega),Int.ediv_eq_zero_of_lt h.1 h.2.1];omega
 have d2:(z*f.H+y) / f.H=z:=by
  rw [Int.add_comm,Int.add_mul_ediv_right _ _ (by omega),Int.ediv_eq_zero_of_lt h.2.2.1 h.2.2.2.1];omega
 unfold pX pY pZ
 rw [e,d1,d2]
 refine⟨?_,?_,rfl⟩
 ·rw [Int.add_comm,Int.add_mul_emod_self_right,Int.emod_eq_of_lt h.1 h.2.1]
 ·rw [Int.add_comm,Int.add_mul_emod_self_right,Int.emod_eq_of_lt h.2.2.1 h.2.2.2.1]
theorem Q7X {f:ApiFloor} (hf:RF f) {c:Int} (hc:isC f c=true):XA f (pX f c) (pY f c) (pZ f c)=c:=by
 have hb:=p_bd hf hc
 unfold XA;rw [if_pos hb]
 unfold pX pY pZ
 have w:=hf.W1;have hh:=hf.H1
 have e1:c / f.W / f.H*f.H+c / f.W % f.H=c / f.W:=by rw [Int.mul_comm];exact Int.mul_ediv_add_emod ..
 rw [e1,Int.mul_comm]
 exact Int.mul_ediv_add_emod ..
theorem Q6S {f:ApiFloor} (hf:RF f) {a b d:Int} (hb:isC f b=true) (hd:0≤d∧d<4) (h:nbr f a d=b):isC f a=true∧nbr f b (if d<2 then d+2 else d-2)=a:=by
 have ha:isC f a=true:=by
  cases e:isC f a with
  | true=>rfl
  | false=>unfold nbr at h;rw [if_pos e] at h;rw [QN] at hb;omega
 refine⟨ha,?_⟩
 have hb0:0≤b:=(QN.1 hb).1
 have hd':d=0∨d=1∨d=2∨d=3:=by omega
 rcases hd' with rfl | rfl | rfl | rfl <;> (
  simp only [nbr,ha,hb,Bool.true_eq_false,if_false,reduceCtorEq] at h ⊢
  simp at h ⊢
  obtain⟨q1,q2,q3⟩:=Q6b hf (Q6B (by rw [h];exact hb0))
  rw [h] at q1 q2 q3
  rw [q1,q2,q3]
  have:=Q7X hf ha
  simpa using this)
theorem Q53 {f:ApiFloor} (hf:RF f) {a b:Int} (ha:isC f a=true) (hb:isC f b=true):Q0n f a b=Q0n f b a:=by
 have key:∀{a b:Int},isC f a=true→isC f b=true→Q0n f a b=true→Q0n f b a=true:=fun {a b} ha hb h=>by
  unfold Q0n at h ⊢
  rw [hb,Bool.true_and,List.any_eq_true] at h
  obtain⟨d,hd,e⟩:=h
  have hd':0≤d∧d<4:=by simp at hd;omega
  obtain⟨_,h2⟩:=Q6S hf hb hd' (by simpa using e)
  rw [ha,Bool.true_and,List.any_eq_true]
  refine⟨if d<2 then d+2 else d-2,?_,by simp [h2]⟩
  simp at hd;rcases hd with rfl | rfl | rfl | rfl <;> decide
 rw [Bool.eq_iff_iff];exact⟨key ha hb,key hb ha⟩
theorem Z7 {s:ApiSite} {st:ApiState}:(Y3 s st).2.2=true↔∃a b:Nat,a<b∧b<st.Shelves.length∧badP s st a b=true:=by
 rw [Q3c,decide_eq_true_eq]
 rcases Yh (fun a=>decide (0≤Q0l s st a)) st.Shelves.length with ⟨a,ha,e,hp,_⟩ | ⟨e,hb⟩
 ·rw [e]
  refine⟨fun _=>?_,fun _=>by omega⟩
  rcases Yh (fun b=>decide (a<b)&&badP s st a b) st.Shelves.length with ⟨b,hb,e2,hp2,_⟩ | ⟨e2,_⟩
  ·simp at hp2;exact⟨a,b,hp2.1,hb,hp2.2⟩
  ·simp [Q0l,e2] at hp
 ·rw [e]
  refine⟨fun h=>by omega,fun ⟨a,b,h1,h2,h3⟩=>?_⟩
  have:=hb a (by omega)
  rcases Yh (fun b=>decide (a<b)&&badP s st a b) st.Shelves.length with ⟨w,_,e2,_,_⟩ | ⟨e2,hb2⟩
  ·simp [Q0l,e2] at this
  ·have:=hb2 b h2;simp [h1,h3] at this
section
end
end Go.Taq
/- The mathematics, part NV: zones in the reference. -/
set_option linter.unusedVariables false
namespace Go.Taq
open Go
end Go.Taq
/- The mathematics, part NJ: the reference of the rules; RulesTell. -/
set_option linter.unusedVariables false
set_option linter.unusedSimpArgs false
namespace Go.Taq
open Go
section
end
theorem Q3a {a b:List Int} (hm:a.length≤maxLen) {post:Bool→Prop} (hp:a=b→post true) (hab:a=b):Kl a b post:=by
 subst hab
 unfold Kl
 refine Ite.f (by simp) ?_
 refine Jn.mk (fun _=>True) (Km hm (fun t=>t) (fun _ _=>True) rfl trivial (fun n x t hx ht _=>⟨x,by rw [ht];exact QD rfl hx,Ite.f (by simp) ⟨by rw [ht],trivial⟩⟩) (fun _ _=>trivial)) (fun _ _=>hp rfl)
end Go.Taq
/- The mathematics, part OA: batteries, and the slots of a state. -/
set_option linter.unusedVariables false
set_option linter.unusedSimpArgs false
namespace Go.Taq
open Go
def bas (a:Int) (l:Bool):Int:=
 if a=0∨a=8 then 1 else if a=7 then 3 else if a<1∨a≥7 then 0 else (if a=5 then 5 else if a=6 then 1 else 2)+if l=true then 2 else 0
def agT (t:Int):Int:=if t<0 then 0 else if t>20000 then 20 else t / 1000
def cst (t a:Int) (l:Bool):Int:=(bas a l*(10+agT t)+9) / 10
def aft (t ch a:Int) (l:Bool):Int×Int:=
 if ch<0∨ch>1000000∨a<0∨a≥10 then (ch,1) else if a=9 then (if ch>999980 then 1000000 else ch+20,0) else if ch<cst t a l then (ch,16) else (ch-cst t a l,0)
theorem Q9D (a:Int) (l:Bool):bas a l=0∨bas a l=1∨bas a l=2∨bas a l=3∨bas a l=4∨bas a l=5∨bas a l=7:=by
 unfold bas
 cases l <;> simp <;> split <;> (try split) <;> (try split) <;> (try split) <;> (try split) <;> omega
theorem Q4y (t:Int):0≤agT t∧agT t≤20:=by unfold agT;split <;> (try split) <;> omega
theorem Q62 (a t:Int) (l:Bool):0≤bas a l*(10+agT t)∧bas a l*(10+agT t)≤210:=by
 have h:=Q4y t
 rcases Q9D a l with e | e | e | e | e | e | e <;> rw [e] <;> omega
theorem Q4I (t a:Int) (l:Bool):0≤cst t a l∧cst t a l≤21:=by have:=Q62 a t l;unfold cst;omega
theorem act10 {a:Int} (h0:0≤a) (h9:a<10):a=0∨a=1∨a=2∨a=3∨a=4∨a=5∨a=6∨a=7∨a=8∨a=9:=by omega
theorem Q1W {a:Int} (h0:0≤a) (h9:a<10) {l:Bool} {post:Int→Prop} (hp:post (bas a l)):G7 a l post:=by
 unfold G7
 rcases act10 h0 h9 with rfl | rfl | rfl | rfl | rfl | rfl | rfl | rfl | rfl | rfl <;> cases l <;> repeat (first | exact hp | refine Jn.mk' ?_ | refine Ite.t (by decide) ?_ | refine Ite.f (by decide) ?_)
theorem Q8Y (t:Int):w64 ((imin (imax t 0) 20000).tdiv 1000)=agT t:=by
 have e:(imin (imax t 0) 20000).tdiv 1000=agT t:=by
  unfold imin imax agT
  rw [Int.tdiv_eq_ediv_of_nonneg (by repeat' split <;> omega)]
  repeat' split <;> omega
 rw [e];have:=Q4y t;exact QF (by omega) (by omega)
theorem WV {t a:Int} (h0:0≤a) (h9:a<10) {l:Bool} {post:Int→Prop} (hp:post (cst t a l)):X1 t a l post:=by
 unfold X1
 refine Q1W h0 h9 ?_
 have hb:=Q62 a t l
 have ha:=Q4y t
 rw [Q8Y,QF (x:=10+agT t) (by omega) (by omega),QF (x:=bas a l*(10+agT t)) (by omega) (by omega),QF (x:=bas a l*(10+agT t)+9) (by omega) (by omega),Int.tdiv_eq_ediv_of_nonneg (by omega)]
 have hc:=Q4I t a l
 unfold cst at hc hp
 rw [QF (by omega) (by omega)]
 exact hp
theorem Q1C {ch c:Int} (hc:0≤c∧c≤100) {post:Int×Int→Prop} (hp:post (if ch<0∨ch>1000000 then (ch,1) else if ch<c then (ch,16) else (ch-c,0))):XJ ch c post:=by
 unfold XJ Kk
 refine Jn.mk (fun b=>b=decide (ch<0∨ch>1000000)) (Q0t (Ite.mk (fun h=>?_) (fun h=>?_))) (fun b hb=>?_)
 ·simp at h;rw [decide_eq_false (by omega:¬c<0)];simp;omega
 ·simp at h;simp;omega
 ·subst hb
  refine Ite.mk (fun h=>?_) (fun h=>Ite.mk (fun h1=>?_) (fun h1=>?_))
  ·rw [if_pos (by simpa using h)] at hp;exact hp
  ·rw [if_neg (by simpa using h),if_pos (by simpa using h1)] at hp;exact hp
  ·rw [if_neg (by simpa using h),if_neg (by simpa using h1)] at hp
   simp at h h1
   rw [QF (by omega) (by omega)];exact hp
theorem YR {t ch a:Int} {l:Bool} {post:Int×Int→Prop} (hp:post (aft t ch a l)):X9 t ch a l post:=by
 unfold X9 Kk
 refine Jn.mk (fun b=>b=decide (ch<0∨ch>1000000∨a<0∨a≥10)) (Q0t (Ite.mk (fun h=>Ite.mk (fun h1=>?_) (fun h1=>?_)) (fun h=>?_))) (fun b hb=>?_)
 ·simp at h h1;simp;omega
 ·simp at h h1;show decide (a≥10)=decide (ch<0∨ch>1000000∨a<0∨a≥10);rw [Bool.eq_iff_iff];simp;omega
 ·simp at h;simp;omega
 ·subst hb
  unfold aft at hp
  refine Ite.mk (fun h=>?_) (fun h=>Ite.mk (fun h1=>?_) (fun h1=>?_))
  ·rw [if_pos (by simpa using h)] at hp;exact hp
  ·simp at h1;rw [if_neg (by simpa using h),if_pos h1] at hp
   simp at h
   rw [QF (x:=ch+20) (by omega) (by omega)]
   have e:imin (ch+20) 1000000=if ch>999980 then 1000000 else ch+20:=by unfold imin;repeat' split <;> omega
   rw [e];exact hp
  ·simp at h1;rw [if_neg (by simpa using h),if_neg h1] at hp
   simp at h
   refine WV (by omega) (by omega) (Q1C (by have:=Q4I t a l;omega) ?_)
   rw [if_neg (by omega)]
   split
   ·rw [if_pos (by assumption)] at hp;exact hp
   ·rw [if_neg (by assumption)] at hp;exact hp
end Go.Taq
/- The mathematics, part OB: the slots of a state, in both; who carries. -/
set_option linter.unusedVariables false
set_option linter.unusedSimpArgs false
namespace Go.Taq
open Go
def low (c:Int):Int:=w64 (2*c)
def high (c:Int):Int:=w64 (w64 (2*c)+1)
def slR (r:ApiRobot):List Int:=if 0≤r.Load then [low r.Cell,high r.Cell] else [low r.Cell]
def slS (st:ApiState) (i:Nat):List Int:=if carB st i=true then [] else [high (st.Shelves.getD i 0)]
def slP (c:Int):List Int:=[low c,high c]
def allS (st:ApiState):List Int:=(List.range st.Robots.length).flatMap (fun i=>slR (st.Robots.getD i default))++(List.range st.Shelves.length).flatMap (slS st)++(List.range st.People.length).flatMap (fun i=>slP (st.People.getD i 0))
structure Sz (st:ApiState):Prop where
 sh:st.Shelves.length≤1000
 rb:st.Robots.length≤1000
 pp:st.People.length≤1000
 dd:st.Dead.length≤1000
 sk:st.Stuck.length≤1000
theorem WR {n:Nat} {f:Nat→List Int} (h:∀i,i<n→(f i).length≤2):((List.range n).flatMap f).length≤2*n:=by
 induction n with
 | zero=>simp
 | succ n ih=>rw [List.range_succ,List.flatMap_append,List.length_append];have:=ih (fun i hi=>h i (by omega));have:=h n (by omega);simp only [List.flatMap_cons,List.flatMap_nil,List.append_nil];omega
theorem Q7O {n:Nat} (hn:n≤1000) {f:Nat→List Int} (hf:∀i,i<n→(f i).length≤2) {T:Int→(List Int→Prop)→Prop} (hT:∀i:Nat,i<n→∀{q:List Int→Prop},q (f i)→T (i:Int) q) {l0:List Int} (hl:l0.length≤1000000) {K:List Int→Prop} (hK:K (l0++(List.range n).flatMap f)):
  Jn (fun (J:List Int→Prop)=>Loop (fun (s:List Int×Int) Y=>Ite (decide (s.2<(n:Int))) (T s.2 (fun x=>(s.1.length+x.length≤1099511627776)∧Y (s.1++x,w64 (s.2+1)))) (J s.1)) (l0,0)) (fun x=>K x):=by
 refine Jn.mk (fun x=>x=l0++(List.range n).flatMap f) (Q22 n (fun t:List Int×Int=>t.2) (fun i t=>t.1=l0++(List.range i).flatMap f) (by unfold maxLen;omega) rfl (by simp) (fun i t hi h1 h2=>?_) (fun t h=>h)) (fun x hx=>hx▸hK)
 rw [h1]
 refine hT i hi ⟨?_,rfl,?_⟩
 ·have:=hf i hi
  have h3:=WR (n:=i) (f:=f) (fun j hj=>hf j (by omega))
  rw [h2,List.length_append];omega
 ·show t.1++f i=_
  rw [h2,List.range_succ,List.flatMap_append,List.append_assoc];simp
section
variable {st:ApiState}
theorem Q6i {r:ApiRobot} {post:List Int→Prop} (hp:post (slR r)):Wa r r.Cell post:=by
 unfold Wa KL Kd
 unfold slR low high at hp
 refine Ite.mk (fun h=>?_) (fun h=>?_) <;> simp at h
 ·rw [if_pos h] at hp;exact hp
 ·rw [if_neg (by omega)] at hp;exact hp
theorem Wi {i:Nat} {r:ApiRobot} (h:st.Robots[i]?=some r):st.Robots.getD i default=r:=by rw [List.getD_eq_getElem?_getD,h];rfl
theorem Gv {l:List Int} {n:Nat} {x:Int} (h:l[n]?=some x):l.getD n 0=x:=by rw [List.getD_eq_getElem?_getD,h];rfl
theorem Q3x {i:Nat} (hi:i<st.Robots.length) {post:List Int→Prop} (hp:post (slR (st.Robots.getD i default))):G9 st i post:=by
 have hx:=List.getElem?_eq_getElem hi
 rw [Wi hx] at hp
 unfold G9
 exact Jor2 (Ite.f (by simp;omega) ⟨_,QD rfl hx,Q6i hp⟩)
theorem Zo (hz:Sz st) {i:Int} {post:Int→Prop} (hp:post (carr st i)):X2 st i post:=by
 unfold X2 Qp
 unfold carr at hp
 refine Ite.mk (fun h=>?_) (fun h=>?_) <;> simp at h
 ·rw [if_pos h] at hp;exact hp
 ·rw [if_neg (by omega)] at hp
  exact Zx (by have:=hz.rb;unfold maxLen;omega) (fun r:ApiRobot=>r.Load == i) (T:=fun x q=>Xs x i q) (fun x _ q hq=>by unfold Xs;exact hq) hp
theorem Q3m (hz:Sz st) {i:Nat} (hi:i<st.Shelves.length) {post:List Int→Prop} (hp:post (slS st i)):Ga st i post:=by
 have hx:=List.getElem?_eq_getElem hi
 unfold slS carB high at hp
 rw [Gv hx] at hp
 unfold Ga
 refine Jn.mk' (Ite.f (by simp) (Ite.f (by simp;omega) (Zo hz ?_)))
 refine Ite.mk (fun h=>?_) (fun h=>?_)
 ·rw [if_pos (by simpa using h)] at hp;exact hp
 ·rw [if_neg (by simpa using h)] at hp;exact⟨_,QD rfl hx,by unfold Kd;exact hp⟩
theorem Q2D {i:Nat} (hi:i<st.People.length) {post:List Int→Prop} (hp:post (slP (st.People.getD i 0))):XT st i post:=by
 have hx:=List.getElem?_eq_getElem hi
 rw [Gv hx] at hp
 unfold XT KL Kd
 exact Jor2 (Ite.f (by simp;omega) ⟨_,QD rfl hx,hp⟩)
theorem Q44 (r:ApiRobot):(slR r).length≤2:=by unfold slR;split <;> simp
theorem Q4g (i:Nat):(slS st i).length≤2:=by unfold slS;split <;> simp
theorem Za (hz:Sz st):(allS st).length≤6000:=by
 have h1:=WR (n:=st.Robots.length) (f:=fun i=>slR (st.Robots.getD i default)) (fun i _=>Q44 _)
 have h2:=WR (n:=st.Shelves.length) (f:=slS st) (fun i _=>Q4g i)
 have h3:=WR (n:=st.People.length) (f:=fun i=>slP (st.People.getD i 0)) (fun i _=>by simp [slP])
 have:=hz.sh;have:=hz.rb;have:=hz.pp
 unfold allS;rw [List.length_append,List.length_append];omega
theorem Q0w (hz:Sz st) {post:List Int→Prop} (hp:post (allS st)):Gx st post:=by
 have h1:=WR (n:=st.Robots.length) (f:=fun i=>slR (st.Robots.getD i default)) (fun i _=>Q44 _)
 have h2:=WR (n:=st.Shelves.length) (f:=slS st) (fun i _=>Q4g i)
 have q1:=hz.sh;have q2:=hz.rb;have q3:=hz.pp
 unfold Gx
 refine Q7O q2 (f:=fun i=>slR (st.Robots.getD i default)) (fun i _=>Q44 _) (T:=fun i q=>G9 st i q) (fun i hi q hq=>Q3x hi hq) (by simp) ?_
 refine Q7O q1 (f:=slS st) (fun i _=>Q4g i) (T:=fun i q=>Ga st i q) (fun i hi q hq=>Q3m hz hi hq) (by rw [List.nil_append];omega) ?_
 refine Q7O q3 (f:=fun i=>slP (st.People.getD i 0)) (fun i _=>by simp [slP]) (T:=fun i q=>XT st i q) (fun i hi q hq=>Q2D hi hq) (by rw [List.length_append];simp only [List.nil_append];omega) ?_
 exact hp
theorem Q26 (hz:Sz st) {post:List Int→Prop} (hp:∀l,List.Perm l (allS st)→post l):Ws st post:=by
 unfold Ws Qf
 exact Q0w hz ⟨by have:=Za hz;omega,hp _ (List.mergeSort_perm _ _)⟩
theorem Gj {l m:List Int} (h:List.Perm l m) (x:Int):l.contains x=m.contains x:=by
 rw [Bool.eq_iff_iff];simp [h.mem_iff]
end
end Go.Taq
