/- The mathematics, several parts in one text. -/
import Derived.Test.YtlaehjhkcanffaaGreatNA
import Derived.Test.YtlaehjhkcanffaaGreatNG
/- The mathematics, part NV: zones in the reference. -/
set_option linter.unusedVariables false
namespace Go.Taq
open Go
theorem Q1E {r:List Int} (hl:r.length≤1000000000) (ha:Asc r) {c:Int} {post:Bool→Prop} (hp:post (r.contains c)):Kl r c post:=by
 unfold Kl
 refine Jn.mk (fun i:Int=>0≤i∧i≤r.length∧(∀(j:Nat) x,(j:Int)<i→r[j]?=some x→x<c)∧(∀(j:Nat) x,i≤(j:Int)→r[j]?=some x→c≤x))
  (Loop.mk (fun s:Int×Int=>0≤s.1∧s.1≤s.2∧s.2≤r.length∧(∀(j:Nat) x,(j:Int)<s.1→r[j]?=some x→x<c)∧(∀(j:Nat) x,s.2≤(j:Int)→r[j]?=some x→c≤x)) (fun s=>(s.2-s.1).toNat) ⟨by simp,by simp,by simp,fun j x hj=>absurd hj (by simp),fun j x hj hx=>?_⟩ ?_) ?_
 ·have:=(List.getElem?_eq_some_iff.1 hx).1
  simp at hj;omega
 ·rintro⟨i,j⟩ ⟨h0,h1,h2,h3,h4⟩
  simp only at h0 h1 h2 h3 h4
  refine Ite.mk (fun hlt=>?_) (fun hge=>?_)
  ·simp only [decide_eq_true_eq] at hlt
   have e:w64 ((w64 (i+j)).tdiv 2)=(i+j) / 2:=by
    rw [Q6 (x:=i+j) (by omega) (by omega),Int.tdiv_eq_ediv_of_nonneg (by omega),Q6 (by omega) (by omega)]
   simp only []
   rw [e]
   have hmid:i≤(i+j) / 2∧(i+j) / 2<j:=by omega
   refine⟨_,Wl (by omega) (by omega),?_⟩
   generalize hx:r[((i+j) / 2).toNat]'(by omega)=x
   have hx':r[((i+j) / 2).toNat]?=some x:=by rw [List.getElem?_eq_getElem (by omega),hx]
   refine Jn.mk' (Ite.mk (fun h5=>?_) (fun h5=>?_))
   ·simp at h5
    rw [Q6 (by omega) (by omega)]
    refine⟨⟨by omega,by simp only [];omega,by simp only [];omega,fun q y hq hy=>?_,h4⟩,by simp only [];omega⟩
    rcases Nat.lt_or_ge q ((i+j) / 2).toNat with h6 | h6
    ·exact Int.lt_trans (ha _ _ _ _ h6 hy hx') h5
    ·have:q=((i+j) / 2).toNat:=by simp only [] at hq;omega
     subst this;rw [hx'] at hy;cases hy;exact h5
   ·simp at h5
    refine⟨⟨by omega,by simp only [];omega,by simp only [];omega,h3,fun q y hq hy=>?_⟩,by simp only [];omega⟩
    rcases Nat.lt_or_ge ((i+j) / 2).toNat q with h6 | h6
    ·have:=ha _ _ _ _ h6 hx' hy;omega
    ·have:q=((i+j) / 2).toNat:=by simp only [] at hq;omega
     subst this;rw [hx'] at hy;cases hy;omega
  ·simp only [decide_eq_false_iff_not] at hge
   have:i=j:=by omega
   subst this
   exact⟨h0,h2,h3,h4⟩
 ·rintro i ⟨h0,h1,h3,h4⟩
  have hc:r.contains c=true↔∃j:Nat,r[j]?=some c:=by
   rw [List.contains_iff_mem];exact List.mem_iff_getElem?
  refine Ite.mk (fun h5=>?_) (fun h5=>?_)
  ·simp at h5
   cases hcc:r.contains c
   ·rw [hcc] at hp;exact hp
   ·obtain⟨j,hj⟩:=hc.1 hcc
    have:=(List.getElem?_eq_some_iff.1 hj).1
    have:=h3 j c (by omega) hj;omega
  ·simp at h5
   have hlt:i<r.length:=by omega
   refine⟨_,Wl h0 hlt,?_⟩
   generalize hx:r[i.toNat]'(by omega)=x
   have hx':r[i.toNat]?=some x:=by rw [List.getElem?_eq_getElem (by omega),hx]
   have:(x == c)=r.contains c:=by
    rw [Bool.eq_iff_iff,hc,beq_iff_eq]
    constructor
    ·rintro rfl;exact⟨_,hx'⟩
    ·rintro⟨j,hj⟩
     rcases Nat.lt_trichotomy j i.toNat with h6 | h6 | h6
     ·have:=h3 j c (by omega) hj;omega
     ·subst h6;rw [hx'] at hj;cases hj;rfl
     ·have:=ha _ _ _ _ h6 hx' hj
      have:=h4 i.toNat x (by omega) hx'
      omega
   rw [this];exact hp
theorem zlen {s:ApiSite} (h:Y6 s) {z:ApiZone} (hz:z∈s.Zones):z.Cells.length≤s.Floor.Kind.length:=by
 have ha:=h.rs.asc z hz
 have hc:=h.rs.zc z hz
 have key:∀(i:Nat) x,z.Cells[i]?=some x→(i:Int)≤x:=by
  intro i
  induction i with
  | zero=>intro x hx;have:=Qp.1 (hc x (List.mem_of_getElem? hx));omega
  | succ i ih=>
   intro x hx
   have hlt:=(List.getElem?_eq_some_iff.1 hx).1
   have hy:z.Cells[i]?=some (z.Cells[i]'(by omega)):=List.getElem?_eq_getElem _
   have:=ih _ hy
   have:=ha i (i+1) _ x (by omega) hy hx
   omega
 rcases Nat.eq_zero_or_pos z.Cells.length with e | e
 ·omega
 ·have hx:z.Cells[z.Cells.length-1]?=some (z.Cells[z.Cells.length-1]'(by omega)):=List.getElem?_eq_getElem _
  have h1:=key _ _ hx
  have h2:=Qp.1 (hc _ (List.mem_of_getElem? hx))
  omega
theorem Q07 {s:ApiSite} (k:OkApiSite s) (h:Y6 s) {c:Int} {post:Int→Prop} (hp:post (zn s c)):Ke s c post:=by
 unfold Ke
 refine Q1P k.Zones.1 (fun z:ApiZone=>z.Cells.contains c) (T:=fun z post=>Kl z.Cells c post) (fun z hz post hq=>?_) hp
 have:=zlen h hz;have:=h.fl.len.1
 exact Q1E (by omega) (h.rs.asc z hz) hq
theorem Yp {s:ApiSite} (k:OkApiSite s) (h:Y6 s) {c:Int} {post:Int→Prop} (hp:post (spd s c)):QZ s c post:=by
 unfold QZ
 refine Q07 k h (Ite.mk (fun h1=>?_) (fun h1=>⟨_,Q3u (by simpa using h1),?_⟩))
 ·simp at h1;rw [spd,if_pos h1] at hp;exact hp
 ·simp at h1;rw [spd,if_neg (by omega)] at hp;exact hp
end Go.Taq
/- The mathematics, part NJ: the reference of the rules; RulesTell. -/
set_option linter.unusedVariables false
set_option linter.unusedSimpArgs false
namespace Go.Taq
open Go
section
end
theorem Q0y {a b:List Int} (hm:a.length≤maxLen) {post:Bool→Prop} (hp:a=b→post true) (hab:a=b):Q7 a b post:=by
 subst hab
 unfold Q7
 refine Ite.f (by simp) ?_
 refine Jn.mk (fun _=>True) (XP hm (fun t=>t) (fun _ _=>True) rfl trivial (fun n x t hx ht _=>⟨x,by rw [ht];exact Qe rfl hx,Ite.f (by simp) ⟨by rw [ht],trivial⟩⟩) (fun _ _=>trivial)) (fun _ _=>hp rfl)
end Go.Taq
/- The mathematics, part OA: batteries, and the slots of a state. -/
set_option linter.unusedVariables false
set_option linter.unusedSimpArgs false
namespace Go.Taq
open Go
def bas (a:Int) (l:Bool):Int:=
 if a=0∨a=8 then 1 else if a=7 then 3 else if a<1∨a≥7 then 0 else (if a=5 then 5 else if a=6 then 1 else 2)+if l=true then 2 else 0
def agT (t:Int):Int:=if t<0 then 0 else if t>20000 then 20 else t / 1000
def cst (t a:Int) (l:Bool):Int:=(bas a l*(10+agT t)+9) / 10
theorem Q41 (a:Int) (l:Bool):bas a l=0∨bas a l=1∨bas a l=2∨bas a l=3∨bas a l=4∨bas a l=5∨bas a l=7:=by
 unfold bas
 cases l <;> simp <;> split <;> (try split) <;> (try split) <;> (try split) <;> (try split) <;> omega
theorem Q24 (t:Int):0≤agT t∧agT t≤20:=by unfold agT;split <;> (try split) <;> omega
theorem Q1M (a t:Int) (l:Bool):0≤bas a l*(10+agT t)∧bas a l*(10+agT t)≤210:=by
 have h:=Q24 t
 rcases Q41 a l with e | e | e | e | e | e | e <;> rw [e] <;> omega
theorem Q3v (t a:Int) (l:Bool):0≤cst t a l∧cst t a l≤21:=by have:=Q1M a t l;unfold cst;omega
theorem act10 {a:Int} (h0:0≤a) (h9:a<10):a=0∨a=1∨a=2∨a=3∨a=4∨a=5∨a=6∨a=7∨a=8∨a=9:=by omega
theorem ZV {a:Int} (h0:0≤a) (h9:a<10) {l:Bool} {post:Int→Prop} (hp:post (bas a l)):Xi a l post:=by
 unfold Xi
 rcases act10 h0 h9 with rfl | rfl | rfl | rfl | rfl | rfl | rfl | rfl | rfl | rfl <;> cases l <;> repeat (first | exact hp | refine Jn.mk' ?_ | refine Ite.t (by decide) ?_ | refine Ite.f (by decide) ?_)
theorem Q4t (t:Int):w64 ((imin (imax t 0) 20000).tdiv 1000)=agT t:=by
 have e:(imin (imax t 0) 20000).tdiv 1000=agT t:=by
  unfold imin imax agT
  rw [Int.tdiv_eq_ediv_of_nonneg (by repeat' split <;> omega)]
  repeat' split <;> omega
 rw [e];have:=Q24 t;exact Q6 (by omega) (by omega)
theorem WO {t a:Int} (h0:0≤a) (h9:a<10) {l:Bool} {post:Int→Prop} (hp:post (cst t a l)):KX t a l post:=by
 unfold KX
 refine ZV h0 h9 ?_
 have hb:=Q1M a t l
 have ha:=Q24 t
 rw [Q4t,Q6 (x:=10+agT t) (by omega) (by omega),Q6 (x:=bas a l*(10+agT t)) (by omega) (by omega),Q6 (x:=bas a l*(10+agT t)+9) (by omega) (by omega),Int.tdiv_eq_ediv_of_nonneg (by omega)]
 have hc:=Q3v t a l
 unfold cst at hc hp
 rw [Q6 (by omega) (by omega)]
 exact hp
theorem Q1r {a:Int} {l:Bool} {post:Int→Prop} (hp:post (bas a l)):KB a l post:=by
 unfold KB
 by_cases h:0≤a∧a<10
 ·rcases act10 h.1 h.2 with rfl | rfl | rfl | rfl | rfl | rfl | rfl | rfl | rfl | rfl <;> cases l <;> repeat (first | exact hp | refine Jn.mk' ?_ | refine Ite.t (by decide) ?_ | refine Ite.f (by decide) ?_)
 ·unfold bas at hp
  rw [if_neg (by omega),if_neg (by omega),if_pos (by omega)] at hp
  refine Jor2 (Ite.f (by simp;omega) (Ite.f (by simp;omega) (Jor2 (Ite.t (by simp;omega) hp))))
theorem Q1z {t:Int} {post:Int→Prop} (hp:post (agT t)):KJ t post:=by
 unfold KJ;unfold agT at hp
 refine Ite.mk (fun h=>?_) (fun h=>Ite.mk (fun h1=>?_) (fun h1=>?_)) <;> simp at h
 ·rw [if_pos h] at hp;exact hp
 ·simp at h1;rw [if_neg (by omega),if_pos h1] at hp;exact hp
 ·simp at h1;rw [if_neg (by omega),if_neg (by omega)] at hp
  rw [Int.tdiv_eq_ediv_of_nonneg h,Q6 (by omega) (by omega)];exact hp
theorem Zb {t a:Int} {l:Bool} {post:Int→Prop} (hp:post (cst t a l)):K9 t a l post:=by
 unfold K9
 refine Q1r (Q1z ?_)
 have hb:=Q1M a t l
 have ha:=Q24 t
 have hc:=Q3v t a l
 unfold cst at hp hc
 rw [Q6 (x:=10+agT t) (by omega) (by omega),Q6 (x:=bas a l*(10+agT t)) (by omega) (by omega),Int.tdiv_eq_ediv_of_nonneg (by omega),Int.tmod_eq_emod_of_nonneg (by omega)]
 generalize bas a l*(10+agT t)=x at *
 rw [Q6 (x:=x / 10) (by omega) (by omega)]
 refine Ite.mk (fun h=>?_) (fun h=>?_) <;> simp at h
 ·rw [Q6 (by omega) (by omega)]
  have:(x+9) / 10=x / 10+1:=by omega
  rw [←this];exact hp
 ·have:(x+9) / 10=x / 10:=by omega
  rw [←this];exact hp
end Go.Taq
/- The mathematics, part OB: the slots of a state, in both; who carries. -/
set_option linter.unusedVariables false
set_option linter.unusedSimpArgs false
namespace Go.Taq
open Go
def low (c:Int):Int:=w64 (2*c)
def high (c:Int):Int:=w64 (w64 (2*c)+1)
def slR (r:Qz):List Int:=if 0≤r.Load then [low r.Cell,high r.Cell] else [low r.Cell]
def slS (st:ApiState) (i:Nat):List Int:=if carB st i=true then [] else [high (st.Shelves.getD i 0)]
def slP (c:Int):List Int:=[low c,high c]
def allS (st:ApiState):List Int:=(List.range st.Robots.length).flatMap (fun i=>slR (st.Robots.getD i default))++(List.range st.Shelves.length).flatMap (slS st)++(List.range st.People.length).flatMap (fun i=>slP (st.People.getD i 0))
structure Sz (st:ApiState):Prop where
 sh:st.Shelves.length≤1000
 rb:st.Robots.length≤1000
 pp:st.People.length≤1000
 dd:st.Dead.length≤1000
 sk:st.Stuck.length≤1000
theorem Wz {n:Nat} {f:Nat→List Int} (h:∀i,i<n→(f i).length≤2):((List.range n).flatMap f).length≤2*n:=by
 induction n with
 | zero=>simp
 | succ n ih=>rw [List.range_succ,List.flatMap_append,List.length_append];have:=ih (fun i hi=>h i (by omega));have:=h n (by omega);simp only [List.flatMap_cons,List.flatMap_nil,List.append_nil];omega
theorem Q3V {n:Nat} (hn:n≤1000) {f:Nat→List Int} (hf:∀i,i<n→(f i).length≤2) {T:Int→(List Int→Prop)→Prop} (hT:∀i:Nat,i<n→∀{q:List Int→Prop},q (f i)→T (i:Int) q) {l0:List Int} (hl:l0.length≤1000000) {K:List Int→Prop} (hK:K (l0++(List.range n).flatMap f)):
  Jn (fun (J:List Int→Prop)=>Loop (fun (s:List Int×Int) Y=>Ite (decide (s.2<(n:Int))) (T s.2 (fun x=>(s.1.length+x.length≤1099511627776)∧Y (s.1++x,w64 (s.2+1)))) (J s.1)) (l0,0)) (fun x=>K x):=by
 refine Jn.mk (fun x=>x=l0++(List.range n).flatMap f) (Q2j n (fun t:List Int×Int=>t.2) (fun i t=>t.1=l0++(List.range i).flatMap f) (by unfold maxLen;omega) rfl (by simp) (fun i t hi h1 h2=>?_) (fun t h=>h)) (fun x hx=>hx▸hK)
 rw [h1]
 refine hT i hi ⟨?_,rfl,?_⟩
 ·have:=hf i hi
  have h3:=Wz (n:=i) (f:=f) (fun j hj=>hf j (by omega))
  rw [h2,List.length_append];omega
 ·show t.1++f i=_
  rw [h2,List.range_succ,List.flatMap_append,List.append_assoc];simp
section
variable {st:ApiState}
theorem Q2z {r:Qz} {post:List Int→Prop} (hp:post (slR r)):KV r r.Cell post:=by
 unfold KV
 unfold slR low high at hp
 refine Ite.mk (fun h=>?_) (fun h=>?_) <;> simp at h
 ·rw [if_neg (by omega)] at hp;exact hp
 ·rw [if_pos h] at hp;exact hp
theorem Q47 {i:Nat} {r:Qz} (h:st.Robots[i]?=some r):st.Robots.getD i default=r:=by rw [List.getD_eq_getElem?_getD,h];rfl
theorem Q16 {l:List Int} {n:Nat} {x:Int} (h:l[n]?=some x):l.getD n 0=x:=by rw [List.getD_eq_getElem?_getD,h];rfl
theorem Q0V {i:Nat} (hi:i<st.Robots.length) {post:List Int→Prop} (hp:post (slR (st.Robots.getD i default))):K1 st i post:=by
 have hx:=List.getElem?_eq_getElem hi
 rw [Q47 hx] at hp
 unfold K1
 exact Jor2 (Ite.f (by simp;omega) ⟨_,Qe rfl hx,Q2z hp⟩)
theorem G9 (k:OkApiState st) {i:Int} {post:Int→Prop} (hp:post (carr st i)):Qo st i post:=by
 unfold Qo
 refine Jn.mk (fun _=>carr st i=-1) (Loop.mk (fun t:Int=>∃n:Nat,t=(n:Int)∧n≤st.Robots.length∧∀(j:Nat) r,j<n→st.Robots[j]?=some r→(r.Load == i)=false) (fun t=>st.Robots.length-t.toNat) ⟨0,rfl,by omega,fun j r h=>by omega⟩ ?_) (fun _ h=>by rw [h] at hp;exact hp)
 rintro t ⟨n,rfl,hn,hI⟩
 refine Q3j (Ite.mk (fun h=>?_) (fun h=>?_))
 ·simp only [Bool.and_eq_true,decide_eq_true_eq] at h
  have hlt:n<st.Robots.length:=by omega
  have hx:st.Robots[n]?=some (st.Robots[n]'hlt):=List.getElem?_eq_getElem hlt
  generalize st.Robots[n]'hlt=r at hx
  refine⟨r,Qe rfl hx,Ite.mk (fun h1=>?_) (fun h1=>?_)⟩
  ·have:carr st i=n:=by
    unfold carr;rw [if_neg (by omega)]
    rcases Q0n (fun r:Qz=>r.Load == i) st.Robots with ⟨j,y,hy,e,hpj,hb⟩ | ⟨e,hb⟩
    ·have h2:¬n<j:=fun h2=>by have:=hb n r h2 hx;rw [h1] at this;cases this
     have h3:¬j<n:=fun h3=>by have:=hI j y h3 hy;rw [hpj] at this;cases this
     rw [e];omega
    ·have:=hb r (List.mem_of_getElem? hx);rw [h1] at this;cases this
   rw [this] at hp;exact hp
  ·rw [GU hlt k.Robots.1]
   refine⟨⟨n+1,rfl,by omega,fun j y hj hy=>?_⟩,by omega⟩
   by_cases e:j=n
   ·subst e;rw [hx] at hy;cases hy;exact h1
   ·exact hI j y (by omega) hy
 ·show carr st i=-1
  unfold carr
  split
  ·rfl
  ·have:n=st.Robots.length:=by simp at h;omega
   subst this
   rcases Q0n (fun r:Qz=>r.Load == i) st.Robots with ⟨j,y,hy,e,hpj,hb⟩ | ⟨e,hb⟩
   ·have:=hI j y (List.getElem?_eq_some_iff.1 hy).1 hy;rw [hpj] at this;cases this
   ·exact e
theorem Q0R (k:OkApiState st) {i:Nat} (hi:i<st.Shelves.length) {post:List Int→Prop} (hp:post (slS st i)):QX st i post:=by
 have hx:=List.getElem?_eq_getElem hi
 unfold slS carB high at hp
 rw [Q16 hx] at hp
 unfold QX
 refine Jn.mk' (Ite.f (by simp) (Ite.f (by simp;omega) (G9 k ?_)))
 refine Ite.mk (fun h=>?_) (fun h=>?_)
 ·rw [if_pos (by simpa using h)] at hp;exact hp
 ·rw [if_neg (by simpa using h)] at hp;exact⟨_,Qe rfl hx,hp⟩
theorem ZN {i:Nat} (hi:i<st.People.length) {post:List Int→Prop} (hp:post (slP (st.People.getD i 0))):QT st i post:=by
 have hx:=List.getElem?_eq_getElem hi
 rw [Q16 hx] at hp
 unfold QT
 exact Jor2 (Ite.f (by simp;omega) ⟨_,Qe rfl hx,hp⟩)
theorem Q1A (r:Qz):(slR r).length≤2:=by unfold slR;split <;> simp
theorem Q1C (i:Nat):(slS st i).length≤2:=by unfold slS;split <;> simp
theorem Q23 (hz:Sz st):(allS st).length≤6000:=by
 have h1:=Wz (n:=st.Robots.length) (f:=fun i=>slR (st.Robots.getD i default)) (fun i _=>Q1A _)
 have h2:=Wz (n:=st.Shelves.length) (f:=slS st) (fun i _=>Q1C i)
 have h3:=Wz (n:=st.People.length) (f:=fun i=>slP (st.People.getD i 0)) (fun i _=>by simp [slP])
 have:=hz.sh;have:=hz.rb;have:=hz.pp
 unfold allS;rw [List.length_append,List.length_append];omega
def putA:List Int→Int→List Int
 | [],n=>[n]
 | x :: xs,n=>if x>n then n :: x :: xs else x :: putA xs n
theorem Q37 (l:List Int) (n:Int):List.Perm (putA l n) (l++[n]):=by
 induction l with
 | nil=>exact .refl _
 | cons x xs ih=>
  unfold putA
  split
  ·exact List.perm_append_comm (l₁:=[n]) (l₂:=x :: xs)
  ·exact .cons _ ih
theorem Q3q {l:List Int} {n:Int} (h:∀x,x∈l→¬x>n):putA l n=l++[n]:=by
 induction l with
 | nil=>rfl
 | cons x xs ih=>rw [putA,if_neg (h x (by simp)),ih (fun y hy=>h y (by simp [hy]))];rfl
theorem Q3Z {l r:List Int} {n x:Int} (h:∀y,y∈l→¬y>n) (hx:x>n):putA (l++x :: r) n=l++n :: x :: r:=by
 induction l with
 | nil=>rw [List.nil_append,putA,if_pos hx];rfl
 | cons y ys ih=>rw [List.cons_append,putA,if_neg (h y (by simp)),ih (fun z hz=>h z (by simp [hz]))];rfl
theorem Q1g {l:List Int} (hl:l.length≤10000) {n:Int} {post:List Int→Prop} (hp:post (putA l n)):KE l n post:=by
 unfold KE
 refine Jn.mk (fun t:List Int×Bool=>(t.2=false∧t.1=l∧∀y,y∈l→¬y>n)∨(t.2=true∧t.1=putA l n))
  (GT (xs:=l) (by unfold maxLen;omega) (fun t:List Int×Bool×Int=>t.2.2) (fun i t=>(t.2.1=false∧t.1=l.take i∧∀y,y∈l.take i→¬y>n)∨(t.2.1=true∧t.1++l.drop i=putA l n∧t.1.length=i+1)) rfl (.inl ⟨rfl,by simp,by simp⟩) (fun i x t hx ht hI=>?_) (fun t h=>?_)) (fun t ht=>?_)
 ·have hlt:i<l.length:=(List.getElem?_eq_some_iff.1 hx).1
  have hdr:l.drop i=x :: l.drop (i+1):=by
   rw [List.drop_eq_getElem_cons hlt];congr 1;exact (List.getElem?_eq_some_iff.1 hx).2
  rcases hI with ⟨h1,h2,h3⟩ | ⟨h1,h2,h3⟩
  ·refine Jn.mk (fun b=>b=decide (x>n)) (Ite.f h1 ⟨x,Qe ht hx,rfl⟩) (fun b hb=>?_)
   subst hb
   refine Jn.mk (fun u:List Int×Bool=>u=if x>n then (t.1++[n],true) else (t.1,t.2.1)) (Ite.mk (fun hc=>?_) (fun hc=>?_)) (fun u hu=>?_)
   ·simp only [decide_eq_true_eq] at hc
    exact⟨by rw [h2];simp;omega,by rw [if_pos hc]⟩
   ·simp only [decide_eq_false_iff_not] at hc;rw [if_neg hc]
   ·refine⟨x,Qe ht hx,?_,?_,?_⟩
    ·subst hu;split <;> simp [h2] <;> omega
    ·show w64 (t.2.2+1)=_;rw [ht]
    ·subst hu
     by_cases hc:x>n
     ·right
      rw [if_pos hc]
      refine⟨rfl,?_,?_⟩
      ·show ((t.1++[n])++[x])++l.drop (i+1)=putA l n
       have e:l=l.take i++x :: l.drop (i+1):=by rw [←hdr,List.take_append_drop]
       have:=Q3Z (l:=l.take i) (r:=l.drop (i+1)) h3 hc
       rw [←e] at this
       rw [this,h2];simp
      ·show ((t.1++[n])++[x]).length=i+1+1
       rw [h2];simp;omega
     ·left
      rw [if_neg hc]
      refine⟨h1,?_,?_⟩
      ·show t.1++[x]=_;rw [h2,QE hx]
      ·rw [QE hx];intro y hy
       rcases List.mem_append.1 hy with hy | hy
       ·exact h3 y hy
       ·simp at hy;subst hy;exact hc
  ·refine Jn.mk (fun b=>b=false) (Ite.t h1 rfl) (fun b hb=>?_)
   subst hb
   refine Jn.mk (fun u:List Int×Bool=>u=(t.1,t.2.1)) (Ite.f rfl rfl) (fun u hu=>?_)
   subst hu
   refine⟨x,Qe ht hx,by simp;omega,by show w64 (t.2.2+1)=_;rw [ht],.inr ⟨h1,?_,?_⟩⟩
   ·show (t.1++[x])++l.drop (i+1)=_
    rw [←h2,hdr];simp
   ·show (t.1++[x]).length=_;simp;omega
 ·rcases h with ⟨h1,h2,h3⟩ | ⟨h1,h2,h3⟩
  ·exact .inl ⟨h1,by rw [h2,List.take_length],by rw [List.take_length] at h3;exact h3⟩
  ·exact .inr ⟨h1,by rw [List.drop_length,List.append_nil] at h2;exact h2⟩
 ·rcases ht with ⟨h1,h2,h3⟩ | ⟨h1,h2⟩
  ·refine Jn.mk (fun u=>u=putA l n) (Ite.t (by rw [h1];rfl) ⟨by rw [h2];simp;omega,by rw [h2,Q3q h3]⟩) (fun u hu=>hu▸hp)
  ·refine Jn.mk (fun u=>u=putA l n) (Ite.f (by rw [h1];rfl) h2) (fun u hu=>hu▸hp)
theorem ZW {l:List Int} (hl:l.length≤10000) {post:List Int→Prop} (hp:∀l',List.Perm l' l→post l'):Kh l post:=by
 unfold Kh
 refine Jn.mk (fun u=>List.Perm u l) (XP (xs:=l) (by unfold maxLen;omega) (fun t:List Int×Int=>t.2) (fun i t=>List.Perm t.1 (l.take i)) rfl (.refl _) (fun i x t hx ht hI=>?_) (fun t h=>by rw [List.take_length] at h;exact h)) (fun u hu=>hp u hu)
 have hlt:i<l.length:=(List.getElem?_eq_some_iff.1 hx).1
 refine Q1g (by rw [hI.length_eq,List.length_take];omega) ⟨by show w64 (t.2+1)=_;rw [ht],?_⟩
 show List.Perm (putA t.1 x) _
 rw [QE hx]
 exact (Q37 _ _).trans (hI.append_right _)
theorem Q1x (hz:Sz st) (k:OkApiState st) {post:List Int→Prop} (hp:∀l,List.Perm l (allS st)→post l):KN st post:=by
 have h1:=Wz (n:=st.Robots.length) (f:=fun i=>slR (st.Robots.getD i default)) (fun i _=>Q1A _)
 have h2:=Wz (n:=st.Shelves.length) (f:=slS st) (fun i _=>Q1C i)
 have q1:=hz.sh;have q2:=hz.rb;have q3:=hz.pp
 have q4:=Q23 hz
 unfold KN
 refine Q3V q2 (f:=fun i=>slR (st.Robots.getD i default)) (fun i _=>Q1A _) (T:=fun i q=>K1 st i q) (fun i hi q hq=>Q0V hi hq) (by simp) ?_
 refine Q3V q1 (f:=slS st) (fun i _=>Q1C i) (T:=fun i q=>QX st i q) (fun i hi q hq=>Q0R k hi hq) (by rw [List.nil_append];omega) ?_
 refine Q3V q3 (f:=fun i=>slP (st.People.getD i 0)) (fun i _=>by simp [slP]) (T:=fun i q=>QT st i q) (fun i hi q hq=>ZN hi hq) (by rw [List.length_append];simp only [List.nil_append];omega) ?_
 exact ZW (l:=allS st) (by omega) hp
end
end Go.Taq
/- The mathematics, part OC: right states (taquinref14.Right, Few); the bounds of the statements about actions. -/
set_option linter.unusedVariables false
set_option linter.unusedSimpArgs false
namespace Go.Taq
open Go
def kx (f:ApiFloor) (c:Int):Int:=if isC f c=true then kd f c else -1
structure RRob (s:ApiSite) (st:ApiState) (i:Nat) (r:Qz):Prop where
 cell:isC s.Floor r.Cell=true
 kind:kd s.Floor r.Cell≠0
 load:-1≤r.Load∧r.Load<st.Shelves.length
 charge:0≤r.Charge∧r.Charge≤1000000
 rest:0≤r.Rest∧r.Rest≤20000
 mute:0≤r.Mute∧r.Mute≤20000
 own:0≤r.Load→carr st r.Load=i∧st.Shelves.getD r.Load.toNat 0=r.Cell
structure RSt (s:ApiSite) (st:ApiState):Prop where
 tick:0≤st.Tick∧st.Tick≤20000
 sl:st.Shelves.length=s.Shelves.length
 rl:st.Robots.length=s.Robots.length
 pl:st.People.length≤20
 rob:∀(i:Nat) r,st.Robots[i]?=some r→RRob s st i r
 shel:∀(i:Nat) c,st.Shelves[i]?=some c→carB st i=false→kx s.Floor c=1∨kx s.Floor c=2
 ppl:∀(i:Nat) c,st.People[i]?=some c→kx s.Floor c=4∨kx s.Floor c=5
 dead:∀(i:Nat) c,st.Dead[i]?=some c→isC s.Floor c=true
 deadA:∀(i:Nat) x y,st.Dead[i]?=some x→st.Dead[i+1]?=some y→x<y
 stuck:∀(i:Nat) x,st.Stuck[i]?=some x→kx s.Floor x.Cell=6∧1≤x.Left∧x.Left≤20000
 stuckA:∀(i:Nat) x y,st.Stuck[i]?=some x→st.Stuck[i+1]?=some y→x.Cell<y.Cell
 clash:(allS st).Nodup
structure Q32 (st:ApiState):Prop where
 sh:st.Shelves.length≤12
 rb:st.Robots.length≤12
 pp:st.People.length≤12
 dd:st.Dead.length≤12
 sk:st.Stuck.length≤12
theorem Q32.sz {st:ApiState} (h:Q32 st):Sz st:=⟨by have:=h.sh;omega,by have:=h.rb;omega,by have:=h.pp;omega,by have:=h.dd;omega,by have:=h.sk;omega⟩
theorem Q3p {α:Type} {xs:List α} (hm:xs.length≤maxLen) (P:Nat→α→Prop) {T:Int→(Bool→Prop)→Prop} {E:Prop} {post:Bool→Prop}
  (hT:∀(i:Nat) x,xs[i]?=some x→∀{q:Bool→Prop},q true→(P i x→q false)→T (i:Int) q) (hF:post false) (hE:(∀(i:Nat) x,xs[i]?=some x→P i x)→E):
  Jn (fun (J:Unit→Prop)=>Loop (fun (s:Int) Y=>Ite (decide (s<(xs.length:Int))) (T s (fun b=>Ite b (post false) (Y (w64 (s+1))))) (J ())) 0) (fun _=>E):=by
 refine Jn.mk (fun _=>E) (GT hm (fun t=>t) (fun i _=>∀(j:Nat) x,j<i→xs[j]?=some x→P j x) rfl (fun j x h=>by omega) (fun i x t hx ht hI=>?_) (fun t h=>hE fun j x hj=>h j x (List.getElem?_eq_some_iff.1 hj).1 hj)) (fun _ h=>h)
 rw [ht]
 refine hT i x hx (Ite.t rfl hF) (fun hP=>Ite.f rfl ⟨rfl,fun j y hj hy=>?_⟩)
 by_cases e:j=i
 ·subst e;rw [hx] at hy;cases hy;exact hP
 ·exact hI j y (by omega) hy
theorem Q4M {α:Type} {xs:List α} (hm:xs.length≤maxLen) (g:α→Int) (P:α→Prop) {R:Int×Int→(Int×Int→Prop)→Prop} {E:Prop}
  (hR:∀(i:Nat) x t,xs[i]?=some x→t.2=(i:Int)→∀{Y:Int×Int→Prop},(t.1<g x→P x→Y (g x,w64 ((i:Int)+1)))→R t Y)
  (hE:(∀(i:Nat) x,xs[i]?=some x→0≤g x∧P x)→(∀(i:Nat) x y,xs[i]?=some x→xs[i+1]?=some y→g x<g y)→E):
  Jn (fun (J:Unit→Prop)=>Loop (fun (s:Int×Int) Y=>Ite (decide (s.2<(xs.length:Int))) (R s Y) (J ())) (-1,0)) (fun _=>E):=by
 refine Jn.mk (fun _=>E) (GT hm (fun t:Int×Int=>t.2) (fun i t=>-1≤t.1∧(∀y,i=0∨xs[i-1]?=some y→i≠0→t.1=g y)∧(∀(j:Nat) x,j<i→xs[j]?=some x→0≤g x∧P x)∧∀(j:Nat) x y,j+1<i→xs[j]?=some x→xs[j+1]?=some y→g x<g y) rfl ⟨by simp,fun y h h0=>absurd rfl h0,fun j x h=>by omega,fun j x y h=>by omega⟩ (fun i x t hx ht hI=>?_) (fun t h=>hE (fun j x hj=>h.2.2.1 j x (List.getElem?_eq_some_iff.1 hj).1 hj) (fun j x y hj hy=>h.2.2.2 j x y (List.getElem?_eq_some_iff.1 hy).1 hj hy))) (fun _ h=>h)
 obtain⟨h1,h2,h3,h4⟩:=hI
 refine hR i x t hx ht (fun hlt hP=>⟨rfl,by simp only;omega,fun y hy _=>?_,fun j y hj hy=>?_,fun j y z hj hy hz=>?_⟩)
 ·rcases hy with hy | hy
  ·omega
  ·rw [Nat.add_sub_cancel] at hy;rw [hx] at hy;cases hy;rfl
 ·by_cases e:j=i
  ·subst e;rw [hx] at hy;cases hy;exact⟨by omega,hP⟩
  ·exact h3 j y (by omega) hy
 ·by_cases e:j+1=i
  ·subst e;rw [hx] at hz;cases hz
   rw [←h2 y (.inr (by simpa using hy)) (by omega)];exact hlt
  ·exact h4 j y z (by omega) hy hz
section
variable {s:ApiSite} {st:ApiState}
theorem Gm {f:ApiFloor} {c:Int} {post:Int→Prop} (hp:post (kx f c)):Ql f c post:=by
 unfold Ql;unfold kx at hp
 refine Jor2 (Ite.mk (fun h=>?_) (fun h=>?_))
 ·rw [if_neg (by rw [Qp];simp at h;omega)] at hp;exact hp
 ·have:isC f c=true:=by rw [Qp];simp at h;omega
  rw [if_pos this] at hp;exact⟨_,Xl this,hp⟩
theorem Q1R {post:Bool→Prop} (hF:post false) (hT:Q32 st→post true):KG st post:=by
 unfold KG
 refine Jor5 (Ite.mk (fun _=>hF) (fun h=>?_))
 simp only [Bool.or_eq_false_iff,decide_eq_false_iff_not] at h
 have hw:Q32 st:=⟨by omega,by omega,by omega,by omega,by omega⟩
 have:=hw.sh;have:=hw.pp;have:=hw.dd;have:=hw.rb
 refine⟨by simp;omega,by simp;omega,by simp;omega,?_⟩
 refine Jn.mk (fun l:List Int=>l.length≤48) (XP (xs:=st.Robots) (by unfold maxLen;omega) (fun t:List Int×Int=>t.2) (fun i t=>t.1.length≤36+i) rfl (by simp;omega) (fun i x t hx ht hI=>?_) (fun t h=>by show t.1.length≤48;omega)) (fun l hl=>?_)
 ·have:=(List.getElem?_eq_some_iff.1 hx).1
  refine⟨by simp;omega,by show w64 (t.2+1)=_;rw [ht],by show (t.1++[x.Cell]).length≤_;simp;omega⟩
 ·exact Q3p (xs:=l) (by unfold maxLen;omega) (fun _ _=>True) (T:=fun i q=>Jn (fun (J42:Bool→Prop)=>∃x43,idx l i=some x43∧Ite (decide (x43<(-1152921504606846976))) (J42 true) (J42 (decide (x43>1152921504606846976)))) q) (fun i x hx q q1 q2=>Jn.ex x (Qe rfl hx) (Jor2 (by
   cases hb:(decide (x<(-1152921504606846976))||decide (x>1152921504606846976))
   ·exact q2 trivial
   ·exact q1))) hF (fun _=>hT hw)
theorem Q0T (k:OkApiState st) {i:Nat} {r:Qz} (hx:st.Robots[i]?=some r) {post:Bool→Prop} (hF:post false) (hT:RRob s st i r→post true):QY s st i post:=by
 unfold QY
 refine⟨r,Qe rfl hx,Gm ?_⟩
 refine Jn.mk (fun b=>b=decide (kx s.Floor r.Cell<0∨kx s.Floor r.Cell=0∨r.Load < -1∨r.Load≥st.Shelves.length∨r.Charge<0∨r.Charge>1000000∨r.Rest<0∨r.Rest>20000∨r.Mute<0∨r.Mute>20000)) ?_ (fun b hb=>?_)
 ·repeat' (first | refine Ite.mk (fun h=>?_) (fun h=>?_))
  all_goals (simp only [decide_eq_true_eq,decide_eq_false_iff_not,beq_iff_eq,beq_eq_false_iff_ne,ne_eq] at *;rw [Bool.eq_iff_iff];simp only [decide_eq_true_eq,true_iff];omega)
 ·subst hb
  refine Ite.mk (fun _=>hF) (fun h=>?_)
  simp only [decide_eq_false_iff_not,not_or] at h
  have hc:isC s.Floor r.Cell=true:=by
   cases e:isC s.Floor r.Cell with
   | true=>rfl
   | false=>have h1:=h.1;rw [kx,if_neg (by rw [e];simp)] at h1;omega
  have hk:kd s.Floor r.Cell≠0:=by have h1:=h.2.1;rw [kx,if_pos hc] at h1;exact h1
  refine Ite.mk (fun h1=>?_) (fun h1=>?_) <;> simp at h1
  ·obtain⟨n,hn⟩:=Int.eq_ofNat_of_zero_le h1
   have hlt:n<st.Shelves.length:=by omega
   have hsx:=List.getElem?_eq_getElem hlt
   refine Jn.mk (fun b=>b=true→RRob s st i r) (G9 k (Ite.mk (fun h2=>⟨_,Qe hn hsx,fun h3=>?_⟩) (fun _ h=>by cases h))) (fun b hb=>by cases b;exact hF;exact hT (hb rfl))
   simp at h2 h3
   exact⟨hc,hk,by omega,by omega,by omega,by omega,fun _=>⟨h2,by rw [hn];show st.Shelves.getD n 0=_;rw [Q16 hsx,h3]⟩⟩
  ·exact hT ⟨hc,hk,by omega,by omega,by omega,by omega,fun h2=>by omega⟩
theorem Q0U {l:List Int} (hl:l.length≤10000) {post:Int×Bool→Prop} (hp:∀b f,(f=false→l.Nodup)→post (b,f)):Kr l post:=by
 unfold Kr
 refine Jn.mk (fun t:Bool×Int=>t.1=false→l.Nodup) (GT (xs:=l) (by unfold maxLen;omega) (fun t:Bool×Int×Int=>t.2.2) (fun i t=>t.1=false→(l.take i).Nodup) rfl (fun _=>by simp) (fun i x t hx ht hI=>?_) (fun t h=>by rw [List.take_length] at h;exact h)) (fun t h=>hp _ _ h)
 have hlt:i<l.length:=(List.getElem?_eq_some_iff.1 hx).1
 refine Jn.mk (fun u:Bool×Int=>u.1=false→(l.take (i+1)).Nodup) ?_ (fun u hu=>⟨by show w64 (t.2.2+1)=_;rw [ht],hu⟩)
 refine Jn.mk (fun u:Bool×Int=>u.1=false→(l.take (i+1)).Nodup) ?_ (fun u hu=>hu)
 rw [ht]
 refine Q2j i (t0:=(t.1,t.2.1,0)) (fun t:Bool×Int×Int=>t.2.2) (fun m u=>u.1=false→(l.take i).Nodup∧∀(j:Nat) y,j<m→l[j]?=some y→y≠x) (by unfold maxLen;omega) rfl (fun h=>⟨hI h,fun j y hj=>by omega⟩) (fun m u hm hu hJ=>?_) (fun u h=>?_)
 ·have hy:=List.getElem?_eq_getElem (Nat.lt_trans hm hlt)
  generalize l[m]'_=y at hy
  refine Jn.mk (fun b=>b=false→x=y→u.1=true) ⟨x,Qe rfl hx,y,Qe hu hy,Ite.mk (fun h1=>Ite.mk (fun h2 _ _=>h2) (fun _ h=>by cases h)) (fun h1 _ h2=>by subst h2;simp at h1)⟩ (fun b hb=>?_)
  refine Jn.mk (fun v:Bool×Int=>v.1=false→u.1=false∧x≠y) (Ite.mk (fun h1=>⟨x,Qe rfl hx,fun h=>by cases h⟩) (fun h1 h2=>⟨h2,fun e=>by rw [hb h1 e] at h2;cases h2⟩)) (fun v hv=>⟨by show w64 (u.2.2+1)=_;rw [hu],fun h2=>?_⟩)
  obtain⟨e1,e2⟩:=hv h2
  obtain⟨g1,g2⟩:=hJ e1
  refine⟨g1,fun j z hj hz=>?_⟩
  by_cases e:j=m
  ·subst e;rw [hy] at hz;cases hz;exact fun h=>e2 h.symm
  ·exact g2 j z (by omega) hz
 ·intro hu
  obtain⟨g1,g2⟩:=h hu
  rw [QE hx,List.nodup_append]
  refine⟨g1,by simp,fun a ha b hb=>?_⟩
  simp at hb;subst hb
  obtain⟨j,hj⟩:=List.getElem?_of_mem ha
  have hjl:=(List.getElem?_eq_some_iff.1 hj).1
  rw [List.getElem?_take_of_lt (by rw [List.length_take] at hjl;omega)] at hj
  exact g2 j a (by rw [List.length_take] at hjl;omega) hj
theorem Q0E (k:OkApiState st) (hz:Sz st) {post:Bool→Prop} (hF:post false) (hT:RSt s st→post true):Kt s st post:=by
 unfold Kt
 refine Jor5 (Ite.mk (fun _=>hF) (fun h=>?_))
 simp only [Bool.or_eq_false_iff,decide_eq_false_iff_not,bne_eq_false_iff_eq] at h
 have q1:=hz.sh;have q2:=hz.rb;have q3:=hz.pp;have q4:=hz.dd;have q5:=hz.sk
 refine Q3p (xs:=st.Robots) (by unfold maxLen;omega) (fun i r=>RRob s st i r) (T:=fun i q=>QY s st i (fun x=>q (!x))) (fun i x hx q qt qf=>Q0T k hx qt qf) hF (fun h1=>?_)
 refine Q3p (xs:=st.Shelves) (by unfold maxLen;omega) (fun i c=>carB st i=false→kx s.Floor c=1∨kx s.Floor c=2) (T:=fun i q=>∃x40,idx st.Shelves i=some x40∧Ql s.Floor x40 (fun x41=>Jn (fun (J43:Bool→Prop)=>Qo st i (fun x44=>Ite (decide (x44<0)) (Ite (x41 != 1) (J43 (x41 != 2)) (J43 false)) (J43 false))) q)) (fun i x hx q qt qf=>⟨x,Qe rfl hx,Gm (Jn.mk' (G9 k ?_))⟩) hF (fun h2=>?_)
 ·refine Ite.mk (fun g1=>Ite.mk (fun g2=>?_) (fun g2=>?_)) (fun g1=>?_)
  ·cases g3:(kx s.Floor x != 2)
   ·exact qf fun _=>.inr (by simpa using g3)
   ·exact qt
  ·exact qf fun _=>.inl (by simpa using g2)
  ·refine qf fun g2=>?_
   unfold carB at g2;simp at g1 g2;omega
 refine Q3p (xs:=st.People) (by unfold maxLen;omega) (fun i c=>kx s.Floor c=4∨kx s.Floor c=5) (T:=fun i q=>∃x63,idx st.People i=some x63∧Ql s.Floor x63 (fun x64=>Jn (fun (J66:Bool→Prop)=>Ite (x64 != 4) (J66 (x64 != 5)) (J66 false)) q)) (fun i x hx q qt qf=>⟨x,Qe rfl hx,Gm (Jn.mk' ?_)⟩) hF (fun h3=>?_)
 ·refine Ite.mk (fun g2=>?_) (fun g2=>?_)
  ·cases g3:(kx s.Floor x != 5)
   ·exact qf (.inr (by simpa using g3))
   ·exact qt
  ·exact qf (.inl (by simpa using g2))
 refine Q4M (xs:=st.Dead) (by unfold maxLen;omega) (fun x=>x) (fun x=>x<s.Floor.Kind.length) (fun i x t hx ht Y hY=>Jn.mk' ⟨x,Qe ht hx,?_⟩) (fun h4 h5=>?_)
 ·refine Ite.mk (fun _=>Ite.t rfl hF) (fun g1=>?_)
  cases g2:decide (x≥(s.Floor.Kind.length:Int))
  ·refine Ite.f rfl ⟨x,Qe ht hx,?_⟩
   simp at g1 g2
   rw [ht];exact hY (by omega) (by omega)
  ·exact Ite.t rfl hF
 refine Q4M (xs:=st.Stuck) (by unfold maxLen;omega) (fun x:Yy=>x.Cell) (fun x=>kx s.Floor x.Cell=6∧1≤x.Left∧x.Left≤20000) (fun i x t hx ht Y hY=>⟨x,Qe ht hx,Jn.mk (fun b=>b=false→t.1<x.Cell∧kx s.Floor x.Cell=6∧1≤x.Left∧x.Left≤20000) ?_ (fun b hb=>Ite.mk (fun _=>hF) (fun g=>by rw [ht];exact hY (hb g).1 (hb g).2))⟩) (fun h6 h7=>?_)
 ·refine Ite.mk (fun _ h=>by cases h) (fun g1=>Gm (Ite.mk (fun _ h=>by cases h) (fun g2=>Ite.mk (fun _ h=>by cases h) (fun g3 g4=>?_))))
  simp at g1 g2 g3 g4
  exact⟨by omega,g2,by omega,by omega⟩
 refine Q1x hz k (fun l hl=>Q0U (by rw [hl.length_eq];have:=Q23 hz;omega) (fun b f hf=>?_))
 cases f with
 | true=>exact hF
 | false=>
  exact hT ⟨by omega,by omega,by omega,by omega,h1,h2,h3,fun i c hc=>Qp.2 ⟨(h4 i c hc).1,(h4 i c hc).2⟩,h5,fun i x hx=>(h6 i x hx).2,h7,hl.nodup_iff.1 (hf rfl)⟩
end
end Go.Taq
/- The mathematics, part NW: a step in the floor's reference. -/
set_option linter.unusedVariables false
namespace Go.Taq
open Go
theorem Q1o {f:ApiFloor} (h:RF f) {c d:Int} (hd:-1≤d∧d<1000) {post:Int×Bool→Prop} (hp:post (nx f c d)):Kz f c d post:=by
 unfold Kz
 refine WK h ?_
 have hn:=WD h (c:=c) (d:=d)
 have hb:=Q2C h c d
 unfold nx at hp
 refine Ite.mk (fun h1=>?_) (fun h1=>?_)
 ·simp at h1;rw [if_pos (.inl h1)] at hp;exact hp
 ·simp at h1
  have hc:isC f c=true:=by
   cases hc:isC f c
   ·exact absurd (by rw [nbr,if_pos hc];omega) (Int.not_lt.2 h1)
   ·rfl
  have hnb:isC f (nbr f c d)=true:=by rcases hb with e | e;(exact absurd h1 (by omega));exact e
  have hd6:0≤d∧d<6:=by
   unfold nbr at h1
   rw [if_neg (by simp [hc])] at h1
   repeat' split at h1
   all_goals omega
  have hw:IntKind.wrap .u64 d=d:=by simp [IntKind.wrap,IntKind.signed,IntKind.bits];omega
  rw [hw]
  refine Jn.eq (decide (kd f c=0∨kd f (nbr f c d)=0∨band .i64 (shrI .i64 (ot f c) d) 1=0)) ⟨_,Xl hc,Ite.mk (fun h2=>?_) (fun h2=>⟨_,Xl hnb,Ite.mk (fun h3=>?_) (fun h3=>⟨_,Q3C h hc,hd6.1,?_⟩)⟩)⟩ (Ite.mk (fun h2=>?_) (fun h2=>?_))
  ·simp at h2;simp [h2]
  ·simp at h3;simp [h3]
  ·simp at h2 h3;simp only [h2,h3,false_or];rfl
  ·simp only [decide_eq_true_eq] at h2
   rw [if_pos (.inr h2)] at hp;exact hp
  ·simp only [decide_eq_false_iff_not] at h2
   rw [if_neg (by simp only [not_or] at h2 ⊢;exact⟨by omega,h2⟩)] at hp
   refine Jn.eq (decide (4≤d∧(kd f c≠6∨kd f (nbr f c d)≠6))) (Ite.mk (fun h3=>⟨_,Xl hc,Ite.mk (fun h4=>?_) (fun h4=>⟨_,Xl hnb,?_⟩)⟩) (fun h3=>?_)) (Ite.mk (fun h3=>?_) (fun h3=>?_))
   ·simp at h3 h4;simp [h3,h4]
   ·simp at h3 h4;simp only [h3,h4]
    by_cases e:kd f (nbr f c d)=6 <;> simp [e]
   ·simp at h3;simp;omega
   ·simp only [decide_eq_true_eq] at h3
    rw [if_pos h3] at hp;exact hp
   ·simp only [decide_eq_false_iff_not] at h3
    rw [if_neg h3] at hp;exact hp
end Go.Taq
