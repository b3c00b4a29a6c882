/- The mathematics, several parts in one text. -/
import Derived.Test.YtdcfcldpjfepiaaGreatNF
import Derived.Test.YtdcfcldpjfepiaaGreatNB
/- The mathematics, part NG: being near is symmetric; zones are apart; what changes where a shelf is put. -/
set_option linter.unusedVariables false
set_option linter.unusedSimpArgs false
namespace Go.Taq
open Go
section
end
theorem Q6w {l:List Int} {i:Nat} (h:i<l.length):l.getD i 0∈l:=by rw [List.getD_eq_getElem?_getD,List.getElem?_eq_getElem h];exact List.getElem_mem h
end Go.Taq
/- The mathematics, part NV: zones in the reference. -/
set_option linter.unusedVariables false
namespace Go.Taq
open Go
theorem Q77 {α:Type} {xs:List α} {A:α→(Bool→Prop)→Prop} {B:Prop} {E:Int→α→Prop} (h:Jn (fun (J:Unit→Prop)=>Loop (fun (s:Int) Y=>Ite (decide (s<(xs.length:Int))) (∃x,idx xs s=some x∧Jn (A x) (fun b=>Ite b (E s x) (Y (w64 (s+1))))) (J ())) 0) (fun _=>B)) (hE:∀s x y,E s x→E s y) {F:Int→Prop} (hF:∀s x,E s x→F s):
  Jn (fun (J:Unit→Prop)=>Loop (fun (s:Int) Y=>Ite (decide (s<(xs.length:Int))) (Jn (fun J7=>∃x,idx xs s=some x∧A x J7) (fun b=>Ite b (F s) (Y (w64 (s+1))))) (J ())) 0) (fun _=>B):=by
 obtain⟨J,hJ,hL⟩:=h
 refine⟨J,hJ,fun X hX=>hL X (fun s Y hb hY=>hX s Y ?_ hY)⟩
 refine hb.cs (fun h1 h2=>Ite.t h1 ?_) (fun h1 h2=>Ite.f h1 h2)
 obtain⟨x,hx,J',g1,g2⟩:=h2
 exact⟨J',fun b hb=>(g1 b hb).cs (fun h1 h2=>Ite.t h1 (hF _ _ h2)) (fun h1 h2=>Ite.f h1 h2),x,hx,g2⟩
theorem Q4H {r:List Int} (hl:r.length≤1000000000) (ha:Asc r) {c:Int} {post:Bool→Prop} (hp:post (r.contains c)):KW r c post:=by
 unfold KW
 refine Jn.mk (fun i:Int=>0≤i∧i≤r.length∧(∀(j:Nat) x,(j:Int)<i→r[j]?=some x→x<c)∧(∀(j:Nat) x,i≤(j:Int)→r[j]?=some x→c≤x))
  (Loop.mk (fun s:Int×Int=>0≤s.1∧s.1≤s.2∧s.2≤r.length∧(∀(j:Nat) x,(j:Int)<s.1→r[j]?=some x→x<c)∧(∀(j:Nat) x,s.2≤(j:Int)→r[j]?=some x→c≤x)) (fun s=>(s.2-s.1).toNat) ⟨by simp,by simp,by simp,fun j x hj=>absurd hj (by simp),fun j x hj hx=>?_⟩ ?_) ?_
 ·have:=(List.getElem?_eq_some_iff.1 hx).1
  simp at hj;omega
 ·rintro⟨i,j⟩ ⟨h0,h1,h2,h3,h4⟩
  simp only at h0 h1 h2 h3 h4
  refine Ite.mk (fun hlt=>?_) (fun hge=>?_)
  ·simp only [decide_eq_true_eq] at hlt
   have e:w64 ((w64 (i+j)).tdiv 2)=(i+j) / 2:=by
    rw [Qx (x:=i+j) (by omega) (by omega),Int.tdiv_eq_ediv_of_nonneg (by omega),Qx (by omega) (by omega)]
   simp only []
   rw [e]
   have hmid:i≤(i+j) / 2∧(i+j) / 2<j:=by omega
   refine⟨_,Yu (by omega) (by omega),?_⟩
   generalize hx:r[((i+j) / 2).toNat]'(by omega)=x
   have hx':r[((i+j) / 2).toNat]?=some x:=by rw [List.getElem?_eq_getElem (by omega),hx]
   refine Jn.mk' (Ite.mk (fun h5=>?_) (fun h5=>?_))
   ·simp at h5
    rw [Qx (by omega) (by omega)]
    refine⟨⟨by omega,by simp only [];omega,by simp only [];omega,fun q y hq hy=>?_,h4⟩,by simp only [];omega⟩
    rcases Nat.lt_or_ge q ((i+j) / 2).toNat with h6 | h6
    ·exact Int.lt_trans (ha _ _ _ _ h6 hy hx') h5
    ·have:q=((i+j) / 2).toNat:=by simp only [] at hq;omega
     subst this;rw [hx'] at hy;cases hy;exact h5
   ·simp at h5
    refine⟨⟨by omega,by simp only [];omega,by simp only [];omega,h3,fun q y hq hy=>?_⟩,by simp only [];omega⟩
    rcases Nat.lt_or_ge ((i+j) / 2).toNat q with h6 | h6
    ·have:=ha _ _ _ _ h6 hx' hy;omega
    ·have:q=((i+j) / 2).toNat:=by simp only [] at hq;omega
     subst this;rw [hx'] at hy;cases hy;omega
  ·simp only [decide_eq_false_iff_not] at hge
   have:i=j:=by omega
   subst this
   exact⟨h0,h2,h3,h4⟩
 ·rintro i ⟨h0,h1,h3,h4⟩
  have hc:r.contains c=true↔∃j:Nat,r[j]?=some c:=by
   rw [List.contains_iff_mem];exact List.mem_iff_getElem?
  refine Ite.mk (fun h5=>?_) (fun h5=>?_)
  ·simp at h5
   cases hcc:r.contains c
   ·rw [hcc] at hp;exact hp
   ·obtain⟨j,hj⟩:=hc.1 hcc
    have:=(List.getElem?_eq_some_iff.1 hj).1
    have:=h3 j c (by omega) hj;omega
  ·simp at h5
   have hlt:i<r.length:=by omega
   refine⟨_,Yu h0 hlt,?_⟩
   generalize hx:r[i.toNat]'(by omega)=x
   have hx':r[i.toNat]?=some x:=by rw [List.getElem?_eq_getElem (by omega),hx]
   have:(x == c)=r.contains c:=by
    rw [Bool.eq_iff_iff,hc,beq_iff_eq]
    constructor
    ·rintro rfl;exact⟨_,hx'⟩
    ·rintro⟨j,hj⟩
     rcases Nat.lt_trichotomy j i.toNat with h6 | h6 | h6
     ·have:=h3 j c (by omega) hj;omega
     ·subst h6;rw [hx'] at hj;cases hj;rfl
     ·have:=ha _ _ _ _ h6 hx' hj
      have:=h4 i.toNat x (by omega) hx'
      omega
   rw [this];exact hp
theorem zlen {s:ApiSite} (h:Ws s) {z:Qy} (hz:z∈s.Zones):z.Cells.length≤s.Floor.Kind.length:=by
 have ha:=h.rs.asc z hz
 have hc:=h.rs.zc z hz
 have key:∀(i:Nat) x,z.Cells[i]?=some x→(i:Int)≤x:=by
  intro i
  induction i with
  | zero=>intro x hx;have:=QU.1 (hc x (List.mem_of_getElem? hx));omega
  | succ i ih=>
   intro x hx
   have hlt:=(List.getElem?_eq_some_iff.1 hx).1
   have hy:z.Cells[i]?=some (z.Cells[i]'(by omega)):=List.getElem?_eq_getElem _
   have:=ih _ hy
   have:=ha i (i+1) _ x (by omega) hy hx
   omega
 rcases Nat.eq_zero_or_pos z.Cells.length with e | e
 ·omega
 ·have hx:z.Cells[z.Cells.length-1]?=some (z.Cells[z.Cells.length-1]'(by omega)):=List.getElem?_eq_getElem _
  have h1:=key _ _ hx
  have h2:=QU.1 (hc _ (List.mem_of_getElem? hx))
  omega
theorem Q03 {s:ApiSite} (k:OkApiSite s) (h:Ws s) {c:Int} {post:Int→Prop} (hp:post (zn s c)):Kg s c post:=by
 unfold Kg
 refine Q11 k.Zones.1 (fun z:Qy=>z.Cells.contains c) (T:=fun z post=>KW z.Cells c post) (fun z hz post hq=>?_) hp
 have:=zlen h hz;have:=h.fl.len.1
 exact Q4H (by omega) (h.rs.asc z hz) hq
theorem Q3K {s:ApiSite} (k:OkApiSite s) (h:Ws s) {c t:Int} {post:Bool→Prop} (hp:post (opn s c t)):Xn s c t post:=by
 unfold Xn
 refine XY h.fl (Ite.mk (fun h1=>?_) (fun h1=>Q03 k h (Ite.mk (fun h2=>?_) (fun h2=>⟨_,Q52 (by simpa using h2),?_⟩))))
 ·simp at h1;unfold opn at hp;rw [h1] at hp;exact hp
 ·simp at h1 h2;unfold opn at hp;simpa [h1,h2] using hp
 ·simp at h1 h2;unfold opn at hp
  rw [h1,decide_eq_false (Int.not_lt.2 h2)] at hp
  exact Q77 (Q7N (post:=post) (k.Zones.2 _ (Q5S h2)).Shut.1 (inS t) (T:=fun x13 post=>Jn (fun (J12:Bool→Prop)=>Ite (decide (t≥x13.From)) (J12 (decide (t<x13.To))) (J12 false)) post) (fun x _ post hq=>YS hq) (by simpa using hp)) (fun _ _ _ h=>h) (fun _ _ h=>h)
theorem Q0y {s:ApiSite} (k:OkApiSite s) (h:Ws s) {c:Int} {post:Int→Prop} (hp:post (spd s c)):Km s c post:=by
 unfold Km
 refine Q03 k h (Ite.mk (fun h1=>?_) (fun h1=>⟨_,Q52 (by simpa using h1),?_⟩))
 ·simp at h1;rw [spd,if_pos h1] at hp;exact hp
 ·simp at h1;rw [spd,if_neg (by omega)] at hp;exact hp
end Go.Taq
/- The mathematics, part NJ: the reference of the rules; RulesTell. -/
set_option linter.unusedVariables false
set_option linter.unusedSimpArgs false
namespace Go.Taq
open Go
section
variable {s:ApiSite} {st:ApiState}
theorem Q2k (hf:RF s.Floor) {c:Int} {post:Bool→Prop} (hp:post (stB s c)):KI s c post:=by
 unfold KI
 refine XY hf (Ite.mk (fun h=>?_) (fun h=>Jn.ex _ (GN (by simpa using h)) (Jor2 ?_)))
 ·simp at h;unfold stB at hp;rw [h] at hp;exact hp
 ·simp at h;unfold stB at hp;rw [h] at hp;exact hp
theorem Q0o {i:Int} {post:ByteArray→Prop} (hp:post (clsS s i)):Kr s i post:=by
 have:=YP (s:=s) (i:=i) (post:=post) hp
 unfold XN at this
 unfold Kr
 exact this
theorem Q3p (ks:OkApiSite s) {a b:ByteArray} {post:Bool→Prop} (hp:post (nev s a b)):X2 s a b post:=by
 unfold X2
 refine Jn.mk (fun _=>nev s a b=false) (Loop.mk (fun t:Int=>∃n:Nat,t=(n:Int)∧n≤s.Aparts.length∧(!nosh a&&!nosh b&&(s.Aparts.take n).any fun x=>(seq x.A a&&seq x.B b)||(seq x.A b&&seq x.B a))=false) (fun t=>s.Aparts.length-t.toNat) ⟨0,rfl,by omega,by simp⟩ ?_) (fun _ h=>by rw [h] at hp;exact hp)
 rintro t ⟨n,rfl,hn,hI⟩
 refine Jn.mk (fun r=>r=(decide ((n:Int)<(s.Aparts.length:Int))&&(!nosh a&&!nosh b))) (Ite.mk (fun h=>Ite.mk (fun h1=>?_) (fun h1=>?_)) (fun h=>?_)) (fun r hr=>?_)
 ·rw [h];show false=(true&&(!(seq a ByteArray.empty)&&_));rw [h1];rfl
 ·rw [h];show (!(seq b ByteArray.empty))=(true&&(!(seq a ByteArray.empty)&&!(seq b ByteArray.empty)));rw [h1];rfl
 ·rw [h];rfl
 subst hr
 refine Ite.mk (fun h=>?_) (fun h=>?_)
 ·simp only [Bool.and_eq_true,decide_eq_true_eq,Bool.not_eq_true'] at h
  have hlt:n<s.Aparts.length:=by omega
  have hx:s.Aparts[n]?=some (s.Aparts[n]'hlt):=List.getElem?_eq_getElem hlt
  generalize s.Aparts[n]'hlt=x at hx
  have ha:nosh a=false:=h.2.1
  have hb:nosh b=false:=h.2.2
  refine⟨x,Qq rfl hx,Jn.mk (fun r=>r=((seq x.A a&&seq x.B b)||(seq x.A b&&seq x.B a))) ?_ (fun r hr=>Ite.mk (fun h1=>?_) (fun h1=>?_))⟩
  ·refine Ite.mk (fun h1=>Ite.mk (fun h2=>by rw [h1,h2];rfl) (fun h2=>Ite.mk (fun h3=>by rw [h1,h2,h3];simp) (fun h3=>by rw [h1,h2,h3];simp))) (fun h1=>Ite.mk (fun h3=>by rw [h1,h3];simp) (fun h3=>by rw [h1,h3];simp))
  ·rw [hr] at h1
   have:nev s a b=true:=by
    unfold nev apB;rw [ha,hb]
    simp only [Bool.not_false,Bool.true_and]
    exact List.any_eq_true.2 ⟨x,List.mem_of_getElem? hx,h1⟩
   rw [this] at hp;exact hp
  ·rw [Yt hlt ks.Aparts.1]
   refine⟨⟨n+1,rfl,by omega,?_⟩,by omega⟩
   rw [QI hx,List.any_append,ha,hb]
   rw [ha,hb] at hI
   simp only [Bool.not_false,Bool.true_and] at hI ⊢
   rw [hI];rw [hr] at h1;simp only [List.any_cons,List.any_nil,Bool.or_false,Bool.false_or];exact h1
 ·show nev s a b=false
  unfold nev apB
  cases ha:nosh a with
  | true=>simp
  | false=>
   cases hb:nosh b with
   | true=>simp
   | false=>
    have ha':seq a ByteArray.empty=false:=ha
    have hb':seq b ByteArray.empty=false:=hb
    rw [ha,hb] at h
    simp at h
    have:n=s.Aparts.length:=by omega
    rw [ha,hb,this,List.take_length] at hI
    exact hI
theorem Q22 (k:OkApiState st) {i:Int} {post:Int→Prop} (hp:post (carr st i)):Kx st i post:=by
 unfold Kx
 refine Jn.mk (fun _=>carr st i=-1) (Loop.mk (fun t:Int=>∃n:Nat,t=(n:Int)∧n≤st.Robots.length∧∀(j:Nat) r,j<n→st.Robots[j]?=some r→(r.Load == i)=false) (fun t=>st.Robots.length-t.toNat) ⟨0,rfl,by omega,fun j r h=>by omega⟩ ?_) (fun _ h=>by rw [h] at hp;exact hp)
 rintro t ⟨n,rfl,hn,hI⟩
 refine YS (Ite.mk (fun h=>?_) (fun h=>?_))
 ·simp only [Bool.and_eq_true,decide_eq_true_eq] at h
  have hlt:n<st.Robots.length:=by omega
  have hx:st.Robots[n]?=some (st.Robots[n]'hlt):=List.getElem?_eq_getElem hlt
  generalize st.Robots[n]'hlt=r at hx
  refine⟨r,Qq rfl hx,Ite.mk (fun h1=>?_) (fun h1=>?_)⟩
  ·have:carr st i=n:=by
    unfold carr;rw [if_neg (by omega)]
    rcases Xz (fun r:Q0=>r.Load == i) st.Robots with ⟨j,y,hy,e,hpj,hb⟩ | ⟨e,hb⟩
    ·have h2:¬n<j:=fun h2=>by have:=hb n r h2 hx;rw [h1] at this;cases this
     have h3:¬j<n:=fun h3=>by have:=hI j y h3 hy;rw [hpj] at this;cases this
     rw [e];omega
    ·have:=hb r (List.mem_of_getElem? hx);rw [h1] at this;cases this
   rw [this] at hp;exact hp
  ·rw [Yt hlt k.Robots.1]
   refine⟨⟨n+1,rfl,by omega,fun j y hj hy=>?_⟩,by omega⟩
   by_cases e:j=n
   ·subst e;rw [hx] at hy;cases hy;exact h1
   ·exact hI j y (by omega) hy
 ·show carr st i=-1
  unfold carr
  split
  ·rfl
  ·have:n=st.Robots.length:=by simp at h;omega
   subst this
   rcases Xz (fun r:Q0=>r.Load == i) st.Robots with ⟨j,y,hy,e,hpj,hb⟩ | ⟨e,hb⟩
   ·have:=hI j y (List.getElem?_eq_some_iff.1 hy).1 hy;rw [hpj] at this;cases this
   ·exact e
theorem Q18 (ks:OkApiSite s) (k:OkApiState st) (hf:RF s.Floor) (hl:st.Shelves.length≤1000000) (hc:∀c,c∈st.Shelves→isC s.Floor c=true) {post:List Int→Prop} (hp:∀l:List Int,l.length=s.Floor.Kind.length→(∀c,isC s.Floor c=true→idx l c=some (atS st c))→post l):K6 s st post:=by
 unfold K6
 have hk:=hf.len.1
 have hkm:s.Floor.Kind.length≤maxLen:=by unfold maxLen;omega
 refine⟨by omega,Jn.mk (fun l:List Int=>l.length=s.Floor.Kind.length∧∀j:Nat,j<s.Floor.Kind.length→l[j]?=some (-1)) (Loop.mk (fun t:List Int×Int=>∃n:Nat,t.2=(n:Int)∧n≤s.Floor.Kind.length∧t.1.length=s.Floor.Kind.length∧∀j:Nat,j<n→t.1[j]?=some (-1)) (fun t=>s.Floor.Kind.length-t.2.toNat) ⟨0,rfl,by omega,by simp,fun j h=>by omega⟩ ?_) (fun l0 hl0=>⟨by omega,?_⟩)⟩
 ·rintro⟨l,ti⟩ ⟨n,rfl,hn,hll,hI⟩
  simp only at hll hI
  dsimp only
  refine Ite.mk (fun h=>?_) (fun h=>?_)
  ·simp [hll] at h
   refine⟨_,Qq rfl (List.getElem?_eq_getElem (by omega:n<l.length)),⟨n+1,Yt h hkm,by omega,by simp [hll],fun j hj=>?_⟩,?_⟩
   ·rw [show ((n:Nat):Int).toNat=n by omega]
    by_cases e:j=n
    ·subst e;rw [List.getElem?_set_self (by omega)]
    ·rw [List.getElem?_set_ne (by omega)];exact hI j (by omega)
   ·rw [Yt h hkm]
    have e1:((n+1:Nat):Int).toNat=n+1:=by omega
    have e2:((n:Nat):Int).toNat=n:=by omega
    rw [e1,e2];omega
  ·simp [hll] at h
   exact⟨hll,fun j hj=>hI j (by omega)⟩
 ·refine Jn.mk (fun l:List Bool=>l.length=st.Shelves.length∧∀i:Nat,i<st.Shelves.length→l[i]?=some (carB st i))
   (Kh k.Robots.1 (fun t:List Bool×Int=>t.2) (fun n (t:List Bool×Int)=>t.1.length=st.Shelves.length∧∀i:Nat,i<st.Shelves.length→t.1[i]?=some ((st.Robots.take n).any fun r=>r.Load == (i:Int))) rfl ⟨by simp,fun i hi=>by simp [List.getElem?_replicate];omega⟩ (fun n r t hr ht hI=>?_) (fun t h=>⟨h.1,fun i hi=>by rw [h.2 i hi,List.take_length,Q3o (by omega)]⟩)) (fun cl hcl=>?_)
  ·refine Jn.mk (fun b=>b=(decide (r.Load≥0)&&decide (r.Load<(t.1.length:Int)))) (Ite.mk (fun h=>by rw [h];rfl) (fun h=>by rw [h];rfl)) (fun b hb=>Jn.mk (fun l:List Bool=>l.length=st.Shelves.length∧∀i:Nat,i<st.Shelves.length→l[i]?=some ((st.Robots.take (n+1)).any fun r=>r.Load == (i:Int))) (Ite.mk (fun h=>?_) (fun h=>?_)) (fun l hl=>⟨by rw [ht],hl⟩))
   ·rw [hb] at h;simp at h
    refine⟨_,Yu h.1 h.2,by simp [hI.1],fun i hi=>?_⟩
    rw [QI hr,List.any_append]
    by_cases e:i=r.Load.toNat
    ·subst e;rw [List.getElem?_set_self (by rw [hI.1];exact hi)]
     have:((r.Load.toNat:Nat):Int)=r.Load:=by omega
     simp [this]
    ·rw [List.getElem?_set_ne (by omega),hI.2 i hi]
     have:(r.Load == (i:Int))=false:=by simp;omega
     simp [this]
   ·rw [hb] at h;simp at h
    refine⟨hI.1,fun i hi=>?_⟩
    rw [QI hr,List.any_append,hI.2 i hi]
    have:(r.Load == (i:Int))=false:=by
     cases e:r.Load == (i:Int) with
     | false=>rfl
     | true=>have e':r.Load=(i:Int):=by simpa using e
             have:=h (by omega);have:=hI.1;omega
    simp [this]
  ·refine Jn.mk (fun l:List Int=>l.length=s.Floor.Kind.length∧∀c,isC s.Floor c=true→idx l c=some (atS st c))
    (Loop.mk (fun t:List Int×Int=>∃j:Nat,j≤st.Shelves.length∧t.2=(st.Shelves.length:Int)-j-1∧t.1.length=s.Floor.Kind.length∧∀q:Nat,q<s.Floor.Kind.length→t.1[q]?=some (fnat (fun i=>decide (st.Shelves.length-j≤i)&&atP st q i) st.Shelves.length)) (fun t=>(t.2+1).toNat) ⟨0,by omega,by rw [Qx (by omega) (by omega)];omega,hl0.1,fun q hq=>by rw [hl0.2 q hq,Nat.sub_zero,Q51]⟩ ?_) (fun l hl'=>hp l hl'.1 hl'.2)
   rintro⟨l,ti⟩ ⟨j,hj,rfl,hll,hI⟩
   simp only at hll hI
   dsimp only
   refine Ite.mk (fun h=>?_) (fun h=>?_)
   ·simp at h
    have hjl:j<st.Shelves.length:=by omega
    have hi:(st.Shelves.length:Int)-j-1=((st.Shelves.length-(j+1):Nat):Int):=by omega
    have hx:st.Shelves[st.Shelves.length-(j+1)]?=some (st.Shelves[st.Shelves.length-(j+1)]'(by omega)):=List.getElem?_eq_getElem _
    generalize st.Shelves[st.Shelves.length-(j+1)]'(by omega)=x at hx
    have hxc:=hc x (List.mem_of_getElem? hx)
    have hxb:=QU.1 hxc
    have e1:st.Shelves.length-j=st.Shelves.length-(j+1)+1:=by omega
    rw [hi]
    have hw:w64 (((st.Shelves.length-(j+1):Nat):Int)-1)=(st.Shelves.length:Int)-((j+1:Nat):Int)-1:=by rw [Qx (by omega) (by omega)];omega
    refine Jn.mk (fun b=>b=!carB st ((st.Shelves.length-(j+1):Nat):Int)) ⟨_,Qq rfl (hcl.2 _ (by omega)),Ite.mk (fun h1=>by rw [h1];rfl) (fun h1=>⟨x,Qq rfl hx,XY hf (by rw [hxc,h1];rfl)⟩)⟩ (fun b hb=>Jn.mk (fun l:List Int=>l.length=s.Floor.Kind.length∧∀q:Nat,q<s.Floor.Kind.length→l[q]?=some (fnat (fun i=>decide (st.Shelves.length-(j+1)≤i)&&atP st q i) st.Shelves.length)) (Ite.mk (fun h1=>?_) (fun h1=>?_)) (fun l hl'=>⟨⟨j+1,by omega,hw,hl'.1,hl'.2⟩,by rw [hw];omega⟩))
    ·rw [hb] at h1
     refine⟨x,Qq rfl hx,_,Yu hxb.1 (by omega),by simp [hll],fun q hq=>?_⟩
     rw [Q0A (by omega)]
     by_cases e:q=x.toNat
     ·subst e
      rw [List.getElem?_set_self (by omega),if_pos (by unfold atP;rw [Q37 hx];simp only [Bool.and_eq_true];exact⟨by simp;omega,h1⟩)]
     ·rw [List.getElem?_set_ne (by omega),hI q hq,e1,if_neg (by unfold atP;rw [Q37 hx];simp;intro h2;omega)]
    ·rw [hb] at h1
     refine⟨hll,fun q hq=>?_⟩
     rw [Q0A (by omega),hI q hq,e1,if_neg (by unfold atP;simp only [Bool.and_eq_true];exact fun h2=>by rw [h1] at h2;cases h2.2)]
   ·simp at h
    have:j=st.Shelves.length:=by omega
    subst this
    refine⟨hll,fun c hcc=>?_⟩
    have hb:=QU.1 hcc
    have:=hI c.toNat (by omega)
    rw [Nat.sub_self,Q3Z] at this
    rw [Qq (n:=c.toNat) (by omega) this]
    have e:((c.toNat:Nat):Int)=c:=by omega
    rw [e];rfl
theorem Q1y (ks:OkApiSite s) (k:OkApiState st) (hf:RF s.Floor) (hl:st.Shelves.length≤1000000) (hc:∀c,c∈st.Shelves→isC s.Floor c=true) {post:List Int→Prop} (hp:∀l:List Int,(∀c,isC s.Floor c=true→idx l c=some (atS st c))→post l):K6 s st post:=Q18 ks k hf hl hc (fun l _ h=>hp l h)
theorem Q2H (ks:OkApiSite s) (k:OkApiState st) (hf:RF s.Floor) (hl:st.Shelves.length≤1000000) (hc:∀c,c∈st.Shelves→isC s.Floor c=true) {c:Int} {post:Int→Prop} (hp:post (atS st c)):X8 s st c post:=by
 unfold X8
 refine XY hf (Ite.mk (fun h=>?_) (fun h=>Q1y ks k hf hl hc (fun l hl'=>⟨_,hl' c (by simpa using h),hp⟩)))
 simp at h
 have:atS st c=-1:=Q27 fun i hi=>by
  unfold atP
  have:=hc _ (Q6w hi)
  have e:(st.Shelves.getD i 0 == c)=false:=by
   cases e:st.Shelves.getD i 0 == c with
   | false=>rfl
   | true=>have e':st.Shelves.getD i 0=c:=by simpa using e
           rw [e',h] at this;cases this
  rw [e];rfl
 rw [this] at hp;exact hp
theorem Q42 (ks:OkApiSite s) (k:OkApiState st) (hf:RF s.Floor) (hl:st.Shelves.length≤1000000) {shelf c:Int} {post:Int→Prop} (hp:post (Q3s s st shelf c)):Xj s st shelf c post:=by
 unfold Xj
 refine Jor2 (Ite.mk (fun h=>?_) (fun h=>Q2k hf (Ite.mk (fun h2=>?_) (fun h2=>?_))))
 ·unfold Q3s at hp;rw [if_pos (by simp at h;omega)] at hp;exact hp
 ·unfold Q3s at hp;rw [if_neg (by simp at h;omega),if_pos (by simpa using h2)] at hp;exact hp
 ·unfold Q3s at hp;rw [if_neg (by simp at h;omega),if_neg (by simp at h2;simp [h2])] at hp
  refine Jn.mk (fun e=>(List.range st.Shelves.length).any (dHit st shelf c)=false∧e=if (List.range st.Shelves.length).any (dAp s st shelf c)=true then 17 else 0)
   (Wh (xs:=st.Shelves) k.Shelves.1 (fun t:Int×Int=>t.2) (fun n (t:Int×Int)=>(List.range n).any (dHit st shelf c)=false∧t.1=if (List.range n).any (dAp s st shelf c)=true then 17 else 0) rfl ⟨rfl,rfl⟩ (fun n x t hx ht hI=>?_) (fun t h=>h)) (fun e he=>by rw [he.1] at hp;rw [he.2];exact hp)
  have hn:=(List.getElem?_eq_some_iff.1 hx).1
  have hxg:=Q37 hx
  rw [ht]
  refine Jn.mk (fun e=>(List.range (n+1)).any (dHit st shelf c)=false∧e=if (List.range (n+1)).any (dAp s st shelf c)=true then 17 else 0) ?_ (fun e he=>⟨rfl,he⟩)
  rw [Wo,Wo,hI.1,hI.2]
  refine Jn.mk (fun b=>(b=true→dHit st shelf c n=false∧dAp s st shelf c n=false)∧(b=false→((n:Int) == shelf)=false∧carB st n=false)) (Ite.mk (fun h3=>⟨fun _=>⟨by unfold dHit;rw [h3];rfl,by unfold dAp;rw [h3];rfl⟩,fun h=>by cases h⟩) (fun h3=>Q22 k ⟨fun h6=>?_,fun h6=>?_⟩)) (fun b hb=>Ite.mk (fun h3=>?_) (fun h3=>?_))
  ·have:carB st n=true:=by unfold carB;simpa using h6
   exact⟨by unfold dHit;rw [this];simp,by unfold dAp;rw [this];simp⟩
  ·have:carB st n=false:=by unfold carB;simpa using h6
   exact⟨h3,this⟩
  ·rw [(hb.1 h3).1,(hb.1 h3).2];exact⟨by simp,by simp⟩
  ·obtain⟨g1,g2⟩:=hb.2 h3
   refine⟨x,Qq rfl hx,Ite.mk (fun h4=>?_) (fun h4=>?_)⟩
   ·have:dHit st shelf c n=true:=by unfold dHit;rw [g1,g2,hxg,h4];rfl
    rw [Q0E hn this] at hp;exact hp
   ·have e1:dHit st shelf c n=false:=by unfold dHit;rw [hxg,h4];simp
    have e2:dAp s st shelf c n=(Q1A s.Floor x c&&nev s (clsS s shelf) (clsS s n)):=by unfold dAp;rw [g1,g2,hxg];rfl
    rw [e1,e2]
    refine Jn.mk (fun b=>b=(Q1A s.Floor x c&&nev s (clsS s shelf) (clsS s n))) (Q3I hf (Ite.mk (fun h5=>Q0o (Q0o (Q3p ks (by rw [h5];rfl)))) (fun h5=>by rw [h5];rfl))) (fun b hb=>?_)
    rw [←hb]
    refine Jn.mk (fun e=>e=if ((List.range n).any (dAp s st shelf c)||b)=true then 17 else 0) (Ite.mk (fun h5=>by rw [h5];simp) (fun h5=>by rw [h5];simp)) (fun e he=>⟨by simp,he⟩)
end
theorem S_ref07_Same' {a b:List Int} (hm:a.length≤maxLen) {post:Bool→Prop} (hp:a=b→post true) (hab:a=b):V_taquinref07_Same a b post:=by
 subst hab
 unfold V_taquinref07_Same
 refine Ite.f (by simp) ?_
 refine Jn.mk (fun _=>True) (Kh hm (fun t=>t) (fun _ _=>True) rfl trivial (fun n x t hx ht _=>⟨x,by rw [ht];exact Qq rfl hx,Ite.f (by simp) ⟨by rw [ht],trivial⟩⟩) (fun _ _=>trivial)) (fun _ _=>hp rfl)
end Go.Taq
/- The mathematics, part NW: a step in the floor's reference. -/
set_option linter.unusedVariables false
namespace Go.Taq
open Go
theorem Q1t {f:ApiFloor} (h:RF f) {c d:Int} (hd:-1≤d∧d<1000) {post:Int×Bool→Prop} (hp:post (nx f c d)):KC f c d post:=by
 unfold KC
 refine ZU h ?_
 have hn:=Q0b h (c:=c) (d:=d)
 have hb:=Q5C h c d
 unfold nx at hp
 refine Ite.mk (fun h1=>?_) (fun h1=>?_)
 ·simp at h1;rw [if_pos (.inl h1)] at hp;exact hp
 ·simp at h1
  have hc:isC f c=true:=by
   cases hc:isC f c
   ·exact absurd (by rw [nbr,if_pos hc];omega) (Int.not_lt.2 h1)
   ·rfl
  have hnb:isC f (nbr f c d)=true:=by rcases hb with e | e;(exact absurd h1 (by omega));exact e
  have hd6:0≤d∧d<6:=by
   unfold nbr at h1
   rw [if_neg (by simp [hc])] at h1
   repeat' split at h1
   all_goals omega
  have hw:IntKind.wrap .u64 d=d:=by simp [IntKind.wrap,IntKind.signed,IntKind.bits];omega
  rw [hw]
  refine Jn.eq (decide (kd f c=0∨kd f (nbr f c d)=0∨band .i64 (shrI .i64 (ot f c) d) 1=0)) ⟨_,GN hc,Ite.mk (fun h2=>?_) (fun h2=>⟨_,GN hnb,Ite.mk (fun h3=>?_) (fun h3=>⟨_,Q6D h hc,hd6.1,?_⟩)⟩)⟩ (Ite.mk (fun h2=>?_) (fun h2=>?_))
  ·simp at h2;simp [h2]
  ·simp at h3;simp [h3]
  ·simp at h2 h3;simp only [h2,h3,false_or];rfl
  ·simp only [decide_eq_true_eq] at h2
   rw [if_pos (.inr h2)] at hp;exact hp
  ·simp only [decide_eq_false_iff_not] at h2
   rw [if_neg (by simp only [not_or] at h2 ⊢;exact⟨by omega,h2⟩)] at hp
   refine Jn.eq (decide (4≤d∧(kd f c≠6∨kd f (nbr f c d)≠6))) (Ite.mk (fun h3=>⟨_,GN hc,Ite.mk (fun h4=>?_) (fun h4=>⟨_,GN hnb,?_⟩)⟩) (fun h3=>?_)) (Ite.mk (fun h3=>?_) (fun h3=>?_))
   ·simp at h3 h4;simp [h3,h4]
   ·simp at h3 h4;simp only [h3,h4]
    by_cases e:kd f (nbr f c d)=6 <;> simp [e]
   ·simp at h3;simp;omega
   ·simp only [decide_eq_true_eq] at h3
    rw [if_pos h3] at hp;exact hp
   ·simp only [decide_eq_false_iff_not] at h3
    rw [if_neg h3] at hp;exact hp
end Go.Taq
