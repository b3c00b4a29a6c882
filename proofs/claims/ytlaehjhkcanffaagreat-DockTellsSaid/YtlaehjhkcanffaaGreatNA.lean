/- The mathematics, several parts in one text. -/
import Derived.Test.YtlaehjhkcanffaaGreatMR0
import Derived.Test.YtlaehjhkcanffaaGreatVc
import Derived.Test.YtlaehjhkcanffaaGreatLibZR
/- The mathematics, part R: right sites. -/
set_option linter.unusedVariables false
namespace Go.Taq
open Go
theorem GS {l:List Int} (hm:l.length≤maxLen) {n:Int} {post:Bool→Prop} (hp:post (l.contains n)):Qx l n post:=by
 unfold Qx
 exact Q4w hm (p:=fun x=>x == n) (by rw [any_beq];exact hp)
theorem Za {f:ApiFloor} (h:RF f) {post:Int→Prop} (hp:post f.Kind.length):K8 f post:=by
 unfold K8;rw [h.size];exact hp
theorem Xu {f:ApiFloor} (h:RF f) {c:Int} {post:Bool→Prop} (hp:post (isC f c)):Qk f c post:=by
 unfold Qk
 refine Jn.mk' (Ite.mk (fun h1=>Za h ?_) (fun h1=>?_))
 ·have:isC f c=decide (c<f.Kind.length):=by simp at h1;simp [isC,h1]
  rw [←this];exact hp
 ·have:isC f c=false:=by simp at h1;simp [isC];omega
  rw [←this];exact hp
theorem Q17 {f:ApiFloor} (h:RF f) {x y z:Int} {post:Int→Prop} (hp:post (Xr f x y z)):Qm f x y z post:=by
 unfold Qm
 refine Jor6 (Ite.mk (fun h1=>?_) (fun h1=>?_))
 ·have:Xr f x y z=-1:=by
   unfold Xr
   rw [if_neg]
   simp only [Bool.or_eq_true,decide_eq_true_eq] at h1
   omega
  rw [←this];exact hp
 ·have:0≤x∧x<f.W∧0≤y∧y<f.H∧0≤z∧z<f.D:=by
   simp only [Bool.or_eq_false_iff,decide_eq_false_iff_not] at h1
   omega
  rw [Q2N h this];exact hp
theorem Q2A {f:ApiFloor} (h:RF f) {c:Int} (hc:isC f c=true) {post:(Int×Int×Int)→Prop} (hp:post (pX f c,pY f c,pZ f c)):KT f c post:=by
 unfold KT
 refine Xu h ?_
 rw [hc]
 refine Ite.f rfl ?_
 rw [Qp] at hc
 have w:=h.W1;have hh:=h.H1;have hd:=h.D1;have wh:=h.wh;have hl:=h.len.1
 have e1:0≤c / f.W∧c / f.W≤c:=⟨Int.ediv_nonneg hc.1 (by omega),Int.ediv_le_self _ hc.1⟩
 have e2:0≤c / f.W / f.H∧c / f.W / f.H≤c / f.W:=⟨Int.ediv_nonneg e1.1 (by omega),Int.ediv_le_self _ e1.1⟩
 refine⟨by omega,by omega,by omega,?_⟩
 rw [Int.tmod_eq_emod_of_nonneg hc.1,Int.tdiv_eq_ediv_of_nonneg hc.1,Q6 (x:=c / f.W) (by omega) (by omega),Int.tmod_eq_emod_of_nonneg e1.1,Int.tdiv_eq_ediv_of_nonneg e1.1,Q6 (x:=c / f.W / f.H) (by omega) (by omega)]
 exact⟨by omega,by omega,hp⟩
theorem WK {f:ApiFloor} (h:RF f) {c d:Int} {post:Int→Prop} (hp:post (nbr f c d)):QR f c d post:=by
 unfold QR
 refine Xu h (Ite.mk (fun h1=>?_) (fun h1=>?_))
 ·simp only [Bool.not_eq_true'] at h1
  rw [nbr,if_pos h1] at hp;exact hp
 ·simp only [Bool.not_eq_false'] at h1
  refine Q2A h h1 ?_
  have hb:=p_bd h h1
  have w:=h.W4;have hh:=h.H4;have hd:=h.D4
  rw [nbr,if_neg (by simp [h1])] at hp
  simp only [Q4K,beq_iff_eq]
  repeat' split at hp
  all_goals (repeat' split) <;> first | omega | skip
  all_goals first | (refine Q17 h ?_;(try simp only []);rw [Q6 (by omega) (by omega)];exact hp) | exact hp
theorem Gk {x:ByteArray} {post:Bool→Prop} (hx:OkS x) (hF:post false) (hT:1≤x.size→x.size≤20→post true):Qy x post:=by
 unfold Qy
 refine Jn.mk (fun _=>True) (Loop.upto x.size (fun _=>True) trivial (fun i hi _ Y hY=>Ite.lt (by omega) ?_) (fun _=>Ite.nlt (by omega) trivial)) (fun _ _=>?_)
 ·have hl:x.data.toList.length=x.size:=by simp
  refine⟨_,Qe rfl (List.getElem?_eq_getElem (by omega)),Jn.mk (fun _=>True) (by simp [Ite]) (fun b7 _=>Jn.mk (fun _=>True) (by simp [Ite]) (fun b10 _=>Ite.mk (fun _=>hF) (fun _=>?_)))⟩
  rw [GU hi (by simpa [OkS] using hx)]
  exact hY trivial
 ·refine Q3j ?_
  cases hb:(decide ((x.size:Int)≥1)&&decide ((x.size:Int)≤20))
  ·exact hF
  ·simp only [Bool.and_eq_true,decide_eq_true_eq] at hb
   exact hT (by omega) (by omega)
def shAt (l:List ApiShelf) (c:Int):Int:=fidx (fun x:ApiShelf=>x.Cell == c) l
def zAt (l:List ApiZone) (c:Int):Bool:=l.any fun z=>z.Cells.contains c
def rbAt (l:List ApiStart) (c:Int):Bool:=l.any fun x=>x.Cell == c
def Q0k (k:Int):Bool:=(k == 1)||(k == 2)
def Q14 (k:Int):Bool:=(k != 0)&&(k != 4)&&(k != 5)
def nosh (x:ByteArray):Bool:=seq x ByteArray.empty
def apB (l:List ApiApart) (a b:ByteArray):Bool:=!nosh a&&!nosh b&&l.any fun x=>(seq x.A a&&seq x.B b)||(seq x.A b&&seq x.B a)
theorem Ga {l:List ApiShelf} (hm:l.length≤maxLen) {c:Int} {post:Int→Prop} (hp:post (shAt l c)):Qv l c post:=by
 unfold Qv;exact Q3x hm hp
theorem Zo {l:List ApiStart} (hm:l.length≤maxLen) {c:Int} {post:Bool→Prop} (hp:post (rbAt l c)):K6 l c post:=by
 unfold K6;exact Q4w hm hp
theorem Q05 {l:List ApiZone} (hm:l.length≤maxLen) (hc:∀z,z∈l→z.Cells.length≤maxLen) {c:Int} {post:Bool→Prop} (hp:post (zAt l c)):Kb l c post:=by
 unfold Kb;exact Q2Y hm (fun z=>z.Cells.contains c) (T:=fun z post=>Qx z.Cells c post) (fun z hz post h=>GS (hc z hz) h) hp
theorem Q0Z {l:List ApiZone} (hm:l.length≤maxLen) {c:ByteArray} {post:Int→Prop} (hp:post (fidx (fun z:ApiZone=>seq z.Name c) l)):Kq l c post:=by
 unfold Kq;exact Q3x hm hp
theorem WQ {k:Int} {post:Bool→Prop} (hp:post (Q0k k)):QS k post:=by
 unfold QS;exact Jor2 hp
theorem Q0D {k:Int} {post:Bool→Prop} (hp:post (Q14 k)):Kn k post:=by
 unfold Kn;exact Q52 hp
theorem ZF {f:ApiFloor} (hm:f.Kind.length≤maxLen) {post:Bool→Prop} (hp:post (f.Kind.contains 3)):K4 f post:=by
 unfold K4;exact GS hm hp
theorem YC {l:List ApiApart} (hm:l.length≤maxLen) {a b:ByteArray} {post:Bool→Prop} (hp:post (apB l a b)):K0 l a b post:=by
 unfold K0
 unfold apB nosh at hp
 cases ha:seq a ByteArray.empty <;> cases hb:seq b ByteArray.empty <;> rw [ha,hb] at hp <;> simp only [Bool.not_false,Bool.not_true,Bool.true_and,Bool.false_and,Bool.and_false,Q3i,Q2V] at hp ⊢
 ·have:=Q2Y hm (fun x:ApiApart=>(seq x.A a&&seq x.B b)||(seq x.A b&&seq x.B a)) (T:=fun x post=>Jn (fun (J11:Bool→Prop)=>Ite (seq x.A a) (Ite (seq x.B b) (J11 true) (Ite (seq x.A b) (J11 (seq x.B a)) (J11 false))) (Ite (seq x.A b) (J11 (seq x.B a)) (J11 false))) post) (fun x _ post h=>?_) hp
  ·refine Jn.mk (fun _=>post false) ?_ (fun _ h=>h)
   obtain⟨J,hJ,hL⟩:=this
   intro X hX
   refine hL X (fun s Y hb hY=>hX s Y ?_ hY)
   refine hb.cs (fun h1 h2=>?_) (fun h1 h2=>?_)
   ·obtain⟨x,hx,hT⟩:=h2
    refine Jn.eq true (Ite.t h1 rfl) (Ite.t rfl ?_)
    obtain⟨J',h3,h4⟩:=hT
    exact⟨J',h3,⟨x,hx,h4⟩⟩
   ·exact Jn.eq false (Ite.f h1 rfl) (Ite.f rfl (hJ () h2))
  ·refine Jn.mk' ?_
   revert h
   cases seq x.A a <;> cases seq x.B b <;> cases seq x.A b <;> cases seq x.B a <;> simp
 all_goals
  refine Jn.mk (fun _=>post false) ?_ (fun _ h=>h)
  refine Loop.step ?_
  refine Jn.eq false ?_ (Ite.f rfl hp)
  exact Ite.mk (fun _=>rfl) (fun _=>rfl)
def G8:Int→List GY→Prop
 | _,[]=>True
 | t,x :: r=>t≤x.From∧x.From<x.To∧x.To≤20000∧G8 x.To r
theorem Q0u {l:List GY} (hm:l.length≤maxLen) {post:Bool→Prop} (hF:post false) (hT:G8 0 l→post true):Kv l post:=by
 unfold Kv
 refine Jn.mk (fun _=>G8 0 l) (Loop.inv l.length (fun i (s:Int×Int)=>s.2=(i:Int)∧(G8 s.1 (l.drop i)→G8 0 l)) ⟨rfl,fun h=>by simpa using h⟩ (fun i s hi h=>?_) (fun s h=>?_)) (fun _ h=>hT h)
 ·obtain⟨t,j⟩:=s
  obtain⟨e,h⟩:=h
  simp only at e h;subst e
  have hx:l[i]?=some (l[i]'hi):=List.getElem?_eq_getElem hi
  generalize hxe:l[i]'hi=x at hx
  have hd:l.drop i=x :: l.drop (i+1):=by rw [List.drop_eq_getElem_cons hi,hxe]
  refine Ite.lt (by simp only [];omega) (Jn.ex x (Qe rfl hx) (Jor3 (Ite.mk (fun _=>hF) (fun h1=>⟨x,Qe rfl hx,?_⟩))))
  ·simp only [Bool.or_eq_false_iff,decide_eq_false_iff_not] at h1
   refine⟨GU hi hm,fun h2=>h ?_⟩
   rw [hd]
   exact⟨by omega,by omega,by omega,h2⟩
 ·obtain⟨e,h⟩:=h
  refine Ite.nlt (by rw [e];omega) (h ?_)
  rw [List.drop_length];trivial
def W6 (s:ApiSite) (c:Int):Bool:=Q0k (kd s.Floor c)&&decide (shAt s.Shelves c<0)
theorem ZS {s:ApiSite} (k:OkApiSite s) {z:ApiZone} (hz:z.Cells.length≤maxLen) (hc:∀c,c∈z.Cells→isC s.Floor c=true) {post:Int→Prop} (hp:post (z.Cells.countP (W6 s):Nat)):Kg s z post:=by
 unfold Kg
 refine Jn.mk (fun n=>n=(z.Cells.countP (W6 s):Nat)) (Loop.inv z.Cells.length (fun i (t:Int×Int)=>t.2=(i:Int)∧t.1=((z.Cells.take i).countP (W6 s):Nat)) ⟨rfl,rfl⟩ (fun i t hi h=>?_) (fun t h=>?_)) (fun _ h=>h▸hp)
 ·obtain⟨n,j⟩:=t
  obtain⟨e,h⟩:=h
  simp only at e h;subst e
  have hx:z.Cells[i]?=some (z.Cells[i]'hi):=List.getElem?_eq_getElem hi
  generalize hxe:z.Cells[i]'hi=x at hx
  have hcx:=hc x (List.mem_of_getElem? hx)
  have e1:z.Cells.take (i+1)=z.Cells.take i++[x]:=by rw [List.take_add_one,hx];rfl
  have hle:(z.Cells.take i).countP (W6 s)≤i:=Nat.le_trans List.countP_le_length (by simp;omega)
  refine Ite.lt (by simp only [];omega) (Jn.eq (W6 s x) ⟨x,Qe rfl hx,_,Xl hcx,WQ (Ite.mk (fun h1=>Ga k.Shelves.1 ?_) (fun h1=>?_))⟩ ?_)
  ·simp [W6,h1]
  ·simp [W6,h1]
  ·refine Jn.eq (n+(if W6 s x=true then 1 else 0)) (Ite.mk (fun h1=>?_) (fun h1=>?_)) ⟨GU hi hz,?_⟩
   ·simp only [h1,if_true]
    rw [Q6 (by omega) (by simp [maxLen] at hz;omega)]
   ·simp [h1]
   ·simp only []
    rw [e1,List.countP_append,h]
    cases hb:W6 s x <;> simp [hb]
 ·obtain⟨e,h⟩:=h
  refine Ite.nlt (by rw [e];omega) ?_
  rw [h,List.take_length]
end Go.Taq
/- The mathematics, part C: lists: searches, halving. -/
set_option linter.unusedVariables false
namespace Go.Taq
open Go
theorem Q01 {xs:List Int} {v:Int} (hl:xs.length≤maxLen) {post:Int→Prop} (hp:post (fidx (fun x=>v == x) xs)):QW xs v post:=by
 unfold QW
 have hm:(xs.length:Int)≤9223372036854775807:=by simp [maxLen] at hl;omega
 refine Jn.mk (fun _=>post (-1)) (Loop.find xs (fun x=>v == x) (fun i x hi hx hpx=>?_) (fun i x hi hx hpx hf=>?_) (fun hn hf=>?_)) (fun _ h=>h)
 ·refine Ite.t (by simp;omega) ⟨x,Qe rfl hx,Ite.f hpx ?_⟩
  rw [Q6 (by omega) (by omega)];omega
 ·refine Ite.t (by simp;omega) ⟨x,Qe rfl hx,Ite.t hpx ?_⟩
  simpa [fidx,hf] using hp
 ·refine Ite.f (by simp) ?_
  simpa [fidx,hf] using hp
theorem Gz {xs:List Int} {v:Int} (hl:xs.length≤maxLen) {post:Bool→Prop} (hp:post (xs.contains v)):Qr xs v post:=by
 unfold Qr
 refine Q01 hl ?_
 have:decide (fidx (fun x=>v == x) xs≥0)=xs.contains v:=by rw [Zm,List.contains_eq_any_beq]
 rw [this];exact hp
def Asc (xs:List Int):Prop:=∀(i j:Nat) x y,i<j→xs[i]?=some x→xs[j]?=some y→x<y
theorem We {xs:List Int} {t:Int} (hl:xs.length≤maxLen) (ha:Asc xs) {post:Int×Bool→Prop} (hp:∀i,post (i,xs.contains t)):Qq xs t post:=by
 unfold Qq
 have hm:(xs.length:Int)≤9223372036854775807:=by simp [maxLen] at hl;omega
 refine Jn.mk (fun i:Int=>0≤i∧i≤xs.length∧(∀(j:Nat) x,(j:Int)<i→xs[j]?=some x→x<t)∧(∀(j:Nat) x,i≤(j:Int)→xs[j]?=some x→t≤x))
  (Loop.mk (fun s:Int×Int=>0≤s.1∧s.1≤s.2∧s.2≤xs.length∧(∀(j:Nat) x,(j:Int)<s.1→xs[j]?=some x→x<t)∧(∀(j:Nat) x,s.2≤(j:Int)→xs[j]?=some x→t≤x)) (fun s=>(s.2-s.1).toNat) ⟨by simp,by simp,by simp,fun j x hj=>absurd hj (by simp),fun j x hj hx=>?_⟩ ?_) ?_
 ·have:=(List.getElem?_eq_some_iff.1 hx).1
  simp at hj;omega
 ·rintro⟨i,j⟩ ⟨h0,h1,h2,h3,h4⟩
  simp only at h0 h1 h2 h3 h4
  refine Ite.mk (fun hlt=>?_) (fun hge=>?_)
  ·simp only [decide_eq_true_eq] at hlt
   have e:IntKind.wrap .i64 (shrI .u64 (IntKind.wrap .u64 (w64 (i+j))) 1)=(i+j) / 2:=by
    have e1:IntKind.wrap .u64 (w64 (i+j))=i+j:=by simp [w64,IntKind.wrap,IntKind.signed,IntKind.bits];omega
    rw [e1,shrI]
    have e2:(i+j).fdiv (2 ^ (min (1:Int).toNat IntKind.u64.bits))=(i+j) / 2:=by
     rw [Int.fdiv_eq_ediv_of_nonneg _ (by decide)];rfl
    rw [e2]
    exact Q6 (by omega) (by omega)
   simp only []
   rw [e]
   have hmid:i≤(i+j) / 2∧(i+j) / 2<j:=by omega
   refine⟨_,Wl (by omega) (by omega),?_⟩
   generalize hx:xs[((i+j) / 2).toNat]'(by omega)=x
   have hx':xs[((i+j) / 2).toNat]?=some x:=by rw [List.getElem?_eq_getElem (by omega),hx]
   unfold XH Xc
   refine Jn.eq (decide (x<t)) (Ite.f (by simp) rfl) ?_
   refine Jn.mk (fun s:Int×Int=>s=(if x<t then (i+j) / 2+1 else i,if x<t then j else (i+j) / 2)) (Ite.mk (fun h5=>?_) (fun h5=>?_)) ?_
   ·simp at h5;simp only [h5,if_true]
    rw [Q6 (by omega) (by omega)]
   ·simp at h5;simp [Int.not_lt.2 h5]
   ·rintro⟨a,b⟩ e3
    cases e3
    by_cases h5:x<t
    ·simp only [h5,if_true]
     refine⟨⟨by omega,by omega,by omega,fun q y hq hy=>?_,h4⟩,by omega⟩
     rcases Nat.lt_or_ge q ((i+j) / 2).toNat with h6 | h6
     ·exact Int.lt_trans (ha _ _ _ _ h6 hy hx') h5
     ·have:q=((i+j) / 2).toNat:=by omega
      subst this;rw [hx'] at hy;cases hy;exact h5
    ·simp only [h5,if_false]
     refine⟨⟨by omega,by omega,by omega,h3,fun q y hq hy=>?_⟩,by omega⟩
     rcases Nat.lt_or_ge ((i+j) / 2).toNat q with h6 | h6
     ·have:=ha _ _ _ _ h6 hx' hy;omega
     ·have:q=((i+j) / 2).toNat:=by omega
      subst this;rw [hx'] at hy;cases hy;omega
  ·simp only [decide_eq_false_iff_not] at hge
   have:i=j:=by omega
   subst this
   exact⟨h0,h2,h3,h4⟩
 ·rintro i ⟨h0,h1,h3,h4⟩
  have hc:xs.contains t=true↔∃j:Nat,xs[j]?=some t:=by
   rw [List.contains_iff_mem];exact List.mem_iff_getElem?
  refine Jn.eq (xs.contains t) (Ite.mk (fun hlt=>?_) (fun hge=>?_)) (hp i)
  ·simp only [decide_eq_true_eq] at hlt
   refine⟨_,Wl h0 hlt,?_⟩
   generalize hx:xs[i.toNat]'(by omega)=x
   have hx':xs[i.toNat]?=some x:=by rw [List.getElem?_eq_getElem (by omega),hx]
   refine Ite.mk (fun h5=>?_) (fun h5=>?_)
   ·simp at h5;subst h5
    exact (hc.2 ⟨_,hx'⟩).symm
   ·unfold KA
    refine Ite.f (by simp) ?_
    simp at h5
    cases hcc:xs.contains t
    ·rfl
    ·obtain⟨j,hj⟩:=hc.1 hcc
     exfalso
     rcases Nat.lt_or_ge j i.toNat with h6 | h6
     ·have:=h3 j t (by omega) hj;omega
     ·rcases Nat.lt_or_ge i.toNat j with h7 | h7
      ·have:=ha _ _ _ _ h7 hx' hj
       have:=h4 i.toNat x (by omega) hx'
       omega
      ·have:j=i.toNat:=by omega
       subst this;rw [hx'] at hj;cases hj;exact h5 rfl
  ·simp only [decide_eq_false_iff_not] at hge
   cases hcc:xs.contains t
   ·rfl
   ·obtain⟨j,hj⟩:=hc.1 hcc
    have:=(List.getElem?_eq_some_iff.1 hj).1
    have:=h3 j t (by omega) hj;omega
end Go.Taq
/- The mathematics, part D: zones, what is open, what is taken; a step of a walk. -/
set_option linter.unusedVariables false
namespace Go.Taq
open Go
structure RS (s:ApiSite):Prop where
 fl:RF s.Floor
 asc:∀z,z∈s.Zones→Asc z.Cells
 zc:∀z,z∈s.Zones→∀c,c∈z.Cells→isC s.Floor c=true
 sp:∀z,z∈s.Zones→1≤z.Speed∧z.Speed≤100
def zn (s:ApiSite) (c:Int):Int:=fidx (fun z:ApiZone=>z.Cells.contains c) s.Zones
def inS (t:Int) (x:GY):Bool:=decide (x.From≤t)&&decide (t<x.To)
def spd (s:ApiSite) (c:Int):Int:=if zn s c<0 then 1 else (s.Zones.getD (zn s c).toNat default).Speed
def opn (s:ApiSite) (c t:Int):Bool:=isC s.Floor c&&(decide (zn s c<0)||!((s.Zones.getD (zn s c).toNat default).Shut.any (inS t)))
theorem zn_lt {s:ApiSite} {c:Int}:-1≤zn s c∧zn s c<s.Zones.length:=Q2I
theorem Q3u {s:ApiSite} {c:Int} (h:0≤zn s c):idx s.Zones (zn s c)=some (s.Zones.getD (zn s c).toNat default):=by
 have:=zn_lt (s:=s) (c:=c)
 rw [Wl h (by omega),List.getD_eq_getElem?_getD,List.getElem?_eq_getElem (by omega)];rfl
theorem Q4L {s:ApiSite} {c:Int} (h:0≤zn s c):s.Zones.getD (zn s c).toNat default∈s.Zones:=by
 have:=zn_lt (s:=s) (c:=c)
 rw [List.getD_eq_getElem?_getD,List.getElem?_eq_getElem (by omega)];exact List.getElem_mem _
theorem Q0p {s:ApiSite} (h:RS s) (c:Int):1≤spd s c∧spd s c≤100:=by
 unfold spd
 split
 ·omega
 ·exact h.sp _ (Q4L (by omega))
theorem Q04 {s:ApiSite} (k:OkApiSite s) (h:RS s) {c:Int} {post:Int→Prop} (hp:post (zn s c)):Xk s c post:=by
 unfold Xk Qb
 have hl:=k.Zones.1
 simp only [maxLen] at hl
 have step:∀(x:ApiZone),x∈s.Zones→∀{post:Bool→Prop},post (x.Cells.contains c)→KW x c post:=fun x hx post hp=>by
  unfold KW
  exact We (k.Zones.2 x hx).Cells.1 (h.asc x hx) (fun _=>hp)
 refine Jn.mk (fun _=>post (-1)) (Loop.find s.Zones (fun z:ApiZone=>z.Cells.contains c) (fun i x hi hx hpx=>?_) (fun i x hi hx hpx hf=>?_) (fun hn hf=>?_)) (fun _ h=>h)
 ·refine Ite.t (by simp;omega) ⟨x,Qe rfl hx,step x (List.mem_of_getElem? hx) (Ite.f hpx ?_)⟩
  rw [Q6 (by omega) (by omega)];omega
 ·refine Ite.t (by simp;omega) ⟨x,Qe rfl hx,step x (List.mem_of_getElem? hx) (Ite.t hpx ?_)⟩
  rw [zn,fidx,hf] at hp;exact hp
 ·refine Ite.f (by simp) ?_
  rw [zn,fidx,hf] at hp;exact hp
theorem Yt {s:ApiSite} (k:OkApiSite s) (h:RS s) {c:Int} {post:Int→Prop} (hp:post (spd s c)):Xg s c post:=by
 unfold Xg
 refine Q04 k h (Ite.mk (fun h1=>⟨_,Q3u (by simpa using h1),?_⟩) (fun h1=>?_))
 ·simp at h1;rw [spd,if_neg (by omega)] at hp;exact hp
 ·simp at h1;rw [spd,if_pos (by omega)] at hp;exact hp
/-! ## what is taken -/
end Go.Taq
/- The mathematics, part S: right sites, whole. -/
set_option linter.unusedVariables false
namespace Go.Taq
open Go
structure Zf (s:ApiSite) (before:List ApiZone) (z:ApiZone):Prop where
 named:1≤z.Name.size∧z.Name.size≤20
 name:∀y,y∈before→seq y.Name z.Name=false
 ne:z.Cells≠[]
 sp:1≤z.Speed∧z.Speed≤100
 keep:0≤z.Keep
 spans:G8 0 z.Shut
 cell:∀c,c∈z.Cells→isC s.Floor c=true∧Q14 (kd s.Floor c)=true∧zAt before c=false
 asc:∀(i:Nat) x y,z.Cells[i]?=some x→z.Cells[i+1]?=some y→x<y
theorem Q4m {l:List Int} (h:∀(i:Nat) x y,l[i]?=some x→l[i+1]?=some y→x<y):Asc l:=by
 have key:∀(d i:Nat) x y,l[i]?=some x→l[i+d+1]?=some y→x<y:=by
  intro d
  induction d with
  | zero=>intro i x y hx hy;exact h i x y hx hy
  | succ d ih=>
   intro i x y hx hy
   have hlt:=(List.getElem?_eq_some_iff.1 hy).1
   have hz:l[i+d+1]?=some (l[i+d+1]'(by omega)):=List.getElem?_eq_getElem _
   exact Int.lt_trans (ih i x _ hx hz) (h (i+d+1) _ y hz (by rw [←hy];congr 1))
 intro i j x y hij hx hy
 exact key (j-i-1) i x y hx (by rw [←hy];congr 1;omega)
theorem Zf.ascL {s:ApiSite} {b:List ApiZone} {z:ApiZone} (h:Zf s b z):Asc z.Cells:=Q4m h.asc
theorem Q3c {α:Type} {xs:List α} {i:Nat} {x:α} (h:x∈xs.take i):x∈xs:=List.mem_of_mem_take h
theorem YA {s:ApiSite} (k:OkApiSite s) (hf:RF s.Floor) {post:Bool→Prop} (hF:post false)
  (hT:s.Zones.length≤64→(∀(i:Nat) z,s.Zones[i]?=some z→Zf s (s.Zones.take i) z)→post true):QJ s post:=by
 unfold QJ
 refine Jn.mk (fun _=>∀(i:Nat) z,s.Zones[i]?=some z→Zf s (s.Zones.take i) z) (Loop.each s.Zones k.Zones.1 (fun i=>∀(j:Nat) z,j<i→s.Zones[j]?=some z→Zf s (s.Zones.take j) z) (fun j z h=>by omega) (fun i z hz hidx hlt hall Y hY=>Ite.lt hlt ?_) (fun h=>Ite.nlt (by omega) (fun i z hz=>h i z (List.getElem?_eq_some_iff.1 hz).1 hz))) (fun _ h=>?_)
 ·have kz:=k.Zones.2 z (List.mem_of_getElem? hz)
  have kt:∀x,x∈s.Zones.take i→x.Cells.length≤maxLen:=fun x hx=>(k.Zones.2 x (Q3c hx)).Cells.1
  have ktl:(s.Zones.take i).length≤maxLen:=Nat.le_trans (by simp;omega) k.Zones.1
  refine Jn.mk (fun _=>Zf s (s.Zones.take i) z) ⟨z,hidx,Jn.mk (fun b=>b=false→(1≤z.Name.size∧z.Name.size≤20)∧(∀y,y∈s.Zones.take i→seq y.Name z.Name=false)∧z.Cells≠[]∧(1≤z.Speed∧z.Speed≤100)∧0≤z.Keep∧G8 0 z.Shut) ?_ ?_⟩ ?_
  ·refine Gk kz.Name (Ite.f rfl (fun h=>by cases h)) (fun n1 n2=>Ite.t rfl ⟨⟨by omega,by omega,by omega⟩,?_⟩)
   rw [sub0]
   refine Q0Z ktl (Ite.mk (fun _ h=>by cases h) (fun h1=>Ite.mk (fun _ h=>by cases h) (fun h2=>Ite.mk (fun _ h=>by cases h) (fun h3=>Ite.mk (fun _ h=>by cases h) (fun h4=>Ite.mk (fun _ h=>by cases h) (fun h5=>?_))))))
   rw [Zm] at h1
   refine Q0u kz.Shut.1 (fun h=>by simp at h) (fun h6 _=>⟨⟨n1,n2⟩,fun y hy=>?_,?_,?_,?_,h6⟩)
   ·exact Bool.eq_false_iff.2 (List.any_eq_false.1 h1 y hy)
   ·intro e;rw [e] at h2;simp at h2
   ·simp at h3 h4;omega
   ·simp at h5;omega
  ·intro b hb
   refine Ite.mk (fun _=>hF) (fun h1=>?_)
   obtain⟨b1,b2,b3,b4,b5,b6⟩:=hb h1
   refine Jn.mk (fun _=>(∀c,c∈z.Cells→isC s.Floor c=true∧Q14 (kd s.Floor c)=true∧zAt (s.Zones.take i) c=false)∧(∀(i:Nat) x y,z.Cells[i]?=some x→z.Cells[i+1]?=some y→x<y))
    (Loop.each z.Cells kz.Cells.1 (fun m=>(∀(j:Nat) c,j<m→z.Cells[j]?=some c→isC s.Floor c=true∧Q14 (kd s.Floor c)=true∧zAt (s.Zones.take i) c=false)∧(∀(j:Nat) x y,j+1<m→z.Cells[j]?=some x→z.Cells[j+1]?=some y→x<y)) ⟨fun j c h=>by omega,fun j x y h=>by omega⟩ (fun m c hc hidc hlc hm Y2 hY2=>Ite.lt hlc ⟨c,hidc,?_⟩)
     (fun h=>Ite.nlt (by omega) ⟨fun c hc=>?_,fun j x y hx hy=>h.2 j x y (List.getElem?_eq_some_iff.1 hy).1 hx hy⟩)) (fun _ h=>?_)
   ·refine Jn.mk (fun b=>b=false→isC s.Floor c=true∧∀x,0<m→z.Cells[m-1]?=some x→x<c) (Xu hf (Ite.mk (fun h2=>Ite.mk (fun h3=>?_) (fun h3=>fun _=>⟨h2,fun x h0=>by simp at h3;omega⟩)) (fun h2 h=>by cases h))) (fun b hb=>Ite.mk (fun _=>hF) (fun h2=>?_))
    ·simp at h3
     have hl:=kz.Cells.1
     have hx:z.Cells[m-1]?=some (z.Cells[m-1]'(by omega)):=List.getElem?_eq_getElem _
     refine⟨_,Qe (n:=m-1) ?_ hx,fun h4=>⟨h2,fun x h0 hx'=>?_⟩⟩
     ·simp only [maxLen] at hl
      rw [Q6 (by omega) (by omega),imax];split <;> omega
     ·rw [hx] at hx';cases hx'
      simp at h4;exact h4
    ·obtain⟨hcc,hasc⟩:=hb h2
     refine Jn.mk (fun b=>b=false→Q14 (kd s.Floor c)=true∧zAt (s.Zones.take i) c=false) ⟨_,Xl hcc,Q0D (Ite.mk (fun h3=>⟨⟨by omega,by omega,by omega⟩,?_⟩) (fun h3 h=>by cases h))⟩ (fun b hb'=>Ite.mk (fun _=>hF) (fun h4=>hY2 ?_))
     ·rw [sub0];exact Q05 ktl kt (fun h=>⟨h3,h⟩)
     ·obtain⟨q1,q2⟩:=hb' h4
      refine⟨fun j c' hj hc'=>?_,fun j x y hj hx hy=>?_⟩
      ·by_cases e:j=m
       ·subst e;rw [hc] at hc';cases hc';exact⟨hcc,q1,q2⟩
       ·exact hm.1 j c' (by omega) hc'
      ·by_cases e:j+1=m
       ·subst e
        rw [hc] at hy;cases hy
        exact hasc x (by omega) (by simpa using hx)
       ·exact hm.2 j x y (by omega) hx hy
   ·obtain⟨j,hj⟩:=List.getElem?_of_mem hc
    exact h.1 j c (List.getElem?_eq_some_iff.1 hj).1 hj
   ·exact⟨b1,b2,b3,b4,b5,b6,h.1,h.2⟩
  ·intro _ hz'
   refine hY (fun j y hj hy=>?_)
   by_cases e:j=i
   ·subst e;rw [hz] at hy;cases hy;exact hz'
   ·exact hall j y (by omega) hy
 ·cases hb:decide ((s.Zones.length:Int)≤64)
  ·exact hF
  ·exact hT (by simp at hb;omega) h
def Q1b (s:ApiSite) (i:Nat) (d:Int):Prop:=∃x y,s.Shelves[i]?=some x∧0≤nbr s.Floor x.Cell d∧0≤shAt s.Shelves (nbr s.Floor x.Cell d)∧shAt s.Shelves (nbr s.Floor x.Cell d)<i∧idx s.Shelves (shAt s.Shelves (nbr s.Floor x.Cell d))=some y∧apB s.Aparts x.Class y.Class=true
theorem Q3P (l:List ApiShelf) (c:Int):-1≤shAt l c∧shAt l c<l.length:=Q2I
theorem ZX {s:ApiSite} (k:OkApiSite s) (hf:RF s.Floor) {post:Int→Prop} (hF:∀i:Nat,i<s.Shelves.length→post (i:Int)) (hT:(∀(i:Nat) (d:Int),0≤d→d<4→¬Q1b s i d)→post (-1)):Kf s post:=by
 unfold Kf
 refine Jn.mk (fun _=>∀(i:Nat) (d:Int),0≤d→d<4→¬Q1b s i d) (Loop.each s.Shelves k.Shelves.1 (fun i=>∀(j:Nat) (d:Int),j<i→0≤d→d<4→¬Q1b s j d) (fun j d h=>by omega) (fun i x hx hidx hlt hall Y hY=>Ite.lt hlt ?_)
  (fun h=>Ite.nlt (by omega) (fun i d h0 h1 hb=>by
   obtain⟨x,y,hx,_⟩:=hb
   exact h i d (List.getElem?_eq_some_iff.1 hx).1 h0 h1 ⟨x,y,hx,‹_›⟩))) (fun _ h=>hT h)
 refine Jn.mk (fun _=>∀d:Int,0≤d→d<4→¬Q1b s i d) (Jn.mk (fun _=>∀d:Int,0≤d→d<4→¬Q1b s i d) (Loop.upto 4 (fun n=>∀d:Int,0≤d→d<n→¬Q1b s i d) (fun d h0 h1=>by omega) (fun n hn hd Y2 hY2=>Ite.lt (by omega) ⟨x,hidx,WK hf (Ga k.Shelves.1 ?_)⟩) (fun h=>Ite.nlt (by omega) h)) (fun _ h=>h)) (fun _ h=>hY (fun j d hj h0 h1=>?_))
 ·have hb:=Q3P s.Shelves (nbr s.Floor x.Cell n)
  refine Jn.mk (fun b=>b=false→¬Q1b s i n) (Ite.mk (fun h1=>Ite.mk (fun h2=>Ite.mk (fun h3=>?_) (fun h3 _=>?_)) (fun h2 _=>?_)) (fun h1 _=>?_)) (fun b hb'=>Ite.mk (fun _=>hF i (by omega)) (fun h4=>?_))
  ·simp at h1 h2 h3
   have e:imax (shAt s.Shelves (nbr s.Floor x.Cell n)) 0=shAt s.Shelves (nbr s.Floor x.Cell n):=by rw [imax];split <;> omega
   rw [e]
   have hy:=Wl (xs:=s.Shelves) h2 (by omega)
   refine⟨_,hy,YC k.Aparts.1 (fun h=>?_)⟩
   rintro⟨x',y',hx',_,_,_,hy',hap⟩
   rw [hx] at hx';cases hx'
   rw [hy] at hy';cases hy'
   rw [h] at hap;cases hap
  ·simp at h3
   rintro⟨x',y',hx',_,_,h5,_⟩
   rw [hx] at hx';cases hx'
   omega
  ·simp at h2
   rintro⟨x',y',hx',_,h5,_⟩
   rw [hx] at hx';cases hx'
   omega
  ·simp at h1
   rintro⟨x',y',hx',h5,_⟩
   rw [hx] at hx';cases hx'
   omega
  ·have:=hY2 (fun d h0 h1=>by
    by_cases e:d=n
    ·subst e;exact hb' h4
    ·exact hd d h0 (by omega))
   rw [Q6 (by omega) (by omega)];simpa using this
 ·by_cases e:j=i
  ·subst e;exact h d h0 h1
  ·exact hall j d (by omega) h0 h1
structure Y6 (s:ApiSite):Prop where
 fl:RF s.Floor
 z64:s.Zones.length≤64
 zone:∀(i:Nat) z,s.Zones[i]?=some z→Zf s (s.Zones.take i) z
 sh3:s.Shelves.length≤3000
 r2:s.Robots.length≤200
 ap:∀(i:Nat) x,s.Aparts[i]?=some x→1≤x.A.size∧1≤x.B.size∧apB (s.Aparts.take i) x.A x.B=false
 sh:∀(i:Nat) x,s.Shelves[i]?=some x→isC s.Floor x.Cell=true∧Q0k (kd s.Floor x.Cell)=true∧shAt (s.Shelves.take i) x.Cell<0
 rb:∀(i:Nat) x,s.Robots[i]?=some x→isC s.Floor x.Cell=true∧0≤x.Charge∧x.Charge≤1000000∧kd s.Floor x.Cell≠0∧rbAt (s.Robots.take i) x.Cell=false
 room:∀z,z∈s.Zones→z.Keep≤(z.Cells.countP (W6 s):Nat)
 apart:∀(i:Nat) (d:Int),0≤d→d<4→¬Q1b s i d
 charger:s.Floor.Kind.contains 3=true
theorem Y6.zm {s:ApiSite} (h:Y6 s) {z:ApiZone} (hz:z∈s.Zones):∃i:Nat,Zf s (s.Zones.take i) z:=by
 obtain⟨i,hi⟩:=List.getElem?_of_mem hz
 exact⟨i,h.zone i z hi⟩
theorem Y6.rs {s:ApiSite} (h:Y6 s):RS s where
 fl:=h.fl
 asc z hz:=(h.zm hz).elim fun _ q=>q.ascL
 zc z hz c hc:=(h.zm hz).elim fun _ q=>(q.cell c hc).1
 sp z hz:=(h.zm hz).elim fun _ q=>q.sp
theorem Q0s {s:ApiSite} (k:OkApiSite s) {post:Bool→Prop} (hF:post false) (hT:Y6 s→post true):Ks s post:=by
 unfold Ks
 refine Jn.mk (fun b=>b=false→RF s.Floor∧s.Zones.length≤64∧(∀(i:Nat) z,s.Zones[i]?=some z→Zf s (s.Zones.take i) z)∧s.Shelves.length≤3000∧s.Robots.length≤200)
  (Q0P (Ite.f rfl (fun h=>by cases h)) (fun hf=>Ite.t rfl (YA k hf (Ite.f rfl (fun h=>by cases h)) (fun z1 z2=>Ite.t rfl (Ite.mk (fun _ h=>by cases h) (fun h1 h2=>⟨hf,z1,z2,by simp at h1;omega,by simp at h2;omega⟩)))))) (fun b hb=>Ite.mk (fun _=>hF) (fun hb'=>?_))
 obtain⟨hf,z1,z2,l1,l2⟩:=hb hb'
 refine Jn.mk (fun _=>∀(i:Nat) x,s.Aparts[i]?=some x→1≤x.A.size∧1≤x.B.size∧apB (s.Aparts.take i) x.A x.B=false) (Loop.each s.Aparts k.Aparts.1 (fun i=>∀(j:Nat) x,j<i→s.Aparts[j]?=some x→1≤x.A.size∧1≤x.B.size∧apB (s.Aparts.take j) x.A x.B=false) (fun j z h=>by omega) (fun i x hx hidx hlt hall Y hY=>Ite.lt hlt ⟨x,hidx,?_⟩) (fun h=>Ite.nlt (by omega) (fun i z hz=>h i z (List.getElem?_eq_some_iff.1 hz).1 hz))) (fun _ hap=>?_)
 ·have kx:=k.Aparts.2 x (List.mem_of_getElem? hx)
  refine Jn.mk (fun b=>b=false→1≤x.A.size∧1≤x.B.size∧apB (s.Aparts.take i) x.A x.B=false) (Gk kx.A (Ite.f rfl (fun h=>by cases h)) (fun a1 a2=>Ite.t rfl (Gk kx.B (Ite.f rfl (fun h=>by cases h)) (fun b1 b2=>Ite.t rfl ⟨⟨by omega,by omega,by omega⟩,?_⟩)))) (fun b hb=>Ite.mk (fun _=>hF) (fun hb'=>hY (fun j y hj hy=>?_)))
  ·rw [sub0];exact YC (Nat.le_trans (by simp;omega) k.Aparts.1) (fun h=>⟨a1,b1,h⟩)
  ·by_cases e:j=i
   ·subst e;rw [hx] at hy;cases hy;exact hb hb'
   ·exact hall j y (by omega) hy
 refine Jn.mk (fun _=>∀(i:Nat) x,s.Shelves[i]?=some x→isC s.Floor x.Cell=true∧Q0k (kd s.Floor x.Cell)=true∧shAt (s.Shelves.take i) x.Cell<0) (Loop.each s.Shelves k.Shelves.1 (fun i=>∀(j:Nat) x,j<i→s.Shelves[j]?=some x→isC s.Floor x.Cell=true∧Q0k (kd s.Floor x.Cell)=true∧shAt (s.Shelves.take j) x.Cell<0) (fun j z h=>by omega) (fun i x hx hidx hlt hall Y hY=>Ite.lt hlt ⟨x,hidx,?_⟩) (fun h=>Ite.nlt (by omega) (fun i z hz=>h i z (List.getElem?_eq_some_iff.1 hz).1 hz))) (fun _ hsh=>?_)
 ·have kx:=k.Shelves.2 x (List.mem_of_getElem? hx)
  refine Jn.mk (fun b=>b=false→isC s.Floor x.Cell=true) (Xu hf (Ite.mk (fun h1=>Ite.mk (fun _ _=>h1) (fun _=>Gk kx.Class (fun h=>by cases h) (fun _ _ _=>h1))) (fun _ h=>by cases h))) (fun b hb=>Ite.mk (fun _=>hF) (fun hb'=>?_))
  have hc:=hb hb'
  refine Jn.mk (fun b=>b=false→Q0k (kd s.Floor x.Cell)=true∧shAt (s.Shelves.take i) x.Cell<0) ⟨_,Xl hc,WQ (Ite.mk (fun h1=>⟨⟨by omega,by omega,by omega⟩,?_⟩) (fun h1 h=>by cases h))⟩ (fun b hb=>Ite.mk (fun _=>hF) (fun hb'=>hY (fun j y hj hy=>?_)))
  ·rw [sub0];exact Ga (Nat.le_trans (by simp;omega) k.Shelves.1) (fun h=>⟨h1,by simpa using h⟩)
  ·by_cases e:j=i
   ·subst e;rw [hx] at hy;cases hy;exact⟨hc,hb hb'⟩
   ·exact hall j y (by omega) hy
 refine Jn.mk (fun _=>∀(i:Nat) x,s.Robots[i]?=some x→isC s.Floor x.Cell=true∧0≤x.Charge∧x.Charge≤1000000∧kd s.Floor x.Cell≠0∧rbAt (s.Robots.take i) x.Cell=false) (Loop.each s.Robots k.Robots.1 (fun i=>∀(j:Nat) x,j<i→s.Robots[j]?=some x→isC s.Floor x.Cell=true∧0≤x.Charge∧x.Charge≤1000000∧kd s.Floor x.Cell≠0∧rbAt (s.Robots.take j) x.Cell=false) (fun j z h=>by omega) (fun i x hx hidx hlt hall Y hY=>Ite.lt hlt ⟨x,hidx,?_⟩) (fun h=>Ite.nlt (by omega) (fun i z hz=>h i z (List.getElem?_eq_some_iff.1 hz).1 hz))) (fun _ hrb=>?_)
 ·refine Jn.mk (fun b=>b=false→isC s.Floor x.Cell=true∧0≤x.Charge∧x.Charge≤1000000) (Xu hf (Ite.mk (fun h1=>Ite.mk (fun _ h=>by cases h) (fun h2 h3=>⟨h1,by simpa using h2,by simpa using h3⟩)) (fun _ h=>by cases h))) (fun b hb=>Ite.mk (fun _=>hF) (fun hb'=>?_))
  obtain⟨hc,c1,c2⟩:=hb hb'
  refine Jn.mk (fun b=>b=false→kd s.Floor x.Cell≠0∧rbAt (s.Robots.take i) x.Cell=false) ⟨_,Xl hc,Ite.mk (fun h1 h=>by cases h) (fun h1=>⟨⟨by omega,by omega,by omega⟩,?_⟩)⟩ (fun b hb=>Ite.mk (fun _=>hF) (fun hb'=>hY (fun j y hj hy=>?_)))
  ·rw [sub0];exact Zo (Nat.le_trans (by simp;omega) k.Robots.1) (fun h=>⟨by simpa using h1,h⟩)
  ·by_cases e:j=i
   ·subst e;rw [hx] at hy;cases hy;exact⟨hc,c1,c2,hb hb'⟩
   ·exact hall j y (by omega) hy
 refine Jn.mk (fun _=>∀(i:Nat) z,s.Zones[i]?=some z→z.Keep≤(z.Cells.countP (W6 s):Nat)) (Loop.each s.Zones k.Zones.1 (fun i=>∀(j:Nat) z,j<i→s.Zones[j]?=some z→z.Keep≤(z.Cells.countP (W6 s):Nat)) (fun j z h=>by omega) (fun i x hx hidx hlt hall Y hY=>Ite.lt hlt ⟨x,hidx,?_⟩) (fun h=>Ite.nlt (by omega) (fun i z hz=>h i z (List.getElem?_eq_some_iff.1 hz).1 hz))) (fun _ hro=>?_)
 ·refine ZS k (k.Zones.2 x (List.mem_of_getElem? hx)).Cells.1 (fun c hc=>((z2 i x hx).cell c hc).1) (Ite.mk (fun _=>hF) (fun h1=>hY (fun j y hj hy=>?_)))
  by_cases e:j=i
  ·subst e;rw [hx] at hy;cases hy;simpa using h1
  ·exact hall j y (by omega) hy
 refine Jn.mk' (ZX k hf (fun i hi=>Ite.f (by simp) hF) (fun hbs=>Ite.t (by decide) (ZF k.Floor.Kind.1 ?_)))
 cases hch:s.Floor.Kind.contains 3
 ·exact hF
 ·exact hT ⟨hf,z1,z2,l1,l2,hap,hsh,hrb,fun z hz=>(List.getElem?_of_mem hz).elim fun i hi=>hro i z hi,hbs,hch⟩
theorem Q1J {f:ApiFloor} {n:Int} {post:Bool→Prop} (hF:post false) (hT:f.Kind.length≤n→f.Out.length≤n→post true):KH f n post:=by
 unfold KH
 refine Jn.mk' (Ite.mk (fun h1=>?_) (fun h1=>hF))
 simp at h1
 cases hb:decide ((f.Out.length:Int)≤n)
 ·exact hF
 ·exact hT h1 (by simpa using hb)
structure FewS (s:ApiSite) (cells most:Int):Prop where
 kind:s.Floor.Kind.length≤cells
 zones:s.Zones.length≤most
 aparts:s.Aparts.length≤most
 shelves:s.Shelves.length≤most
 robots:s.Robots.length≤most
 zone:∀z,z∈s.Zones→z.Cells.length≤cells∧z.Shut.length≤20
theorem Q1X {s:ApiSite} (k:OkApiSite s) {cells most:Int} (hm:0≤most∧most≤1000000) {post:Bool→Prop} (hF:post false) (hT:FewS s cells most→post true):KK s cells most post:=by
 unfold KK
 refine Q3G s.Zones k.Zones.1 (T:=fun s3 q=>Jn (fun (J10:Bool→Prop)=>∃x11,idx s.Zones s3=some x11∧Ite (decide ((x11.Cells.length:Int)>cells)) (J10 true) (Ite (decide ((x11.Shut.length:Int)>20)) (J10 true) (J10 (decide ((x11.Name.size:Int)>40))))) q) (fun z=>z.Cells.length≤cells∧z.Shut.length≤20) (fun i x hx q q1 q2=>Jn.ex x hx (Jor3 ?_)) hF (fun hz=>?_)
 ·cases hb:(decide ((x.Cells.length:Int)>cells)||decide ((x.Shut.length:Int)>20)||decide ((x.Name.size:Int)>40))
  ·simp only [Bool.or_eq_false_iff,decide_eq_false_iff_not] at hb
   exact q2 ⟨by omega,by omega⟩
  ·exact q1
 refine Q3G s.Aparts k.Aparts.1 (T:=fun s3 q=>Jn (fun (J10:Bool→Prop)=>∃x11,idx s.Aparts s3=some x11∧Ite (decide ((x11.A.size:Int)>40)) (J10 true) (J10 (decide ((x11.B.size:Int)>40)))) q) (fun z=>True) (fun i x hx q q1 q2=>Jn.ex x hx (Jor2 ?_)) hF (fun _=>?_)
 ·cases hb:(decide ((x.A.size:Int)>40)||decide ((x.B.size:Int)>40))
  ·exact q2 trivial
  ·exact q1
 refine Q3G s.Shelves k.Shelves.1 (T:=fun s3 q=>∃x11,idx s.Shelves s3=some x11∧q (decide ((x11.Class.size:Int)>40))) (fun z=>True) (fun i x hx q q1 q2=>⟨x,hx,?_⟩) hF (fun _=>?_)
 ·cases hb:(decide ((x.Class.size:Int)>40))
  ·exact q2 trivial
  ·exact q1
 refine Jn.mk' (Q1J (Ite.f rfl hF) (fun f1 f2=>Ite.t rfl (Ite.mk (fun h1=>Ite.mk (fun h2=>Ite.mk (fun h3=>?_) (fun _=>hF)) (fun _=>hF)) (fun _=>hF))))
 simp at h1 h2 h3
 cases hb:decide ((s.Robots.length:Int)≤most)
 ·exact hF
 ·exact hT ⟨f1,h1,h2,h3,by simpa using hb,hz h1⟩
end Go.Taq
/- The mathematics, part QA: loops whose state has a counter and more; ranges over lists; lists of places. -/
set_option linter.unusedVariables false
set_option linter.unusedSimpArgs false
namespace Go.Taq
open Go
theorem XP {α τ:Type} {xs:List α} (hm:xs.length≤maxLen) (ix:τ→Int) (I:Nat→τ→Prop) {t0:τ} (hi0:ix t0=0) (h0:I 0 t0) {R:α→τ→(τ→Prop)→Prop} {E:τ→Prop}
  (hs:∀(i:Nat) x t,xs[i]?=some x→ix t=(i:Int)→I i t→R x t (fun t'=>ix t'=w64 ((i:Int)+1)∧I (i+1) t'))
  (he:∀t,I xs.length t→E t):
  Loop (fun t Y=>Ite (decide (ix t<(xs.length:Int))) (∃x,idx xs (ix t)=some x∧R x t Y) (E t)) t0:=by
 refine Loop.inv xs.length (fun i t=>ix t=(i:Int)∧I i t) ⟨by simpa using hi0,h0⟩ (fun i t hi h=>?_) (fun t h=>?_)
 ·have hx:xs[i]?=some (xs[i]'hi):=List.getElem?_eq_getElem hi
  refine Ite.lt (by omega) ⟨_,by rw [h.1];exact Qe rfl hx,?_⟩
  have:=hs i _ t hx h.1 h.2
  rw [GU hi hm] at this;exact this
 ·exact Ite.nlt (by omega) (he t h.2)
theorem GT {α τ:Type} {xs:List α} (hm:xs.length≤maxLen) (ix:τ→Int) (I:Nat→τ→Prop) {t0:τ} (hi0:ix t0=0) (h0:I 0 t0) {R:τ→(τ→Prop)→Prop} {E:τ→Prop}
  (hs:∀(i:Nat) x t,xs[i]?=some x→ix t=(i:Int)→I i t→R t (fun t'=>ix t'=w64 ((i:Int)+1)∧I (i+1) t'))
  (he:∀t,I xs.length t→E t):
  Loop (fun t Y=>Ite (decide (ix t<(xs.length:Int))) (R t Y) (E t)) t0:=by
 refine Loop.inv xs.length (fun i t=>ix t=(i:Int)∧I i t) ⟨by simpa using hi0,h0⟩ (fun i t hi h=>?_) (fun t h=>?_)
 ·have hx:xs[i]?=some (xs[i]'hi):=List.getElem?_eq_getElem hi
  refine Ite.lt (by omega) ?_
  have:=hs i _ t hx h.1 h.2
  rw [GU hi hm] at this;exact this
 ·exact Ite.nlt (by omega) (he t h.2)
theorem Each.inv {α σ:Type} {body:α→σ→(σ→Prop)→Prop} {k:σ→Prop}:∀(ys:List α) (I:Nat→σ→Prop) {s0:σ},I 0 s0→(∀(i:Nat) x s,ys[i]?=some x→I i s→∀Y:σ→Prop,(∀s',I (i+1) s'→Y s')→body x s Y)→(∀s,I ys.length s→k s)→Each body k ys s0
 | [],I,s0,h0,_,he=>he _ h0
 | y :: ys,I,s0,h0,hs,he=>hs 0 y s0 rfl h0 _ fun s' h'=>Each.inv ys (fun i=>I (i+1)) h' (fun i x s hx hI Y hY=>hs (i+1) x s (by simpa using hx) hI Y hY) (fun s h=>he s h)
theorem Q2j {τ:Type} (n:Nat) (ix:τ→Int) (I:Nat→τ→Prop) {t0:τ} (hn:n≤maxLen) (hi0:ix t0=0) (h0:I 0 t0) {R:τ→(τ→Prop)→Prop} {E:τ→Prop}
  (hs:∀(i:Nat) t,i<n→ix t=(i:Int)→I i t→R t (fun t'=>ix t'=w64 ((i:Int)+1)∧I (i+1) t'))
  (he:∀t,I n t→E t):
  Loop (fun t Y=>Ite (decide (ix t<(n:Int))) (R t Y) (E t)) t0:=by
 refine Loop.inv n (fun i t=>ix t=(i:Int)∧I i t) ⟨by simpa using hi0,h0⟩ (fun i t hi h=>?_) (fun t h=>?_)
 ·refine Ite.lt (by omega) ?_
  have:=hs i t hi h.1 h.2
  rw [GU hi hn] at this;exact this
 ·exact Ite.nlt (by omega) (he t h.2)
theorem Q0n {α:Type} (p:α→Bool) (xs:List α):(∃(i:Nat) (x:α),xs[i]?=some x∧fidx p xs=i∧p x=true∧∀(j:Nat) (y:α),j<i→xs[j]?=some y→p y=false)∨(fidx p xs=-1∧∀x,x∈xs→p x=false):=by
 unfold fidx
 cases h:xs.findIdx? p with
 | none=>
  refine .inr ⟨rfl,fun x hx=>?_⟩
  rw [List.findIdx?_eq_none_iff] at h;exact h x hx
 | some i=>
  obtain⟨hlt,hp,hb⟩:=List.findIdx?_eq_some_iff_getElem.1 h
  refine .inl ⟨i,xs[i],List.getElem?_eq_getElem hlt,rfl,hp,fun j y hj hy=>?_⟩
  have:=hb j hj
  have hyj:=(List.getElem?_eq_some_iff.1 hy).2
  rw [←hyj];simpa using this
theorem QE {α:Type} {xs:List α} {i:Nat} {x:α} (h:xs[i]?=some x):xs.take (i+1)=xs.take i++[x]:=by
 rw [List.take_add_one,h];rfl
end Go.Taq
/- The mathematics, part NA: right floors and right sites, as the program sees them (floor.Right, survey.Right). -/
set_option linter.unusedVariables false
namespace Go.Taq
open Go
end Go.Taq
