/- The mathematics, several parts in one text. -/
import Derived.Test.YtdcfcldpjfepiaaGreatVc
import Derived.Test.YtdcfcldpjfepiaaGreatMR0
/- The mathematics, part B: right floors, and the cells beside a cell. -/
set_option linter.unusedVariables false
namespace Go.Taq
open Go
structure RF (f:ApiFloor):Prop where
 W1:1≤f.W
 H1:1≤f.H
 D1:1≤f.D
 D4:f.D≤4
 W4:f.W≤4096
 H4:f.H≤4096
 n4:f.W*f.H*f.D≤4096
 kl:(f.Kind.length:Int)=f.W*f.H*f.D
 ol:(f.Out.length:Int)=f.W*f.H*f.D
 ko:∀(i:Nat) x y,f.Kind[i]?=some x→f.Out[i]?=some y→0≤x∧x<7∧0≤y∧y≤63
theorem Q5T {a b p q:Int} (ha:0≤a) (hb:0≤b) (h1:a≤p) (h2:b≤q):0≤a*b∧a*b≤p*q:=
 ⟨Int.mul_nonneg ha hb,Int.mul_le_mul h1 h2 hb (by omega)⟩
theorem Q4t {f:ApiFloor} (w1:1≤f.W) (h1:1≤f.H) (d1:1≤f.D) (d4:f.D≤4) (w4:f.W≤4096) (h4:f.H≤4096):w64 ((w64 (f.W*f.H))*f.D)=f.W*f.H*f.D∧w64 (f.W*f.H)=f.W*f.H∧1≤f.W*f.H∧f.W*f.H≤16777216:=by
 have a:=Q5T (by omega:0≤f.W) (by omega:0≤f.H) w4 h4
 have b:=Q5T a.1 (by omega:0≤f.D) a.2 d4
 have c:1*1≤f.W*f.H:=Int.mul_le_mul w1 h1 (by omega) (by omega)
 rw [Qx (x:=f.W*f.H) (by omega) (by omega),Qx (x:=f.W*f.H*f.D) (by omega) (by omega)]
 exact⟨rfl,rfl,by omega,by omega⟩
theorem RF.size {f:ApiFloor} (h:RF f):w64 ((w64 (f.W*f.H))*f.D)=f.Kind.length:=by rw [(Q4t h.W1 h.H1 h.D1 h.D4 h.W4 h.H4).1,h.kl]
theorem RF.wh {f:ApiFloor} (h:RF f):w64 (f.W*f.H)=f.W*f.H∧1≤f.W*f.H∧f.W*f.H≤4096:=by
 have e:=Q4t h.W1 h.H1 h.D1 h.D4 h.W4 h.H4
 refine⟨e.2.1,e.2.2.1,?_⟩
 have:f.W*f.H*1≤f.W*f.H*f.D:=Int.mul_le_mul_of_nonneg_left h.D1 (by omega)
 have:=h.n4;omega
theorem RF.len {f:ApiFloor} (h:RF f):f.Kind.length≤4096∧f.Out.length=f.Kind.length:=by
 have:=h.kl;have:=h.ol;have:=h.n4;omega
def isC (f:ApiFloor) (c:Int):Bool:=decide (0≤c)&&decide (c<f.Kind.length)
theorem Q4b {f:ApiFloor} (h:RF f) {post:Int→Prop} (hp:post f.Kind.length):Ga f post:=by
 unfold Ga;rw [h.size];exact hp
theorem Q1e {f:ApiFloor} (h:RF f) {c:Int} {post:Bool→Prop} (hp:post (isC f c)):Wc f c post:=by
 unfold Wc
 refine Jn.eq (isC f c) (Ite.mk (fun h1=>Q4b h ?_) (fun h1=>?_)) hp
 ·simp at h1;simp [isC,h1]
 ·simp at h1;simp [isC];omega
def kd (f:ApiFloor) (c:Int):Int:=f.Kind.getD c.toNat 0
def ot (f:ApiFloor) (c:Int):Int:=f.Out.getD c.toNat 0
theorem QU {f:ApiFloor} {c:Int}:isC f c=true↔0≤c∧c<f.Kind.length:=by simp [isC]
theorem Q3m {f:ApiFloor} {c:Int}:isC f c=false↔¬(0≤c∧c<f.Kind.length):=by rw [←QU];simp
theorem GN {f:ApiFloor} {c:Int} (h:isC f c=true):idx f.Kind c=some (kd f c):=by
 rw [QU] at h
 rw [Yu h.1 h.2,kd,List.getD_eq_getElem?_getD,List.getElem?_eq_getElem (by omega)];rfl
theorem Q6D {f:ApiFloor} (hf:RF f) {c:Int} (h:isC f c=true):idx f.Out c=some (ot f c):=by
 rw [QU] at h
 have:=hf.len.2
 rw [Yu h.1 (by omega),ot,List.getD_eq_getElem?_getD,List.getElem?_eq_getElem (by omega)];rfl
theorem Q4G {x y k:Int}:imin x y<k↔x<k∨y<k:=by unfold imin;split <;> omega
def Wf (f:ApiFloor) (x y z:Int):Int:=if 0≤x∧x<f.W∧0≤y∧y<f.H∧0≤z∧z<f.D then (z*f.H+y)*f.W+x else -1
theorem Q54 {f:ApiFloor} (h:RF f) {x y z:Int} (h1:0≤x∧x<f.W∧0≤y∧y<f.H∧0≤z∧z<f.D):
  0≤z*f.H∧z*f.H≤16384∧0≤(z*f.H+y)*f.W∧(z*f.H+y)*f.W+x<f.Kind.length:=by
 obtain⟨a1,a2,a3,a4,a5,a6⟩:=h1
 have w:=h.W4;have hh:=h.H4;have d:=h.D4
 have b:=Q5T a5 (by omega:0≤f.H) (by omega:z≤4) hh
 have e1:(z+1)*f.H≤f.D*f.H:=Int.mul_le_mul_of_nonneg_right (by omega) (by omega)
 have e2:(z+1)*f.H=z*f.H+f.H:=by rw [Int.add_mul];omega
 have e3:z*f.H+y+1≤f.D*f.H:=by omega
 have e4:(z*f.H+y+1)*f.W≤f.D*f.H*f.W:=Int.mul_le_mul_of_nonneg_right e3 (by omega)
 have e5:(z*f.H+y+1)*f.W=(z*f.H+y)*f.W+f.W:=by rw [Int.add_mul (z*f.H+y)];omega
 have e6:f.D*f.H*f.W=f.W*f.H*f.D:=by rw [Int.mul_comm f.D f.H,Int.mul_comm _ f.W,Int.mul_assoc f.W f.H f.D]
 have e7:0≤(z*f.H+y)*f.W:=Int.mul_nonneg (by omega) (by omega)
 have:=h.kl
 exact⟨b.1,by omega,e7,by omega⟩
theorem Q6i {f:ApiFloor} (h:RF f) (x y z:Int):Wf f x y z=-1∨isC f (Wf f x y z)=true:=by
 unfold Wf
 split
 ·rename_i h1
  have:=Q54 h h1
  exact .inr (QU.2 (by omega))
 ·exact .inl rfl
theorem Q5J {f:ApiFloor} (h:RF f) {x y z:Int} (h1:0≤x∧x<f.W∧0≤y∧y<f.H∧0≤z∧z<f.D):w64 ((w64 ((w64 ((w64 (z*f.H))+y))*f.W))+x)=Wf f x y z:=by
 have:=Q54 h h1
 have:=h.len.1;have:=h.H4
 rw [Qx (x:=z*f.H) (by omega) (by omega),Qx (x:=z*f.H+y) (by omega) (by omega),Qx (x:=(z*f.H+y)*f.W) (by omega) (by omega),Qx (by omega) (by omega),Wf,if_pos h1]
def pX (f:ApiFloor) (c:Int):Int:=c % f.W
def pY (f:ApiFloor) (c:Int):Int:=c / f.W % f.H
def pZ (f:ApiFloor) (c:Int):Int:=c / f.W / f.H
theorem p_bd {f:ApiFloor} (h:RF f) {c:Int} (hc:isC f c=true):0≤pX f c∧pX f c<f.W∧0≤pY f c∧pY f c<f.H∧0≤pZ f c∧pZ f c<f.D:=by
 rw [QU] at hc
 have w:=h.W1;have hh:=h.H1;have hd:=h.D1
 refine⟨Int.emod_nonneg _ (by omega),Int.emod_lt_of_pos _ (by omega),Int.emod_nonneg _ (by omega),Int.emod_lt_of_pos _ (by omega),Int.ediv_nonneg (Int.ediv_nonneg hc.1 (by omega)) (by omega),?_⟩
 unfold pZ
 refine Int.ediv_lt_of_lt_mul (by omega) (Int.ediv_lt_of_lt_mul (by omega) ?_)
 have:=h.kl
 have e6:f.D*f.H*f.W=f.W*f.H*f.D:=by rw [Int.mul_comm f.D f.H,Int.mul_comm _ f.W,Int.mul_assoc f.W f.H f.D]
 omega
def nbr (f:ApiFloor) (c d:Int):Int:=
 if isC f c=false then -1 else
 if d=0 then Wf f (pX f c+1) (pY f c) (pZ f c) else if d=1 then Wf f (pX f c) (pY f c+1) (pZ f c) else
 if d=2 then Wf f (pX f c-1) (pY f c) (pZ f c) else if d=3 then Wf f (pX f c) (pY f c-1) (pZ f c) else
 if d=4 then Wf f (pX f c) (pY f c) (pZ f c+1) else if d=5 then Wf f (pX f c) (pY f c) (pZ f c-1) else -1
theorem Q5C {f:ApiFloor} (h:RF f) (c d:Int):nbr f c d=-1∨isC f (nbr f c d)=true:=by
 unfold nbr
 repeat' split
 all_goals first | exact .inl rfl | exact Q6i h _ _ _
def nx (f:ApiFloor) (c d:Int):Int×Bool:=
 if nbr f c d<0∨kd f c=0∨kd f (nbr f c d)=0∨band .i64 (shrI .i64 (ot f c) d) 1=0 then (0,false)
 else if 4≤d∧(kd f c≠6∨kd f (nbr f c d)≠6) then (0,false) else (nbr f c d,true)
theorem Q0b {f:ApiFloor} (h:RF f) {c d:Int} (hn:(nx f c d).2=true):isC f c=true∧isC f (nx f c d).1=true∧0≤d∧d<6∧kd f (nx f c d).1≠0∧kd f c≠0:=by
 unfold nx at hn ⊢
 split at hn
 ·cases hn
 ·rename_i h1
  split at hn
  ·cases hn
  ·rename_i h2
   rw [if_neg h1,if_neg h2]
   simp only [not_or] at h1
   obtain⟨a1,a2,a3,a4⟩:=h1
   have hb:=Q5C h c d
   have hc:isC f c=true:=by
    cases hc:isC f c
    ·exact absurd (by rw [nbr,if_pos hc];omega) a1
    ·rfl
   have hd:0≤d∧d<6:=by
    unfold nbr at a1
    rw [if_neg (by simp [hc])] at a1
    repeat' split at a1
    all_goals omega
   exact⟨hc,by rcases hb with e | e;(exact absurd (by omega) a1);exact e,hd.1,hd.2,a3,a2⟩
theorem Q30 {f:ApiFloor} (h:RF f) {c:Int} (hc:isC f c=true) {post:(Int×Int×Int)→Prop} (hp:post (pX f c,pY f c,pZ f c)):WQ f c post:=by
 unfold WQ
 refine Q1e h ?_
 rw [hc]
 refine Ite.f rfl ?_
 rw [QU] at hc
 have w:=h.W1;have hh:=h.H1;have hd:=h.D1;have wh:=h.wh;have hl:=h.len.1
 have e1:0≤c / f.W∧c / f.W≤c:=⟨Int.ediv_nonneg hc.1 (by omega),Int.ediv_le_self _ hc.1⟩
 have e2:0≤c / (f.W*f.H)∧c / (f.W*f.H)≤c:=⟨Int.ediv_nonneg hc.1 (by omega),Int.ediv_le_self _ hc.1⟩
 rw [wh.1]
 refine⟨by omega,by omega,by omega,by omega,?_⟩
 rw [Int.tmod_eq_emod_of_nonneg hc.1,Int.tdiv_eq_ediv_of_nonneg hc.1,Qx (x:=c / f.W) (by omega) (by omega),Int.tmod_eq_emod_of_nonneg e1.1,Int.tdiv_eq_ediv_of_nonneg hc.1,Qx (x:=c / (f.W*f.H)) (by omega) (by omega),←Int.ediv_ediv_of_nonneg (by omega:0≤f.W)]
 exact hp
theorem Wy {f:ApiFloor} (h:RF f) {x y z:Int} {post:Int→Prop} (hp:post (Wf f x y z)):Xd f x y z post:=by
 unfold Xd
 refine Jor4 (Ite.mk (fun h1=>?_) (fun h1=>?_))
 ·have:Wf f x y z=-1:=by
   unfold Wf
   rw [if_neg]
   simp only [Bool.or_eq_true,decide_eq_true_eq,Q4G] at h1
   omega
  rw [←this];exact hp
 ·have:0≤x∧x<f.W∧0≤y∧y<f.H∧0≤z∧z<f.D:=by
   simp only [Bool.or_eq_false_iff,decide_eq_false_iff_not,Q4G] at h1
   omega
  rw [Q5J h this];exact hp
theorem ZV {f:ApiFloor} (h:RF f) {c d:Int} {post:Int→Prop} (hp:post (nbr f c d)):Xo f c d post:=by
 unfold Xo
 refine Jn.eq (!isC f c||decide (d<0)||decide (d≥6)) (Q1e h ?_) (Ite.mk (fun h1=>?_) (fun h1=>?_))
 ·cases isC f c
  ·exact Ite.f rfl rfl
  ·exact Ite.t rfl (Ite.mk (fun h=>by rw [h];rfl) (fun h=>by rw [h];rfl))
 ·have:nbr f c d=-1:=by
   unfold nbr
   simp only [Bool.or_eq_true,Bool.not_eq_true',decide_eq_true_eq] at h1
   split
   ·rfl
   ·rename_i h2
    have h3:¬(0≤d∧d<6):=by
     rcases h1 with (h1 | h1) | h1
     ·exact absurd h1 h2
     ·omega
     ·omega
    rw [if_neg (by omega),if_neg (by omega),if_neg (by omega),if_neg (by omega),if_neg (by omega),if_neg (by omega)]
  rw [←this];exact hp
 ·simp only [Bool.or_eq_false_iff,Bool.not_eq_false',decide_eq_false_iff_not] at h1
  obtain⟨⟨hc,h2⟩,h3⟩:=h1
  refine Q30 h hc (post:=_) ?_
  unfold WJ
  have hb:=p_bd h hc
  have w:=h.W4;have hh:=h.H4;have hd:=h.D4
  have hn:nbr f c d=(if d=0 then Wf f (pX f c+1) (pY f c) (pZ f c) else if d=1 then Wf f (pX f c) (pY f c+1) (pZ f c) else
    if d=2 then Wf f (pX f c-1) (pY f c) (pZ f c) else if d=3 then Wf f (pX f c) (pY f c-1) (pZ f c) else
    if d=4 then Wf f (pX f c) (pY f c) (pZ f c+1) else if d=5 then Wf f (pX f c) (pY f c) (pZ f c-1) else -1):=by
   unfold nbr;rw [if_neg (by simp [hc])]
  have hd6:d=0∨d=1∨d=2∨d=3∨d=4∨d=5:=by omega
  rcases hd6 with e | e | e | e | e | e <;> subst e <;> simp only [if_pos,Int.reduceEq,if_false] at hn <;> rw [hn] at hp <;>
   refine⟨_,rfl,Wy h ?_⟩ <;> (try simp only []) <;> rw [Qx (by omega) (by omega),Qx (by omega) (by omega),Qx (by omega) (by omega)] <;>
   first | exact hp | (simpa [Int.sub_eq_add_neg] using hp)
theorem Zx {f:ApiFloor} (h:RF f) {c d:Int} {post:Int×Bool→Prop} (hp:post (nx f c d)):Gd f c d post:=by
 unfold Gd
 refine ZV h ?_
 have hb:=Q5C h c d
 have hc:0≤nbr f c d→isC f c=true∧0≤d∧d<6:=fun a1=>by
  have hc:isC f c=true:=by
   cases hc:isC f c
   ·exact absurd (by rw [nbr,if_pos hc];omega) (Int.not_lt.2 a1)
   ·rfl
  refine⟨hc,?_⟩
  unfold nbr at a1
  rw [if_neg (by simp [hc])] at a1
  repeat' split at a1
  all_goals omega
 have hn:0≤nbr f c d→isC f (nbr f c d)=true:=fun a1=>by rcases hb with e | e;(exact absurd a1 (by omega));exact e
 refine Jn.eq (decide (nbr f c d<0∨kd f c=0∨kd f (nbr f c d)=0∨band .i64 (shrI .i64 (ot f c) d) 1=0)) (Ite.mk (fun h1=>?_) (fun h1=>?_)) (Ite.mk (fun h1=>?_) (fun h1=>?_))
 ·simp only [decide_eq_true_eq] at h1;simp [h1]
 ·simp only [decide_eq_false_iff_not,Int.not_lt] at h1
  obtain⟨hc,hd⟩:=hc h1
  refine⟨_,GN hc,Ite.mk (fun h2=>?_) (fun h2=>⟨_,GN (hn h1),Ite.mk (fun h3=>?_) (fun h3=>⟨_,Q6D h hc,hd.1,?_⟩)⟩)⟩
  ·simp at h2;simp [h2]
  ·simp at h3;simp [h3]
  ·simp at h2 h3;simp only [h2,h3,Int.not_lt.2 h1,false_or];rfl
 ·simp only [decide_eq_true_eq] at h1
  have:nx f c d=(0,false):=by unfold nx;rw [if_pos h1]
  rw [←this];exact hp
 ·simp only [decide_eq_false_iff_not] at h1
  have h0:0≤nbr f c d:=by simp only [not_or] at h1;omega
  obtain⟨hc,hd⟩:=hc h0
  have e:nx f c d=if 4≤d∧(kd f c≠6∨kd f (nbr f c d)≠6) then (0,false) else (nbr f c d,true):=by unfold nx;rw [if_neg h1]
  have lift:∀{J:Bool→Prop},J (decide (kd f c≠6∨kd f (nbr f c d)≠6))→∃x15,idx f.Kind c=some x15∧Ite (x15 != 6) (J true) (∃x17,idx f.Kind (nbr f c d)=some x17∧J (x17 != 6)):=fun {J} hJ=>by
   refine⟨_,GN hc,Ite.mk (fun h2=>?_) (fun h2=>⟨_,GN (hn h0),?_⟩)⟩
   ·simp at h2;simpa [h2] using hJ
   ·simp at h2
    have e:(kd f (nbr f c d) != 6)=decide (kd f c≠6∨kd f (nbr f c d)≠6):=by rw [h2];by_cases h3:kd f (nbr f c d)=6 <;> simp [h3]
    rw [e];exact hJ
  refine Jn.eq (decide (4≤d∧(kd f c≠6∨kd f (nbr f c d)≠6))) (Ite.mk (fun h2=>?_) (fun h2=>Ite.mk (fun h3=>?_) (fun h3=>?_))) (Ite.mk (fun h2=>?_) (fun h2=>?_))
  ·simp at h2;exact lift (J:=fun x=>x=decide (4≤d∧(kd f c≠6∨kd f (nbr f c d)≠6))) (by simp [h2])
  ·simp at h3;exact lift (J:=fun x=>x=decide (4≤d∧(kd f c≠6∨kd f (nbr f c d)≠6))) (by simp [h3])
  ·simp at h2 h3
   have:¬4≤d:=by omega
   simp [this]
  ·simp only [decide_eq_true_eq] at h2
   rw [e,if_pos h2] at hp;exact hp
  ·simp only [decide_eq_false_iff_not] at h2
   rw [e,if_neg h2] at hp;exact hp
end Go.Taq
/- The mathematics, part C: lists: searches, halving. -/
set_option linter.unusedVariables false
namespace Go.Taq
open Go
theorem Q2j {xs:List Int} {v:Int} (hl:xs.length≤maxLen) {post:Int→Prop} (hp:post (fidx (fun x=>v == x) xs)):Kj xs v post:=by
 unfold Kj
 have hm:(xs.length:Int)≤9223372036854775807:=by simp [maxLen] at hl;omega
 refine Jn.mk (fun _=>post (-1)) (Loop.find xs (fun x=>v == x) (fun i x hi hx hpx=>?_) (fun i x hi hx hpx hf=>?_) (fun hn hf=>?_)) (fun _ h=>h)
 ·refine Ite.t (by simp;omega) ⟨x,Qq rfl hx,Ite.f hpx ?_⟩
  rw [Qx (by omega) (by omega)];omega
 ·refine Ite.t (by simp;omega) ⟨x,Qq rfl hx,Ite.t hpx ?_⟩
  simpa [fidx,hf] using hp
 ·refine Ite.f (by simp) ?_
  simpa [fidx,hf] using hp
theorem KY {xs:List Int} {v:Int} (hl:xs.length≤maxLen) {post:Bool→Prop} (hp:post (xs.contains v)):Qj xs v post:=by
 unfold Qj
 refine Q2j hl ?_
 have:decide (fidx (fun x=>v == x) xs≥0)=xs.contains v:=by rw [Q0p,List.contains_eq_any_beq]
 rw [this];exact hp
def Asc (xs:List Int):Prop:=∀(i j:Nat) x y,i<j→xs[i]?=some x→xs[j]?=some y→x<y
theorem Zq {xs:List Int} {t:Int} (hl:xs.length≤maxLen) (ha:Asc xs) {post:Int×Bool→Prop} (hp:∀i,post (i,xs.contains t)):QP xs t post:=by
 unfold QP
 have hm:(xs.length:Int)≤9223372036854775807:=by simp [maxLen] at hl;omega
 refine Jn.mk (fun i:Int=>0≤i∧i≤xs.length∧(∀(j:Nat) x,(j:Int)<i→xs[j]?=some x→x<t)∧(∀(j:Nat) x,i≤(j:Int)→xs[j]?=some x→t≤x))
  (Loop.mk (fun s:Int×Int=>0≤s.1∧s.1≤s.2∧s.2≤xs.length∧(∀(j:Nat) x,(j:Int)<s.1→xs[j]?=some x→x<t)∧(∀(j:Nat) x,s.2≤(j:Int)→xs[j]?=some x→t≤x)) (fun s=>(s.2-s.1).toNat) ⟨by simp,by simp,by simp,fun j x hj=>absurd hj (by simp),fun j x hj hx=>?_⟩ ?_) ?_
 ·have:=(List.getElem?_eq_some_iff.1 hx).1
  simp at hj;omega
 ·rintro⟨i,j⟩ ⟨h0,h1,h2,h3,h4⟩
  simp only at h0 h1 h2 h3 h4
  refine Ite.mk (fun hlt=>?_) (fun hge=>?_)
  ·simp only [decide_eq_true_eq] at hlt
   have e:IntKind.wrap .i64 (shrI .u64 (IntKind.wrap .u64 (w64 (i+j))) 1)=(i+j) / 2:=by
    have e1:IntKind.wrap .u64 (w64 (i+j))=i+j:=by simp [w64,IntKind.wrap,IntKind.signed,IntKind.bits];omega
    rw [e1,shrI]
    have e2:(i+j).fdiv (2 ^ (min (1:Int).toNat IntKind.u64.bits))=(i+j) / 2:=by
     rw [Int.fdiv_eq_ediv_of_nonneg _ (by decide)];rfl
    rw [e2]
    exact Qx (by omega) (by omega)
   simp only []
   rw [e]
   have hmid:i≤(i+j) / 2∧(i+j) / 2<j:=by omega
   refine⟨_,Yu (by omega) (by omega),?_⟩
   generalize hx:xs[((i+j) / 2).toNat]'(by omega)=x
   have hx':xs[((i+j) / 2).toNat]?=some x:=by rw [List.getElem?_eq_getElem (by omega),hx]
   unfold Wn Gb
   refine Jn.eq (decide (x<t)) (Ite.f (by simp) rfl) ?_
   refine Jn.mk (fun s:Int×Int=>s=(if x<t then (i+j) / 2+1 else i,if x<t then j else (i+j) / 2)) (Ite.mk (fun h5=>?_) (fun h5=>?_)) ?_
   ·simp at h5;simp only [h5,if_true]
    rw [Qx (by omega) (by omega)]
   ·simp at h5;simp [Int.not_lt.2 h5]
   ·rintro⟨a,b⟩ e3
    cases e3
    by_cases h5:x<t
    ·simp only [h5,if_true]
     refine⟨⟨by omega,by omega,by omega,fun q y hq hy=>?_,h4⟩,by omega⟩
     rcases Nat.lt_or_ge q ((i+j) / 2).toNat with h6 | h6
     ·exact Int.lt_trans (ha _ _ _ _ h6 hy hx') h5
     ·have:q=((i+j) / 2).toNat:=by omega
      subst this;rw [hx'] at hy;cases hy;exact h5
    ·simp only [h5,if_false]
     refine⟨⟨by omega,by omega,by omega,h3,fun q y hq hy=>?_⟩,by omega⟩
     rcases Nat.lt_or_ge ((i+j) / 2).toNat q with h6 | h6
     ·have:=ha _ _ _ _ h6 hx' hy;omega
     ·have:q=((i+j) / 2).toNat:=by omega
      subst this;rw [hx'] at hy;cases hy;omega
  ·simp only [decide_eq_false_iff_not] at hge
   have:i=j:=by omega
   subst this
   exact⟨h0,h2,h3,h4⟩
 ·rintro i ⟨h0,h1,h3,h4⟩
  have hc:xs.contains t=true↔∃j:Nat,xs[j]?=some t:=by
   rw [List.contains_iff_mem];exact List.mem_iff_getElem?
  refine Jn.eq (xs.contains t) (Ite.mk (fun hlt=>?_) (fun hge=>?_)) (hp i)
  ·simp only [decide_eq_true_eq] at hlt
   refine⟨_,Yu h0 hlt,?_⟩
   generalize hx:xs[i.toNat]'(by omega)=x
   have hx':xs[i.toNat]?=some x:=by rw [List.getElem?_eq_getElem (by omega),hx]
   refine Ite.mk (fun h5=>?_) (fun h5=>?_)
   ·simp at h5;subst h5
    exact (hc.2 ⟨_,hx'⟩).symm
   ·unfold Xg
    refine Ite.f (by simp) ?_
    simp at h5
    cases hcc:xs.contains t
    ·rfl
    ·obtain⟨j,hj⟩:=hc.1 hcc
     exfalso
     rcases Nat.lt_or_ge j i.toNat with h6 | h6
     ·have:=h3 j t (by omega) hj;omega
     ·rcases Nat.lt_or_ge i.toNat j with h7 | h7
      ·have:=ha _ _ _ _ h7 hx' hj
       have:=h4 i.toNat x (by omega) hx'
       omega
      ·have:j=i.toNat:=by omega
       subst this;rw [hx'] at hj;cases hj;exact h5 rfl
  ·simp only [decide_eq_false_iff_not] at hge
   cases hcc:xs.contains t
   ·rfl
   ·obtain⟨j,hj⟩:=hc.1 hcc
    have:=(List.getElem?_eq_some_iff.1 hj).1
    have:=h3 j t (by omega) hj;omega
end Go.Taq
/- The mathematics, part D: zones, what is open, what is taken; a step of a walk. -/
set_option linter.unusedVariables false
namespace Go.Taq
open Go
structure RS (s:ApiSite):Prop where
 fl:RF s.Floor
 asc:∀z,z∈s.Zones→Asc z.Cells
 zc:∀z,z∈s.Zones→∀c,c∈z.Cells→isC s.Floor c=true
 sp:∀z,z∈s.Zones→1≤z.Speed∧z.Speed≤100
def zn (s:ApiSite) (c:Int):Int:=fidx (fun z:Qy=>z.Cells.contains c) s.Zones
def inS (t:Int) (x:Gg):Bool:=decide (x.From≤t)&&decide (t<x.To)
def spd (s:ApiSite) (c:Int):Int:=if zn s c<0 then 1 else (s.Zones.getD (zn s c).toNat default).Speed
def opn (s:ApiSite) (c t:Int):Bool:=isC s.Floor c&&(decide (zn s c<0)||!((s.Zones.getD (zn s c).toNat default).Shut.any (inS t)))
theorem zn_lt {s:ApiSite} {c:Int}:-1≤zn s c∧zn s c<s.Zones.length:=Q73
theorem Q52 {s:ApiSite} {c:Int} (h:0≤zn s c):idx s.Zones (zn s c)=some (s.Zones.getD (zn s c).toNat default):=by
 have:=zn_lt (s:=s) (c:=c)
 rw [Yu h (by omega),List.getD_eq_getElem?_getD,List.getElem?_eq_getElem (by omega)];rfl
theorem Q5S {s:ApiSite} {c:Int} (h:0≤zn s c):s.Zones.getD (zn s c).toNat default∈s.Zones:=by
 have:=zn_lt (s:=s) (c:=c)
 rw [List.getD_eq_getElem?_getD,List.getElem?_eq_getElem (by omega)];exact List.getElem_mem _
theorem Q2S {s:ApiSite} (h:RS s) (c:Int):1≤spd s c∧spd s c≤100:=by
 unfold spd
 split
 ·omega
 ·exact h.sp _ (Q5S (by omega))
theorem Q05 {s:ApiSite} (k:OkApiSite s) (h:RS s) {c:Int} {post:Int→Prop} (hp:post (zn s c)):G0 s c post:=by
 unfold G0 Qp
 have hl:=k.Zones.1
 simp only [maxLen] at hl
 have step:∀(x:Qy),x∈s.Zones→∀{post:Bool→Prop},post (x.Cells.contains c)→XQ x c post:=fun x hx post hp=>by
  unfold XQ
  exact Zq (k.Zones.2 x hx).Cells.1 (h.asc x hx) (fun _=>hp)
 refine Jn.mk (fun _=>post (-1)) (Loop.find s.Zones (fun z:Qy=>z.Cells.contains c) (fun i x hi hx hpx=>?_) (fun i x hi hx hpx hf=>?_) (fun hn hf=>?_)) (fun _ h=>h)
 ·refine Ite.t (by simp;omega) ⟨x,Qq rfl hx,step x (List.mem_of_getElem? hx) (Ite.f hpx ?_)⟩
  rw [Qx (by omega) (by omega)];omega
 ·refine Ite.t (by simp;omega) ⟨x,Qq rfl hx,step x (List.mem_of_getElem? hx) (Ite.t hpx ?_)⟩
  rw [zn,fidx,hf] at hp;exact hp
 ·refine Ite.f (by simp) ?_
  rw [zn,fidx,hf] at hp;exact hp
theorem ZQ {s:ApiSite} {c:Int} {post:Bool→Prop} (hp:post (isC s.Floor c)):KT s c post:=by
 unfold KT
 refine YS ?_
 have:(decide (c≥0)&&decide (c<(s.Floor.Kind.length:Int)))=isC s.Floor c:=rfl
 rw [this];exact hp
theorem Q0I {s:ApiSite} (k:OkApiSite s) (h:RS s) {c:Int} {post:Int→Prop} (hp:post (spd s c)):Gr s c post:=by
 unfold Gr
 refine Q05 k h (Ite.mk (fun h1=>⟨_,Q52 (by simpa using h1),?_⟩) (fun h1=>?_))
 ·simp at h1;rw [spd,if_neg (by omega)] at hp;exact hp
 ·simp at h1;rw [spd,if_pos (by omega)] at hp;exact hp
theorem Q3c {xs:List Gg} {t:Int} (hl:xs.length≤maxLen) {post:Bool→Prop} (hp:post (xs.any (inS t))):Qh xs t post:=by
 unfold Qh Qs
 simp only [maxLen] at hl
 rw [←Q0p] at hp
 have step:∀(x:Gg) {post:Bool→Prop},post (inS t x)→Gu x t post:=fun x post hp=>by unfold Gu;exact YS hp
 refine Jn.mk (fun _=>post (decide ((-1:Int)≥0))) (Loop.find xs (inS t) (fun i x hi hx hpx=>?_) (fun i x hi hx hpx hf=>?_) (fun hn hf=>?_)) (fun _ h=>h)
 ·refine Ite.t (by simp;omega) ⟨x,Qq rfl hx,step x (Ite.f hpx ?_)⟩
  rw [Qx (by omega) (by omega)];omega
 ·refine Ite.t (by simp;omega) ⟨x,Qq rfl hx,step x (Ite.t hpx ?_)⟩
  rw [fidx,hf] at hp;exact hp
 ·refine Ite.f (by simp) ?_
  rw [fidx,hf] at hp;exact hp
theorem Q49 {s:ApiSite} (k:OkApiSite s) (h:RS s) {c t:Int} {post:Bool→Prop} (hp:post (opn s c t)):Wx s c t post:=by
 unfold Wx
 refine Q05 k h ?_
 refine Jn.eq (!isC s.Floor c||decide (zn s c<0)) (ZQ (Ite.mk (fun h1=>by rw [h1];rfl) (fun h1=>by rw [h1];rfl))) (Ite.mk (fun h1=>ZQ ?_) (fun h1=>?_))
 ·have:opn s c t=isC s.Floor c:=by
   unfold opn
   cases hc:isC s.Floor c
   ·rfl
   ·rw [hc] at h1;simp only [Bool.not_true,Bool.false_or] at h1;simp [h1]
  rw [←this];exact hp
 ·simp only [Bool.or_eq_false_iff,Bool.not_eq_false',decide_eq_false_iff_not,Int.not_lt] at h1
  refine⟨_,Q52 h1.2,Q3c (k.Zones.2 _ (Q5S h1.2)).Shut.1 ?_⟩
  have:opn s c t=!((s.Zones.getD (zn s c).toNat default).Shut.any (inS t)):=by
   unfold opn;rw [h1.1,decide_eq_false (Int.not_lt.2 h1.2)];rfl
  rw [←this];exact hp
/-! ## what is taken -/
end Go.Taq
/- The mathematics, part R: right sites. -/
set_option linter.unusedVariables false
namespace Go.Taq
open Go
theorem YO {l:List Int} (hm:l.length≤maxLen) {n:Int} {post:Bool→Prop} (hp:post (l.contains n)):K9 l n post:=by
 unfold K9
 exact Q7j hm (p:=fun x=>x == n) (by rw [any_beq];exact hp)
theorem Q46 {f:ApiFloor} (h:RF f) {post:Int→Prop} (hp:post f.Kind.length):Xb f post:=by
 unfold Xb;rw [h.size];exact hp
theorem XY {f:ApiFloor} (h:RF f) {c:Int} {post:Bool→Prop} (hp:post (isC f c)):QG f c post:=by
 unfold QG
 refine Jn.mk' (Ite.mk (fun h1=>Q46 h ?_) (fun h1=>?_))
 ·have:isC f c=decide (c<f.Kind.length):=by simp at h1;simp [isC,h1]
  rw [←this];exact hp
 ·have:isC f c=false:=by simp at h1;simp [isC];omega
  rw [←this];exact hp
theorem Q47 {f:ApiFloor} (h:RF f) {x y z:Int} {post:Int→Prop} (hp:post (Wf f x y z)):QM f x y z post:=by
 unfold QM
 refine Jor6 (Ite.mk (fun h1=>?_) (fun h1=>?_))
 ·have:Wf f x y z=-1:=by
   unfold Wf
   rw [if_neg]
   simp only [Bool.or_eq_true,decide_eq_true_eq] at h1
   omega
  rw [←this];exact hp
 ·have:0≤x∧x<f.W∧0≤y∧y<f.H∧0≤z∧z<f.D:=by
   simp only [Bool.or_eq_false_iff,decide_eq_false_iff_not] at h1
   omega
  rw [Q5J h this];exact hp
theorem Q5q {f:ApiFloor} (h:RF f) {c:Int} (hc:isC f c=true) {post:(Int×Int×Int)→Prop} (hp:post (pX f c,pY f c,pZ f c)):XU f c post:=by
 unfold XU
 refine XY h ?_
 rw [hc]
 refine Ite.f rfl ?_
 rw [QU] at hc
 have w:=h.W1;have hh:=h.H1;have hd:=h.D1;have wh:=h.wh;have hl:=h.len.1
 have e1:0≤c / f.W∧c / f.W≤c:=⟨Int.ediv_nonneg hc.1 (by omega),Int.ediv_le_self _ hc.1⟩
 have e2:0≤c / f.W / f.H∧c / f.W / f.H≤c / f.W:=⟨Int.ediv_nonneg e1.1 (by omega),Int.ediv_le_self _ e1.1⟩
 refine⟨by omega,by omega,by omega,?_⟩
 rw [Int.tmod_eq_emod_of_nonneg hc.1,Int.tdiv_eq_ediv_of_nonneg hc.1,Qx (x:=c / f.W) (by omega) (by omega),Int.tmod_eq_emod_of_nonneg e1.1,Int.tdiv_eq_ediv_of_nonneg e1.1,Qx (x:=c / f.W / f.H) (by omega) (by omega)]
 exact⟨by omega,by omega,hp⟩
theorem ZU {f:ApiFloor} (h:RF f) {c d:Int} {post:Int→Prop} (hp:post (nbr f c d)):Kf f c d post:=by
 unfold Kf
 refine XY h (Ite.mk (fun h1=>?_) (fun h1=>?_))
 ·simp only [Bool.not_eq_true'] at h1
  rw [nbr,if_pos h1] at hp;exact hp
 ·simp only [Bool.not_eq_false'] at h1
  refine Q5q h h1 ?_
  have hb:=p_bd h h1
  have w:=h.W4;have hh:=h.H4;have hd:=h.D4
  rw [nbr,if_neg (by simp [h1])] at hp
  simp only [Q6C,beq_iff_eq]
  repeat' split at hp
  all_goals (repeat' split) <;> first | omega | skip
  all_goals first | (refine Q47 h ?_;(try simp only []);rw [Qx (by omega) (by omega)];exact hp) | exact hp
def shAt (l:List QD) (c:Int):Int:=fidx (fun x:QD=>x.Cell == c) l
def zAt (l:List Qy) (c:Int):Bool:=l.any fun z=>z.Cells.contains c
def rbAt (l:List QL) (c:Int):Bool:=l.any fun x=>x.Cell == c
def Q1m (k:Int):Bool:=(k == 1)||(k == 2)
def Q2N (k:Int):Bool:=(k != 0)&&(k != 4)&&(k != 5)
def nosh (x:ByteArray):Bool:=seq x ByteArray.empty
def apB (l:List Q8) (a b:ByteArray):Bool:=!nosh a&&!nosh b&&l.any fun x=>(seq x.A a&&seq x.B b)||(seq x.A b&&seq x.B a)
def YD:Int→List Gg→Prop
 | _,[]=>True
 | t,x :: r=>t≤x.From∧x.From<x.To∧x.To≤20000∧YD x.To r
def Zu (s:ApiSite) (c:Int):Bool:=Q1m (kd s.Floor c)&&decide (shAt s.Shelves c<0)
end Go.Taq
