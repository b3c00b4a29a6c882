/- The mathematics, several parts in one text. -/
import Derived.Test.YtlaehjhkcanffaaVc
import Derived.Test.YtlaehjhkcanffaaMA
/- The mathematics, part B: right floors, and the cells beside a cell. -/
set_option linter.unusedVariables false
namespace Go.Taq
open Go
structure RF (f:ApiFloor):Prop where
 W1:1≤f.W
 H1:1≤f.H
 D1:1≤f.D
 D4:f.D≤4
 W4:f.W≤4096
 H4:f.H≤4096
 n4:f.W*f.H*f.D≤4096
 kl:(f.Kind.length:Int)=f.W*f.H*f.D
 ol:(f.Out.length:Int)=f.W*f.H*f.D
 ko:∀(i:Nat) x y,f.Kind[i]?=some x→f.Out[i]?=some y→0≤x∧x<7∧0≤y∧y≤63
theorem Q1b {a b p q:Int} (ha:0≤a) (hb:0≤b) (h1:a≤p) (h2:b≤q):0≤a*b∧a*b≤p*q:=
 ⟨Int.mul_nonneg ha hb,Int.mul_le_mul h1 h2 hb (by omega)⟩
theorem Q03 {f:ApiFloor} (w1:1≤f.W) (h1:1≤f.H) (d1:1≤f.D) (d4:f.D≤4) (w4:f.W≤4096) (h4:f.H≤4096):w64 ((w64 (f.W*f.H))*f.D)=f.W*f.H*f.D∧w64 (f.W*f.H)=f.W*f.H∧1≤f.W*f.H∧f.W*f.H≤16777216:=by
 have a:=Q1b (by omega:0≤f.W) (by omega:0≤f.H) w4 h4
 have b:=Q1b a.1 (by omega:0≤f.D) a.2 d4
 have c:1*1≤f.W*f.H:=Int.mul_le_mul w1 h1 (by omega) (by omega)
 rw [Qn (x:=f.W*f.H) (by omega) (by omega),Qn (x:=f.W*f.H*f.D) (by omega) (by omega)]
 exact⟨rfl,rfl,by omega,by omega⟩
theorem RF.size {f:ApiFloor} (h:RF f):w64 ((w64 (f.W*f.H))*f.D)=f.Kind.length:=by rw [(Q03 h.W1 h.H1 h.D1 h.D4 h.W4 h.H4).1,h.kl]
theorem RF.wh {f:ApiFloor} (h:RF f):w64 (f.W*f.H)=f.W*f.H∧1≤f.W*f.H∧f.W*f.H≤4096:=by
 have e:=Q03 h.W1 h.H1 h.D1 h.D4 h.W4 h.H4
 refine⟨e.2.1,e.2.2.1,?_⟩
 have:f.W*f.H*1≤f.W*f.H*f.D:=Int.mul_le_mul_of_nonneg_left h.D1 (by omega)
 have:=h.n4;omega
theorem RF.len {f:ApiFloor} (h:RF f):f.Kind.length≤4096∧f.Out.length=f.Kind.length:=by
 have:=h.kl;have:=h.ol;have:=h.n4;omega
theorem Z6 {f:ApiFloor} {post:Bool→Prop} (hF:post false) (hT:RF f→post true):K0 f post:=by
 unfold K0
 refine Jor6 ?_
 refine Ite.mk (fun _=>hF) (fun h1=>?_)
 simp only [Bool.or_eq_false_iff,decide_eq_false_iff_not] at h1
 obtain⟨⟨⟨⟨⟨a1,a2⟩,a3⟩,a4⟩,a5⟩,a6⟩:=h1
 have e:=Q03 (f:=f) (by omega) (by omega) (by omega) (by omega) (by omega) (by omega)
 rw [e.1]
 refine Jor3 ?_
 refine Ite.mk (fun _=>hF) (fun h2=>?_)
 simp only [Bool.or_eq_false_iff,decide_eq_false_iff_not,bne_eq_false_iff_eq] at h2
 obtain⟨⟨b1,b2⟩,b3⟩:=h2
 rw [←b2]
 refine Jn.mk (fun _=>∀i:Nat,i<f.Kind.length→∀x y,f.Kind[i]?=some x→f.Out[i]?=some y→0≤x∧x<7∧0≤y∧y≤63)
  (Loop.mk (fun s:Int=>0≤s∧s≤f.Kind.length∧∀i:Nat,(i:Int)<s→∀x y,f.Kind[i]?=some x→f.Out[i]?=some y→0≤x∧x<7∧0≤y∧y≤63) (fun s=>(f.Kind.length-s).toNat) ⟨by omega,by omega,fun i hi=>by omega⟩ ?_) ?_
 ·rintro s ⟨h0,hn,hall⟩
  refine Ite.mk (fun hlt=>?_) (fun hge=>?_)
  ·simp only [decide_eq_true_eq] at hlt
   obtain⟨n,rfl⟩:=Int.eq_ofNat_of_zero_le h0
   have hk:f.Kind[n]?=some (f.Kind[n]'(by omega)):=List.getElem?_eq_getElem _
   have ho:f.Out[n]?=some (f.Out[n]'(by omega)):=List.getElem?_eq_getElem _
   refine Jn.eq (decide (f.Kind[n]'(by omega)<0)||decide (f.Kind[n]'(by omega)≥7)||decide (f.Out[n]'(by omega)<0)||decide (f.Out[n]'(by omega)>63)) ⟨_,QM rfl hk,?_⟩ ?_
   ·refine Ite.mk (fun h=>by rw [h];rfl) (fun h=>Ite.mk (fun h'=>by rw [h,h'];rfl) (fun h'=>⟨_,QM rfl ho,Ite.mk (fun h''=>by rw [h,h',h''];rfl) (fun h''=>by rw [h,h',h''];rfl)⟩))
   ·refine Ite.mk (fun _=>hF) (fun h3=>?_)
    simp only [Bool.or_eq_false_iff,decide_eq_false_iff_not] at h3
    rw [Qn (by omega) (by omega)]
    refine⟨⟨by omega,by omega,fun i hi x y hx hy=>?_⟩,by omega⟩
    rcases Nat.lt_or_ge i n with hlt' | hge'
    ·exact hall i (by omega) x y hx hy
    ·have:i=n:=by omega
     subst this
     rw [hk] at hx;rw [ho] at hy
     cases hx;cases hy
     omega
  ·simp only [decide_eq_false_iff_not] at hge
   exact fun i hi=>hall i (by omega)
 ·exact fun _ h3=>hT ⟨by omega,by omega,by omega,by omega,by omega,by omega,by omega,b2,b3,fun i x y hx hy=>h3 i (List.getElem?_eq_some_iff.1 hx).1 x y hx hy⟩
def isC (f:ApiFloor) (c:Int):Bool:=decide (0≤c)&&decide (c<f.Kind.length)
theorem Zm {f:ApiFloor} (h:RF f) {post:Int→Prop} (hp:post f.Kind.length):X9 f post:=by
 unfold X9;rw [h.size];exact hp
theorem YS {f:ApiFloor} (h:RF f) {c:Int} {post:Bool→Prop} (hp:post (isC f c)):Xh f c post:=by
 unfold Xh
 refine Jn.eq (isC f c) (Ite.mk (fun h1=>Zm h ?_) (fun h1=>?_)) hp
 ·simp at h1;simp [isC,h1]
 ·simp at h1;simp [isC];omega
def kd (f:ApiFloor) (c:Int):Int:=f.Kind.getD c.toNat 0
def ot (f:ApiFloor) (c:Int):Int:=f.Out.getD c.toNat 0
theorem Qo {f:ApiFloor} {c:Int}:isC f c=true↔0≤c∧c<f.Kind.length:=by simp [isC]
theorem Y5 {f:ApiFloor} {c:Int}:isC f c=false↔¬(0≤c∧c<f.Kind.length):=by rw [←Qo];simp
theorem Xo {f:ApiFloor} {c:Int} (h:isC f c=true):idx f.Kind c=some (kd f c):=by
 rw [Qo] at h
 rw [Wn h.1 h.2,kd,List.getD_eq_getElem?_getD,List.getElem?_eq_getElem (by omega)];rfl
theorem Q2g {f:ApiFloor} (hf:RF f) {c:Int} (h:isC f c=true):idx f.Out c=some (ot f c):=by
 rw [Qo] at h
 have:=hf.len.2
 rw [Wn h.1 (by omega),ot,List.getD_eq_getElem?_getD,List.getElem?_eq_getElem (by omega)];rfl
theorem Q13 {x y k:Int}:imin x y<k↔x<k∨y<k:=by unfold imin;split <;> omega
def KN (f:ApiFloor) (x y z:Int):Int:=if 0≤x∧x<f.W∧0≤y∧y<f.H∧0≤z∧z<f.D then (z*f.H+y)*f.W+x else -1
theorem Q0c {f:ApiFloor} (h:RF f) {x y z:Int} (h1:0≤x∧x<f.W∧0≤y∧y<f.H∧0≤z∧z<f.D):
  0≤z*f.H∧z*f.H≤16384∧0≤(z*f.H+y)*f.W∧(z*f.H+y)*f.W+x<f.Kind.length:=by
 obtain⟨a1,a2,a3,a4,a5,a6⟩:=h1
 have w:=h.W4;have hh:=h.H4;have d:=h.D4
 have b:=Q1b a5 (by omega:0≤f.H) (by omega:z≤4) hh
 have e1:(z+1)*f.H≤f.D*f.H:=Int.mul_le_mul_of_nonneg_right (by omega) (by omega)
 have e2:(z+1)*f.H=z*f.H+f.H:=by rw [Int.add_mul];omega
 have e3:z*f.H+y+1≤f.D*f.H:=by omega
 have e4:(z*f.H+y+1)*f.W≤f.D*f.H*f.W:=Int.mul_le_mul_of_nonneg_right e3 (by omega)
 have e5:(z*f.H+y+1)*f.W=(z*f.H+y)*f.W+f.W:=by rw [Int.add_mul (z*f.H+y)];omega
 have e6:f.D*f.H*f.W=f.W*f.H*f.D:=by rw [Int.mul_comm f.D f.H,Int.mul_comm _ f.W,Int.mul_assoc f.W f.H f.D]
 have e7:0≤(z*f.H+y)*f.W:=Int.mul_nonneg (by omega) (by omega)
 have:=h.kl
 exact⟨b.1,by omega,e7,by omega⟩
theorem Q1d {f:ApiFloor} (h:RF f) (x y z:Int):KN f x y z=-1∨isC f (KN f x y z)=true:=by
 unfold KN
 split
 ·rename_i h1
  have:=Q0c h h1
  exact .inr (Qo.2 (by omega))
 ·exact .inl rfl
theorem Q17 {f:ApiFloor} (h:RF f) {x y z:Int} (h1:0≤x∧x<f.W∧0≤y∧y<f.H∧0≤z∧z<f.D):w64 ((w64 ((w64 ((w64 (z*f.H))+y))*f.W))+x)=KN f x y z:=by
 have:=Q0c h h1
 have:=h.len.1;have:=h.H4
 rw [Qn (x:=z*f.H) (by omega) (by omega),Qn (x:=z*f.H+y) (by omega) (by omega),Qn (x:=(z*f.H+y)*f.W) (by omega) (by omega),Qn (by omega) (by omega),KN,if_pos h1]
def pX (f:ApiFloor) (c:Int):Int:=c % f.W
def pY (f:ApiFloor) (c:Int):Int:=c / f.W % f.H
def pZ (f:ApiFloor) (c:Int):Int:=c / f.W / f.H
theorem p_bd {f:ApiFloor} (h:RF f) {c:Int} (hc:isC f c=true):0≤pX f c∧pX f c<f.W∧0≤pY f c∧pY f c<f.H∧0≤pZ f c∧pZ f c<f.D:=by
 rw [Qo] at hc
 have w:=h.W1;have hh:=h.H1;have hd:=h.D1
 refine⟨Int.emod_nonneg _ (by omega),Int.emod_lt_of_pos _ (by omega),Int.emod_nonneg _ (by omega),Int.emod_lt_of_pos _ (by omega),Int.ediv_nonneg (Int.ediv_nonneg hc.1 (by omega)) (by omega),?_⟩
 unfold pZ
 refine Int.ediv_lt_of_lt_mul (by omega) (Int.ediv_lt_of_lt_mul (by omega) ?_)
 have:=h.kl
 have e6:f.D*f.H*f.W=f.W*f.H*f.D:=by rw [Int.mul_comm f.D f.H,Int.mul_comm _ f.W,Int.mul_assoc f.W f.H f.D]
 omega
def nbr (f:ApiFloor) (c d:Int):Int:=
 if isC f c=false then -1 else
 if d=0 then KN f (pX f c+1) (pY f c) (pZ f c) else if d=1 then KN f (pX f c) (pY f c+1) (pZ f c) else
 if d=2 then KN f (pX f c-1) (pY f c) (pZ f c) else if d=3 then KN f (pX f c) (pY f c-1) (pZ f c) else
 if d=4 then KN f (pX f c) (pY f c) (pZ f c+1) else if d=5 then KN f (pX f c) (pY f c) (pZ f c-1) else -1
theorem Q1z {f:ApiFloor} (h:RF f) (c d:Int):nbr f c d=-1∨isC f (nbr f c d)=true:=by
 unfold nbr
 repeat' split
 all_goals first | exact .inl rfl | exact Q1d h _ _ _
def nx (f:ApiFloor) (c d:Int):Int×Bool:=
 if nbr f c d<0∨kd f c=0∨kd f (nbr f c d)=0∨band .i64 (shrI .i64 (ot f c) d) 1=0 then (0,false)
 else if 4≤d∧(kd f c≠6∨kd f (nbr f c d)≠6) then (0,false) else (nbr f c d,true)
theorem Xt {f:ApiFloor} (h:RF f) {c d:Int} (hn:(nx f c d).2=true):isC f c=true∧isC f (nx f c d).1=true∧0≤d∧d<6∧kd f (nx f c d).1≠0∧kd f c≠0:=by
 unfold nx at hn ⊢
 split at hn
 ·cases hn
 ·rename_i h1
  split at hn
  ·cases hn
  ·rename_i h2
   rw [if_neg h1,if_neg h2]
   simp only [not_or] at h1
   obtain⟨a1,a2,a3,a4⟩:=h1
   have hb:=Q1z h c d
   have hc:isC f c=true:=by
    cases hc:isC f c
    ·exact absurd (by rw [nbr,if_pos hc];omega) a1
    ·rfl
   have hd:0≤d∧d<6:=by
    unfold nbr at a1
    rw [if_neg (by simp [hc])] at a1
    repeat' split at a1
    all_goals omega
   exact⟨hc,by rcases hb with e | e;(exact absurd (by omega) a1);exact e,hd.1,hd.2,a3,a2⟩
theorem Q0x {f:ApiFloor} (h:RF f) {c:Int} (hc:isC f c=true) {post:(Int×Int×Int)→Prop} (hp:post (pX f c,pY f c,pZ f c)):XD f c post:=by
 unfold XD
 refine YS h ?_
 rw [hc]
 refine Ite.f rfl ?_
 rw [Qo] at hc
 have w:=h.W1;have hh:=h.H1;have hd:=h.D1;have wh:=h.wh;have hl:=h.len.1
 have e1:0≤c / f.W∧c / f.W≤c:=⟨Int.ediv_nonneg hc.1 (by omega),Int.ediv_le_self _ hc.1⟩
 have e2:0≤c / (f.W*f.H)∧c / (f.W*f.H)≤c:=⟨Int.ediv_nonneg hc.1 (by omega),Int.ediv_le_self _ hc.1⟩
 rw [wh.1]
 refine⟨by omega,by omega,by omega,by omega,?_⟩
 rw [Int.tmod_eq_emod_of_nonneg hc.1,Int.tdiv_eq_ediv_of_nonneg hc.1,Qn (x:=c / f.W) (by omega) (by omega),Int.tmod_eq_emod_of_nonneg e1.1,Int.tdiv_eq_ediv_of_nonneg hc.1,Qn (x:=c / (f.W*f.H)) (by omega) (by omega),←Int.ediv_ediv_of_nonneg (by omega:0≤f.W)]
 exact hp
theorem Zl {f:ApiFloor} (h:RF f) {x y z:Int} {post:Int→Prop} (hp:post (KN f x y z)):X7 f x y z post:=by
 unfold X7
 refine Jor4 (Ite.mk (fun h1=>?_) (fun h1=>?_))
 ·have:KN f x y z=-1:=by
   unfold KN
   rw [if_neg]
   simp only [Bool.or_eq_true,decide_eq_true_eq,Q13] at h1
   omega
  rw [←this];exact hp
 ·have:0≤x∧x<f.W∧0≤y∧y<f.H∧0≤z∧z<f.D:=by
   simp only [Bool.or_eq_false_iff,decide_eq_false_iff_not,Q13] at h1
   omega
  rw [Q17 h this];exact hp
theorem YC {f:ApiFloor} (h:RF f) {c d:Int} {post:Int→Prop} (hp:post (nbr f c d)):KL f c d post:=by
 unfold KL
 refine Jn.eq (!isC f c||decide (d<0)||decide (d≥6)) (YS h ?_) (Ite.mk (fun h1=>?_) (fun h1=>?_))
 ·cases isC f c
  ·exact Ite.f rfl rfl
  ·exact Ite.t rfl (Ite.mk (fun h=>by rw [h];rfl) (fun h=>by rw [h];rfl))
 ·have:nbr f c d=-1:=by
   unfold nbr
   simp only [Bool.or_eq_true,Bool.not_eq_true',decide_eq_true_eq] at h1
   split
   ·rfl
   ·rename_i h2
    have h3:¬(0≤d∧d<6):=by
     rcases h1 with (h1 | h1) | h1
     ·exact absurd h1 h2
     ·omega
     ·omega
    rw [if_neg (by omega),if_neg (by omega),if_neg (by omega),if_neg (by omega),if_neg (by omega),if_neg (by omega)]
  rw [←this];exact hp
 ·simp only [Bool.or_eq_false_iff,Bool.not_eq_false',decide_eq_false_iff_not] at h1
  obtain⟨⟨hc,h2⟩,h3⟩:=h1
  refine Q0x h hc (post:=_) ?_
  unfold Xc
  have hb:=p_bd h hc
  have w:=h.W4;have hh:=h.H4;have hd:=h.D4
  have hn:nbr f c d=(if d=0 then KN f (pX f c+1) (pY f c) (pZ f c) else if d=1 then KN f (pX f c) (pY f c+1) (pZ f c) else
    if d=2 then KN f (pX f c-1) (pY f c) (pZ f c) else if d=3 then KN f (pX f c) (pY f c-1) (pZ f c) else
    if d=4 then KN f (pX f c) (pY f c) (pZ f c+1) else if d=5 then KN f (pX f c) (pY f c) (pZ f c-1) else -1):=by
   unfold nbr;rw [if_neg (by simp [hc])]
  have hd6:d=0∨d=1∨d=2∨d=3∨d=4∨d=5:=by omega
  rcases hd6 with e | e | e | e | e | e <;> subst e <;> simp only [if_pos,Int.reduceEq,if_false] at hn <;> rw [hn] at hp <;>
   refine⟨_,rfl,Zl h ?_⟩ <;> (try simp only []) <;> rw [Qn (by omega) (by omega),Qn (by omega) (by omega),Qn (by omega) (by omega)] <;>
   first | exact hp | (simpa [Int.sub_eq_add_neg] using hp)
theorem Ga {f:ApiFloor} (h:RF f) {c d:Int} {post:Int×Bool→Prop} (hp:post (nx f c d)):KA f c d post:=by
 unfold KA
 refine YC h ?_
 have hb:=Q1z h c d
 have hc:0≤nbr f c d→isC f c=true∧0≤d∧d<6:=fun a1=>by
  have hc:isC f c=true:=by
   cases hc:isC f c
   ·exact absurd (by rw [nbr,if_pos hc];omega) (Int.not_lt.2 a1)
   ·rfl
  refine⟨hc,?_⟩
  unfold nbr at a1
  rw [if_neg (by simp [hc])] at a1
  repeat' split at a1
  all_goals omega
 have hn:0≤nbr f c d→isC f (nbr f c d)=true:=fun a1=>by rcases hb with e | e;(exact absurd a1 (by omega));exact e
 refine Jn.eq (decide (nbr f c d<0∨kd f c=0∨kd f (nbr f c d)=0∨band .i64 (shrI .i64 (ot f c) d) 1=0)) (Ite.mk (fun h1=>?_) (fun h1=>?_)) (Ite.mk (fun h1=>?_) (fun h1=>?_))
 ·simp only [decide_eq_true_eq] at h1;simp [h1]
 ·simp only [decide_eq_false_iff_not,Int.not_lt] at h1
  obtain⟨hc,hd⟩:=hc h1
  refine⟨_,Xo hc,Ite.mk (fun h2=>?_) (fun h2=>⟨_,Xo (hn h1),Ite.mk (fun h3=>?_) (fun h3=>⟨_,Q2g h hc,hd.1,?_⟩)⟩)⟩
  ·simp at h2;simp [h2]
  ·simp at h3;simp [h3]
  ·simp at h2 h3;simp only [h2,h3,Int.not_lt.2 h1,false_or];rfl
 ·simp only [decide_eq_true_eq] at h1
  have:nx f c d=(0,false):=by unfold nx;rw [if_pos h1]
  rw [←this];exact hp
 ·simp only [decide_eq_false_iff_not] at h1
  have h0:0≤nbr f c d:=by simp only [not_or] at h1;omega
  obtain⟨hc,hd⟩:=hc h0
  have e:nx f c d=if 4≤d∧(kd f c≠6∨kd f (nbr f c d)≠6) then (0,false) else (nbr f c d,true):=by unfold nx;rw [if_neg h1]
  have lift:∀{J:Bool→Prop},J (decide (kd f c≠6∨kd f (nbr f c d)≠6))→∃x15,idx f.Kind c=some x15∧Ite (x15 != 6) (J true) (∃x17,idx f.Kind (nbr f c d)=some x17∧J (x17 != 6)):=fun {J} hJ=>by
   refine⟨_,Xo hc,Ite.mk (fun h2=>?_) (fun h2=>⟨_,Xo (hn h0),?_⟩)⟩
   ·simp at h2;simpa [h2] using hJ
   ·simp at h2
    have e:(kd f (nbr f c d) != 6)=decide (kd f c≠6∨kd f (nbr f c d)≠6):=by rw [h2];by_cases h3:kd f (nbr f c d)=6 <;> simp [h3]
    rw [e];exact hJ
  refine Jn.eq (decide (4≤d∧(kd f c≠6∨kd f (nbr f c d)≠6))) (Ite.mk (fun h2=>?_) (fun h2=>Ite.mk (fun h3=>?_) (fun h3=>?_))) (Ite.mk (fun h2=>?_) (fun h2=>?_))
  ·simp at h2;exact lift (J:=fun x=>x=decide (4≤d∧(kd f c≠6∨kd f (nbr f c d)≠6))) (by simp [h2])
  ·simp at h3;exact lift (J:=fun x=>x=decide (4≤d∧(kd f c≠6∨kd f (nbr f c d)≠6))) (by simp [h3])
  ·simp at h2 h3
   have:¬4≤d:=by omega
   simp [this]
  ·simp only [decide_eq_true_eq] at h2
   rw [e,if_pos h2] at hp;exact hp
  ·simp only [decide_eq_false_iff_not] at h2
   rw [e,if_neg h2] at hp;exact hp
end Go.Taq
/- The mathematics, part R0: more about loops and joins, and lists. -/
set_option linter.unusedVariables false
namespace Go.Taq
open Go
theorem Loop.inv {σ:Type} {body:σ→(σ→Prop)→Prop} {s0:σ} (n:Nat) (I:Nat→σ→Prop) (h0:I 0 s0) (hs:∀i s,i<n→I i s→body s (I (i+1))) (he:∀s,I n s→body s (fun _=>False)):Loop body s0:=by
 intro X hX
 have key:∀k i,i+k=n→∀s,I i s→X s:=by
  intro k
  induction k with
  | zero=>intro i hi s h;have:i=n:=by omega
          subst this;exact hX _ _ (he s h) (fun _ h=>h.elim)
  | succ k ih=>intro i hi s h;exact hX _ _ (hs i s (by omega) h) (fun s' e=>ih (i+1) (by omega) s' e)
 exact key n 0 (by omega) s0 h0
theorem Loop.upto {body:Int→(Int→Prop)→Prop} (n:Nat) (I:Nat→Prop) (h0:I 0) (hs:∀i:Nat,i<n→I i→∀Y:Int→Prop,(I (i+1)→Y ((i+1:Nat):Int))→body (i:Int) Y) (he:I n→body (n:Int) (fun _=>False)):Loop body 0:=
 Loop.inv n (fun i s=>s=(i:Int)∧I i) ⟨rfl,h0⟩ (fun i s hi h=>by obtain⟨rfl,h⟩:=h;exact hs i hi h _ (fun h'=>⟨rfl,h'⟩)) (fun s h=>by obtain⟨rfl,h⟩:=h;exact he h)
theorem Loop.each {α:Type} (xs:List α) {body:Int→(Int→Prop)→Prop} (hm:xs.length≤maxLen) (I:Nat→Prop) (h0:I 0)
  (hs:∀(i:Nat) (x:α),xs[i]?=some x→idx xs (i:Int)=some x→(i:Int)<xs.length→I i→∀Y:Int→Prop,(I (i+1)→Y (w64 ((i:Int)+1)))→body (i:Int) Y) (he:I xs.length→body (xs.length:Int) (fun _=>False)):Loop body 0:=
 Loop.upto xs.length I h0 (fun i hi h Y hY=>hs i _ (List.getElem?_eq_getElem hi) (QM rfl (List.getElem?_eq_getElem hi)) (by omega) h Y (fun h'=>by
  have:=hY h'
  rw [Qn (by omega) (by simp [maxLen] at hm;omega)]
  simpa using this)) he
theorem Jn.ex {σ α:Type} {P:α→Prop} {A:α→(σ→Prop)→Prop} {k:σ→Prop} (x:α) (hx:P x) (h:Jn (A x) k):Jn (fun J=>∃x,P x∧A x J) k:=by
 obtain⟨J,h1,h2⟩:=h
 exact⟨J,h1,x,hx,h2⟩
theorem G9 {i n:Nat} (h:i<n) (hn:n≤maxLen):w64 ((i:Int)+1)=((i+1:Nat):Int):=by
 rw [Qn (by omega) (by simp [maxLen] at hn;omega)];simp
theorem Ite.lt {i n:Int} {A B:Prop} (h:i<n) (k:A):Ite (decide (i<n)) A B:=Ite.t (by simpa using h) k
theorem Ite.nlt {i n:Int} {A B:Prop} (h:¬i<n) (k:B):Ite (decide (i<n)) A B:=Ite.f (by simpa using h) k
theorem Ite.of {b:Bool} {A B:Prop} (h:if b=true then A else B):Ite b A B:=by rw [Q1B];exact h
theorem Q0U {α:Type} {xs:List α} (hm:xs.length≤maxLen) (p:α→Bool) {T:α→(Bool→Prop)→Prop} (hT:∀x,x∈xs→∀{post:Bool→Prop},post (p x)→T x post) {A:Int→α→Prop} {B:Prop}
  (hA:∀(i:Nat) x,xs[i]?=some x→p x=true→xs.findIdx? p=some i→A (i:Int) x) (hB:(∀x,x∈xs→p x=false)→xs.findIdx? p=none→B):
  Jn (fun (J:Unit→Prop)=>Loop (fun (s:Int) Y=>Ite (decide (s<(xs.length:Int))) (∃x,idx xs s=some x∧T x (fun b=>Ite b (A s x) (Y (w64 (s+1))))) (J ())) 0) (fun _=>B):=by
 refine Jn.mk (fun _=>B) (Loop.find xs p (fun i x hi hx hp=>?_) (fun i x hi hx hp hf=>?_) (fun hn hf=>?_)) (fun _ h=>h)
 ·exact Ite.lt (by omega) ⟨x,QM rfl hx,hT x (List.mem_of_getElem? hx) (Ite.f hp (G9 hi hm))⟩
 ·exact Ite.lt (by omega) ⟨x,QM rfl hx,hT x (List.mem_of_getElem? hx) (Ite.t hp (hA i x hx hp hf))⟩
 ·exact Ite.nlt (by omega) (hB hn hf)
theorem Q1u {α:Type} {p:α→Bool} {xs:List α} {i:Nat} (h:xs.findIdx? p=some i):xs.any p=true:=by
 obtain⟨hm,hp,_⟩:=List.findIdx?_eq_some_iff_getElem.1 h
 exact List.any_eq_true.2 ⟨_,List.getElem_mem hm,hp⟩
theorem Q1l {α:Type} {p:α→Bool} {xs:List α} (h:∀x,x∈xs→p x=false):xs.any p=false:=by
 rw [List.any_eq_false];intro x hx;simp [h x hx]
section
variable {α:Type} {xs:List α} (hm:xs.length≤maxLen)
include hm
theorem Q0G (p:α→Bool) {T:α→(Bool→Prop)→Prop} (hT:∀x,x∈xs→∀{post:Bool→Prop},post (p x)→T x post) {post:Bool→Prop} (hp:post (xs.any p)):
  Jn (fun (J:Unit→Prop)=>Loop (fun (s:Int) Y=>Ite (decide (s<(xs.length:Int))) (∃x,idx xs s=some x∧T x (fun b=>Ite b (post true) (Y (w64 (s+1))))) (J ())) 0) (fun _=>post false):=
 Q0U hm p hT (A:=fun _ _=>post true) (fun i x _ _ hf=>by rw [←Q1u hf];exact hp) (fun hn _=>by rw [←Q1l hn];exact hp)
theorem Q0O (p:α→Bool) {T:α→(Bool→Prop)→Prop} (hT:∀x,x∈xs→∀{post:Bool→Prop},post (p x)→T x post) {post:Int→Prop} (hp:post (fidx p xs)):
  Jn (fun (J:Unit→Prop)=>Loop (fun (s:Int) Y=>Ite (decide (s<(xs.length:Int))) (∃x,idx xs s=some x∧T x (fun b=>Ite b (post s) (Y (w64 (s+1))))) (J ())) 0) (fun _=>post (-1)):=
 Q0U hm p hT (A:=fun s _=>post s) (fun i x _ _ hf=>by rw [fidx,hf] at hp;exact hp) (fun hn hf=>by rw [fidx,hf] at hp;exact hp)
theorem Q2d {p:α→Bool} {post:Bool→Prop} (hp:post (xs.any p)):
  Jn (fun (J:Unit→Prop)=>Loop (fun (s:Int) Y=>Ite (decide (s<(xs.length:Int))) (∃x,idx xs s=some x∧Ite (p x) (post true) (Y (w64 (s+1)))) (J ())) 0) (fun _=>post false):=
 Q0G hm p (T:=fun x post=>post (p x)) (fun _ _ _ h=>h) hp
theorem Q1w {p:α→Bool} {post:Int→Prop} (hp:post (fidx p xs)):
  Jn (fun (J:Unit→Prop)=>Loop (fun (s:Int) Y=>Ite (decide (s<(xs.length:Int))) (∃x,idx xs s=some x∧Ite (p x) (post s) (Y (w64 (s+1)))) (J ())) 0) (fun _=>post (-1)):=
 Q0O hm p (T:=fun x post=>post (p x)) (fun _ _ _ h=>h) hp
end
theorem any_beq {xs:List Int} {v:Int}:xs.any (fun x=>x == v)=xs.contains v:=by
 rw [List.contains_eq_any_beq];congr 1;funext x;exact Bool.eq_iff_iff.2 ⟨fun h=>by simp at h ⊢;exact h.symm,fun h=>by simp at h ⊢;exact h.symm⟩
theorem Q1L {α:Type} (xs:List α) (hl:xs.length≤maxLen) {most:Int} {T:Int→(Bool→Prop)→Prop} (P:α→Prop) {E:Prop} {post:Bool→Prop} (hT:∀(i:Nat) x,idx xs (i:Int)=some x→∀{q:Bool→Prop},q true→(P x→q false)→T (i:Int) q) (hF:post false) (hE:(xs.length≤most→∀x,x∈xs→P x)→E):
  Jn (fun (J2:Unit→Prop)=>Loop (fun (s3:Int) Y4=>Jn (fun (J6:Bool→Prop)=>Ite (decide (s3<(xs.length:Int))) (J6 (decide (s3≤most))) (J6 false)) (fun (x5:Bool)=>Ite x5 (T s3 (fun b=>Ite b (post false) (Y4 (w64 (s3+1))))) (J2 ()))) 0) (fun _=>E):=by
 refine Jn.mk (fun _=>xs.length≤most→∀x,x∈xs→P x) (Loop.inv xs.length (fun i (t:Int)=>t=(i:Int)∧∀(j:Nat) x,j<i→xs[j]?=some x→P x) ⟨rfl,fun j x h=>by omega⟩ (fun i t hi h=>?_) (fun t h=>?_)) (fun _ h=>hE h)
 ·obtain⟨rfl,h⟩:=h
  refine Q1N (Ite.mk (fun h1=>?_) (fun h1 h2=>?_))
  ·have hx:xs[i]?=some (xs[i]'hi):=List.getElem?_eq_getElem hi
   refine hT i _ (QM rfl hx) (Ite.t rfl hF) (fun hP=>Ite.f rfl ⟨G9 hi hl,fun j x hj hxj=>?_⟩)
   by_cases e:j=i
   ·subst e;rw [hx] at hxj;cases hxj;exact hP
   ·exact h j x (by omega) hxj
  ·simp at h1;omega
 ·obtain⟨rfl,h⟩:=h
  refine Q1N (Ite.f (by simp) (fun _ x hx=>?_))
  obtain⟨j,hj⟩:=List.getElem?_of_mem hx
  exact h j x (List.getElem?_eq_some_iff.1 hj).1 hj
theorem sub0 {α:Type} {xs:List α} {i:Nat}:sub xs 0 (i:Int)=xs.take i:=by simp [sub]
end Go.Taq
/- The mathematics, part R: right sites. -/
set_option linter.unusedVariables false
namespace Go.Taq
open Go
theorem GV {l:List Int} (hm:l.length≤maxLen) {n:Int} {post:Bool→Prop} (hp:post (l.contains n)):QB l n post:=by
 unfold QB
 exact Q2d hm (p:=fun x=>x == n) (by rw [any_beq];exact hp)
theorem Zx {f:ApiFloor} (h:RF f) {post:Int→Prop} (hp:post f.Kind.length):Ka f post:=by
 unfold Ka;rw [h.size];exact hp
theorem XB {f:ApiFloor} (h:RF f) {c:Int} {post:Bool→Prop} (hp:post (isC f c)):Qt f c post:=by
 unfold Qt
 refine Jn.mk' (Ite.mk (fun h1=>Zx h ?_) (fun h1=>?_))
 ·have:isC f c=decide (c<f.Kind.length):=by simp at h1;simp [isC,h1]
  rw [←this];exact hp
 ·have:isC f c=false:=by simp at h1;simp [isC];omega
  rw [←this];exact hp
theorem Zt {f:ApiFloor} (h:RF f) {x y z:Int} {post:Int→Prop} (hp:post (KN f x y z)):Qh f x y z post:=by
 unfold Qh
 refine Jor6 (Ite.mk (fun h1=>?_) (fun h1=>?_))
 ·have:KN f x y z=-1:=by
   unfold KN
   rw [if_neg]
   simp only [Bool.or_eq_true,decide_eq_true_eq] at h1
   omega
  rw [←this];exact hp
 ·have:0≤x∧x<f.W∧0≤y∧y<f.H∧0≤z∧z<f.D:=by
   simp only [Bool.or_eq_false_iff,decide_eq_false_iff_not] at h1
   omega
  rw [Q17 h this];exact hp
theorem Q0C {f:ApiFloor} (h:RF f) {c:Int} (hc:isC f c=true) {post:(Int×Int×Int)→Prop} (hp:post (pX f c,pY f c,pZ f c)):Kn f c post:=by
 unfold Kn
 refine XB h ?_
 rw [hc]
 refine Ite.f rfl ?_
 rw [Qo] at hc
 have w:=h.W1;have hh:=h.H1;have hd:=h.D1;have wh:=h.wh;have hl:=h.len.1
 have e1:0≤c / f.W∧c / f.W≤c:=⟨Int.ediv_nonneg hc.1 (by omega),Int.ediv_le_self _ hc.1⟩
 have e2:0≤c / f.W / f.H∧c / f.W / f.H≤c / f.W:=⟨Int.ediv_nonneg e1.1 (by omega),Int.ediv_le_self _ e1.1⟩
 refine⟨by omega,by omega,by omega,?_⟩
 rw [Int.tmod_eq_emod_of_nonneg hc.1,Int.tdiv_eq_ediv_of_nonneg hc.1,Qn (x:=c / f.W) (by omega) (by omega),Int.tmod_eq_emod_of_nonneg e1.1,Int.tdiv_eq_ediv_of_nonneg e1.1,Qn (x:=c / f.W / f.H) (by omega) (by omega)]
 exact⟨by omega,by omega,hp⟩
theorem Yx {f:ApiFloor} (h:RF f) {c d:Int} {post:Int→Prop} (hp:post (nbr f c d)):QR f c d post:=by
 unfold QR
 refine XB h (Ite.mk (fun h1=>?_) (fun h1=>?_))
 ·simp only [Bool.not_eq_true'] at h1
  rw [nbr,if_pos h1] at hp;exact hp
 ·simp only [Bool.not_eq_false'] at h1
  refine Q0C h h1 ?_
  have hb:=p_bd h h1
  have w:=h.W4;have hh:=h.H4;have hd:=h.D4
  rw [nbr,if_neg (by simp [h1])] at hp
  simp only [Q1B,beq_iff_eq]
  repeat' split at hp
  all_goals (repeat' split) <;> first | omega | skip
  all_goals first | (refine Zt h ?_;(try simp only []);rw [Qn (by omega) (by omega)];exact hp) | exact hp
theorem Xp {x:ByteArray} {post:Bool→Prop} (hx:OkS x) (hF:post false) (hT:1≤x.size→x.size≤20→post true):Qr x post:=by
 unfold Qr
 refine Jn.mk (fun _=>True) (Loop.upto x.size (fun _=>True) trivial (fun i hi _ Y hY=>Ite.lt (by omega) ?_) (fun _=>Ite.nlt (by omega) trivial)) (fun _ _=>?_)
 ·have hl:x.data.toList.length=x.size:=by simp
  refine⟨_,QM rfl (List.getElem?_eq_getElem (by omega)),Jn.mk (fun _=>True) (by simp [Ite]) (fun b7 _=>Jn.mk (fun _=>True) (by simp [Ite]) (fun b10 _=>Ite.mk (fun _=>hF) (fun _=>?_)))⟩
  rw [G9 hi (by simpa [OkS] using hx)]
  exact hY trivial
 ·refine Q1N ?_
  cases hb:(decide ((x.size:Int)≥1)&&decide ((x.size:Int)≤20))
  ·exact hF
  ·simp only [Bool.and_eq_true,decide_eq_true_eq] at hb
   exact hT (by omega) (by omega)
def shAt (l:List ApiShelf) (c:Int):Int:=fidx (fun x:ApiShelf=>x.Cell == c) l
def zAt (l:List ApiZone) (c:Int):Bool:=l.any fun z=>z.Cells.contains c
def rbAt (l:List ApiStart) (c:Int):Bool:=l.any fun x=>x.Cell == c
def YN (k:Int):Bool:=(k == 1)||(k == 2)
def Zu (k:Int):Bool:=(k != 0)&&(k != 4)&&(k != 5)
def nosh (x:ByteArray):Bool:=seq x ByteArray.empty
def apB (l:List ApiApart) (a b:ByteArray):Bool:=!nosh a&&!nosh b&&l.any fun x=>(seq x.A a&&seq x.B b)||(seq x.A b&&seq x.B a)
theorem Xn {l:List ApiShelf} (hm:l.length≤maxLen) {c:Int} {post:Int→Prop} (hp:post (shAt l c)):Qp l c post:=by
 unfold Qp;exact Q1w hm hp
theorem Yh {l:List ApiStart} (hm:l.length≤maxLen) {c:Int} {post:Bool→Prop} (hp:post (rbAt l c)):QK l c post:=by
 unfold QK;exact Q2d hm hp
theorem YB {l:List ApiZone} (hm:l.length≤maxLen) (hc:∀z,z∈l→z.Cells.length≤maxLen) {c:Int} {post:Bool→Prop} (hp:post (zAt l c)):QU l c post:=by
 unfold QU;exact Q0G hm (fun z=>z.Cells.contains c) (T:=fun z post=>QB z.Cells c post) (fun z hz post h=>GV (hc z hz) h) hp
theorem YZ {l:List ApiZone} (hm:l.length≤maxLen) {c:ByteArray} {post:Int→Prop} (hp:post (fidx (fun z:ApiZone=>seq z.Name c) l)):K4 l c post:=by
 unfold K4;exact Q1w hm hp
theorem Gu {k:Int} {post:Bool→Prop} (hp:post (YN k)):QE k post:=by
 unfold QE;exact Jor2 hp
theorem Z4 {k:Int} {post:Bool→Prop} (hp:post (Zu k)):K3 k post:=by
 unfold K3;exact Q2U hp
theorem WW {f:ApiFloor} (hm:f.Kind.length≤maxLen) {post:Bool→Prop} (hp:post (f.Kind.contains 3)):QJ f post:=by
 unfold QJ;exact GV hm hp
theorem Wb {l:List ApiApart} (hm:l.length≤maxLen) {a b:ByteArray} {post:Bool→Prop} (hp:post (apB l a b)):QH l a b post:=by
 unfold QH
 unfold apB nosh at hp
 cases ha:seq a ByteArray.empty <;> cases hb:seq b ByteArray.empty <;> rw [ha,hb] at hp <;> simp only [Bool.not_false,Bool.not_true,Bool.true_and,Bool.false_and,Bool.and_false,Q1o,Q0N] at hp ⊢
 ·have:=Q0G hm (fun x:ApiApart=>(seq x.A a&&seq x.B b)||(seq x.A b&&seq x.B a)) (T:=fun x post=>Jn (fun (J11:Bool→Prop)=>Ite (seq x.A a) (Ite (seq x.B b) (J11 true) (Ite (seq x.A b) (J11 (seq x.B a)) (J11 false))) (Ite (seq x.A b) (J11 (seq x.B a)) (J11 false))) post) (fun x _ post h=>?_) hp
  ·refine Jn.mk (fun _=>post false) ?_ (fun _ h=>h)
   obtain⟨J,hJ,hL⟩:=this
   intro X hX
   refine hL X (fun s Y hb hY=>hX s Y ?_ hY)
   refine hb.cs (fun h1 h2=>?_) (fun h1 h2=>?_)
   ·obtain⟨x,hx,hT⟩:=h2
    refine Jn.eq true (Ite.t h1 rfl) (Ite.t rfl ?_)
    obtain⟨J',h3,h4⟩:=hT
    exact⟨J',h3,⟨x,hx,h4⟩⟩
   ·exact Jn.eq false (Ite.f h1 rfl) (Ite.f rfl (hJ () h2))
  ·refine Jn.mk' ?_
   revert h
   cases seq x.A a <;> cases seq x.B b <;> cases seq x.A b <;> cases seq x.B a <;> simp
 all_goals
  refine Jn.mk (fun _=>post false) ?_ (fun _ h=>h)
  refine Loop.step ?_
  refine Jn.eq false ?_ (Ite.f rfl hp)
  exact Ite.mk (fun _=>rfl) (fun _=>rfl)
def Xm:Int→List XI→Prop
 | _,[]=>True
 | t,x :: r=>t≤x.From∧x.From<x.To∧x.To≤20000∧Xm x.To r
theorem Z2 {l:List XI} (hm:l.length≤maxLen) {post:Bool→Prop} (hF:post false) (hT:Xm 0 l→post true):K6 l post:=by
 unfold K6
 refine Jn.mk (fun _=>Xm 0 l) (Loop.inv l.length (fun i (s:Int×Int)=>s.2=(i:Int)∧(Xm s.1 (l.drop i)→Xm 0 l)) ⟨rfl,fun h=>by simpa using h⟩ (fun i s hi h=>?_) (fun s h=>?_)) (fun _ h=>hT h)
 ·obtain⟨t,j⟩:=s
  obtain⟨e,h⟩:=h
  simp only at e h;subst e
  have hx:l[i]?=some (l[i]'hi):=List.getElem?_eq_getElem hi
  generalize hxe:l[i]'hi=x at hx
  have hd:l.drop i=x :: l.drop (i+1):=by rw [List.drop_eq_getElem_cons hi,hxe]
  refine Ite.lt (by simp only [];omega) (Jn.ex x (QM rfl hx) (Jor3 (Ite.mk (fun _=>hF) (fun h1=>⟨x,QM rfl hx,?_⟩))))
  ·simp only [Bool.or_eq_false_iff,decide_eq_false_iff_not] at h1
   refine⟨G9 hi hm,fun h2=>h ?_⟩
   rw [hd]
   exact⟨by omega,by omega,by omega,h2⟩
 ·obtain⟨e,h⟩:=h
  refine Ite.nlt (by rw [e];omega) (h ?_)
  rw [List.drop_length];trivial
def XU (s:ApiSite) (c:Int):Bool:=YN (kd s.Floor c)&&decide (shAt s.Shelves c<0)
theorem Yw {s:ApiSite} (k:OkApiSite s) {z:ApiZone} (hz:z.Cells.length≤maxLen) (hc:∀c,c∈z.Cells→isC s.Floor c=true) {post:Int→Prop} (hp:post (z.Cells.countP (XU s):Nat)):QQ s z post:=by
 unfold QQ
 refine Jn.mk (fun n=>n=(z.Cells.countP (XU s):Nat)) (Loop.inv z.Cells.length (fun i (t:Int×Int)=>t.2=(i:Int)∧t.1=((z.Cells.take i).countP (XU s):Nat)) ⟨rfl,rfl⟩ (fun i t hi h=>?_) (fun t h=>?_)) (fun _ h=>h▸hp)
 ·obtain⟨n,j⟩:=t
  obtain⟨e,h⟩:=h
  simp only at e h;subst e
  have hx:z.Cells[i]?=some (z.Cells[i]'hi):=List.getElem?_eq_getElem hi
  generalize hxe:z.Cells[i]'hi=x at hx
  have hcx:=hc x (List.mem_of_getElem? hx)
  have e1:z.Cells.take (i+1)=z.Cells.take i++[x]:=by rw [List.take_add_one,hx];rfl
  have hle:(z.Cells.take i).countP (XU s)≤i:=Nat.le_trans List.countP_le_length (by simp;omega)
  refine Ite.lt (by simp only [];omega) (Jn.eq (XU s x) ⟨x,QM rfl hx,_,Xo hcx,Gu (Ite.mk (fun h1=>Xn k.Shelves.1 ?_) (fun h1=>?_))⟩ ?_)
  ·simp [XU,h1]
  ·simp [XU,h1]
  ·refine Jn.eq (n+(if XU s x=true then 1 else 0)) (Ite.mk (fun h1=>?_) (fun h1=>?_)) ⟨G9 hi hz,?_⟩
   ·simp only [h1,if_true]
    rw [Qn (by omega) (by simp [maxLen] at hz;omega)]
   ·simp [h1]
   ·simp only []
    rw [e1,List.countP_append,h]
    cases hb:XU s x <;> simp [hb]
 ·obtain⟨e,h⟩:=h
  refine Ite.nlt (by rw [e];omega) ?_
  rw [h,List.take_length]
end Go.Taq
/- The mathematics, part C: lists: searches, halving. -/
set_option linter.unusedVariables false
namespace Go.Taq
open Go
theorem Ys {xs:List Int} {v:Int} (hl:xs.length≤maxLen) {post:Int→Prop} (hp:post (fidx (fun x=>v == x) xs)):QG xs v post:=by
 unfold QG
 have hm:(xs.length:Int)≤9223372036854775807:=by simp [maxLen] at hl;omega
 refine Jn.mk (fun _=>post (-1)) (Loop.find xs (fun x=>v == x) (fun i x hi hx hpx=>?_) (fun i x hi hx hpx hf=>?_) (fun hn hf=>?_)) (fun _ h=>h)
 ·refine Ite.t (by simp;omega) ⟨x,QM rfl hx,Ite.f hpx ?_⟩
  rw [Qn (by omega) (by omega)];omega
 ·refine Ite.t (by simp;omega) ⟨x,QM rfl hx,Ite.t hpx ?_⟩
  simpa [fidx,hf] using hp
 ·refine Ite.f (by simp) ?_
  simpa [fidx,hf] using hp
theorem KZ {xs:List Int} {v:Int} (hl:xs.length≤maxLen) {post:Bool→Prop} (hp:post (xs.contains v)):Qg xs v post:=by
 unfold Qg
 refine Ys hl ?_
 have:decide (fidx (fun x=>v == x) xs≥0)=xs.contains v:=by rw [Zf,List.contains_eq_any_beq]
 rw [this];exact hp
def Asc (xs:List Int):Prop:=∀(i j:Nat) x y,i<j→xs[i]?=some x→xs[j]?=some y→x<y
theorem Gi {xs:List Int} {t:Int} (hl:xs.length≤maxLen) (ha:Asc xs) {post:Int×Bool→Prop} (hp:∀i,post (i,xs.contains t)):Qj xs t post:=by
 unfold Qj
 have hm:(xs.length:Int)≤9223372036854775807:=by simp [maxLen] at hl;omega
 refine Jn.mk (fun i:Int=>0≤i∧i≤xs.length∧(∀(j:Nat) x,(j:Int)<i→xs[j]?=some x→x<t)∧(∀(j:Nat) x,i≤(j:Int)→xs[j]?=some x→t≤x))
  (Loop.mk (fun s:Int×Int=>0≤s.1∧s.1≤s.2∧s.2≤xs.length∧(∀(j:Nat) x,(j:Int)<s.1→xs[j]?=some x→x<t)∧(∀(j:Nat) x,s.2≤(j:Int)→xs[j]?=some x→t≤x)) (fun s=>(s.2-s.1).toNat) ⟨by simp,by simp,by simp,fun j x hj=>absurd hj (by simp),fun j x hj hx=>?_⟩ ?_) ?_
 ·have:=(List.getElem?_eq_some_iff.1 hx).1
  simp at hj;omega
 ·rintro⟨i,j⟩ ⟨h0,h1,h2,h3,h4⟩
  simp only at h0 h1 h2 h3 h4
  refine Ite.mk (fun hlt=>?_) (fun hge=>?_)
  ·simp only [decide_eq_true_eq] at hlt
   have e:IntKind.wrap .i64 (shrI .u64 (IntKind.wrap .u64 (w64 (i+j))) 1)=(i+j) / 2:=by
    have e1:IntKind.wrap .u64 (w64 (i+j))=i+j:=by simp [w64,IntKind.wrap,IntKind.signed,IntKind.bits];omega
    rw [e1,shrI]
    have e2:(i+j).fdiv (2 ^ (min (1:Int).toNat IntKind.u64.bits))=(i+j) / 2:=by
     rw [Int.fdiv_eq_ediv_of_nonneg _ (by decide)];rfl
    rw [e2]
    exact Qn (by omega) (by omega)
   simp only []
   rw [e]
   have hmid:i≤(i+j) / 2∧(i+j) / 2<j:=by omega
   refine⟨_,Wn (by omega) (by omega),?_⟩
   generalize hx:xs[((i+j) / 2).toNat]'(by omega)=x
   have hx':xs[((i+j) / 2).toNat]?=some x:=by rw [List.getElem?_eq_getElem (by omega),hx]
   unfold X3 Kw
   refine Jn.eq (decide (x<t)) (Ite.f (by simp) rfl) ?_
   refine Jn.mk (fun s:Int×Int=>s=(if x<t then (i+j) / 2+1 else i,if x<t then j else (i+j) / 2)) (Ite.mk (fun h5=>?_) (fun h5=>?_)) ?_
   ·simp at h5;simp only [h5,if_true]
    rw [Qn (by omega) (by omega)]
   ·simp at h5;simp [Int.not_lt.2 h5]
   ·rintro⟨a,b⟩ e3
    cases e3
    by_cases h5:x<t
    ·simp only [h5,if_true]
     refine⟨⟨by omega,by omega,by omega,fun q y hq hy=>?_,h4⟩,by omega⟩
     rcases Nat.lt_or_ge q ((i+j) / 2).toNat with h6 | h6
     ·exact Int.lt_trans (ha _ _ _ _ h6 hy hx') h5
     ·have:q=((i+j) / 2).toNat:=by omega
      subst this;rw [hx'] at hy;cases hy;exact h5
    ·simp only [h5,if_false]
     refine⟨⟨by omega,by omega,by omega,h3,fun q y hq hy=>?_⟩,by omega⟩
     rcases Nat.lt_or_ge ((i+j) / 2).toNat q with h6 | h6
     ·have:=ha _ _ _ _ h6 hx' hy;omega
     ·have:q=((i+j) / 2).toNat:=by omega
      subst this;rw [hx'] at hy;cases hy;omega
  ·simp only [decide_eq_false_iff_not] at hge
   have:i=j:=by omega
   subst this
   exact⟨h0,h2,h3,h4⟩
 ·rintro i ⟨h0,h1,h3,h4⟩
  have hc:xs.contains t=true↔∃j:Nat,xs[j]?=some t:=by
   rw [List.contains_iff_mem];exact List.mem_iff_getElem?
  refine Jn.eq (xs.contains t) (Ite.mk (fun hlt=>?_) (fun hge=>?_)) (hp i)
  ·simp only [decide_eq_true_eq] at hlt
   refine⟨_,Wn h0 hlt,?_⟩
   generalize hx:xs[i.toNat]'(by omega)=x
   have hx':xs[i.toNat]?=some x:=by rw [List.getElem?_eq_getElem (by omega),hx]
   refine Ite.mk (fun h5=>?_) (fun h5=>?_)
   ·simp at h5;subst h5
    exact (hc.2 ⟨_,hx'⟩).symm
   ·unfold K9
    refine Ite.f (by simp) ?_
    simp at h5
    cases hcc:xs.contains t
    ·rfl
    ·obtain⟨j,hj⟩:=hc.1 hcc
     exfalso
     rcases Nat.lt_or_ge j i.toNat with h6 | h6
     ·have:=h3 j t (by omega) hj;omega
     ·rcases Nat.lt_or_ge i.toNat j with h7 | h7
      ·have:=ha _ _ _ _ h7 hx' hj
       have:=h4 i.toNat x (by omega) hx'
       omega
      ·have:j=i.toNat:=by omega
       subst this;rw [hx'] at hj;cases hj;exact h5 rfl
  ·simp only [decide_eq_false_iff_not] at hge
   cases hcc:xs.contains t
   ·rfl
   ·obtain⟨j,hj⟩:=hc.1 hcc
    have:=(List.getElem?_eq_some_iff.1 hj).1
    have:=h3 j t (by omega) hj;omega
end Go.Taq
/- The mathematics, part D: zones, what is open, what is taken; a step of a walk. -/
set_option linter.unusedVariables false
namespace Go.Taq
open Go
structure RS (s:ApiSite):Prop where
 fl:RF s.Floor
 asc:∀z,z∈s.Zones→Asc z.Cells
 zc:∀z,z∈s.Zones→∀c,c∈z.Cells→isC s.Floor c=true
 sp:∀z,z∈s.Zones→1≤z.Speed∧z.Speed≤100
def zn (s:ApiSite) (c:Int):Int:=fidx (fun z:ApiZone=>z.Cells.contains c) s.Zones
def inS (t:Int) (x:XI):Bool:=decide (x.From≤t)&&decide (t<x.To)
def spd (s:ApiSite) (c:Int):Int:=if zn s c<0 then 1 else (s.Zones.getD (zn s c).toNat default).Speed
def opn (s:ApiSite) (c t:Int):Bool:=isC s.Floor c&&(decide (zn s c<0)||!((s.Zones.getD (zn s c).toNat default).Shut.any (inS t)))
theorem zn_lt {s:ApiSite} {c:Int}:-1≤zn s c∧zn s c<s.Zones.length:=Q0E
theorem Q2q {s:ApiSite} {c:Int} (h:0≤zn s c):idx s.Zones (zn s c)=some (s.Zones.getD (zn s c).toNat default):=by
 have:=zn_lt (s:=s) (c:=c)
 rw [Wn h (by omega),List.getD_eq_getElem?_getD,List.getElem?_eq_getElem (by omega)];rfl
theorem Q2M {s:ApiSite} {c:Int} (h:0≤zn s c):s.Zones.getD (zn s c).toNat default∈s.Zones:=by
 have:=zn_lt (s:=s) (c:=c)
 rw [List.getD_eq_getElem?_getD,List.getElem?_eq_getElem (by omega)];exact List.getElem_mem _
theorem Q09 {s:ApiSite} (h:RS s) (c:Int):1≤spd s c∧spd s c≤100:=by
 unfold spd
 split
 ·omega
 ·exact h.sp _ (Q2M (by omega))
theorem Yu {s:ApiSite} (k:OkApiSite s) (h:RS s) {c:Int} {post:Int→Prop} (hp:post (zn s c)):KK s c post:=by
 unfold KK Q7
 have hl:=k.Zones.1
 simp only [maxLen] at hl
 have step:∀(x:ApiZone),x∈s.Zones→∀{post:Bool→Prop},post (x.Cells.contains c)→Kq x c post:=fun x hx post hp=>by
  unfold Kq
  exact Gi (k.Zones.2 x hx).Cells.1 (h.asc x hx) (fun _=>hp)
 refine Jn.mk (fun _=>post (-1)) (Loop.find s.Zones (fun z:ApiZone=>z.Cells.contains c) (fun i x hi hx hpx=>?_) (fun i x hi hx hpx hf=>?_) (fun hn hf=>?_)) (fun _ h=>h)
 ·refine Ite.t (by simp;omega) ⟨x,QM rfl hx,step x (List.mem_of_getElem? hx) (Ite.f hpx ?_)⟩
  rw [Qn (by omega) (by omega)];omega
 ·refine Ite.t (by simp;omega) ⟨x,QM rfl hx,step x (List.mem_of_getElem? hx) (Ite.t hpx ?_)⟩
  rw [zn,fidx,hf] at hp;exact hp
 ·refine Ite.f (by simp) ?_
  rw [zn,fidx,hf] at hp;exact hp
theorem W6 {s:ApiSite} (k:OkApiSite s) (h:RS s) {c:Int} {post:Int→Prop} (hp:post (spd s c)):Kk s c post:=by
 unfold Kk
 refine Yu k h (Ite.mk (fun h1=>⟨_,Q2q (by simpa using h1),?_⟩) (fun h1=>?_))
 ·simp at h1;rw [spd,if_neg (by omega)] at hp;exact hp
 ·simp at h1;rw [spd,if_pos (by omega)] at hp;exact hp
/-! ## what is taken -/
end Go.Taq
/- The mathematics, part S: right sites, whole. -/
set_option linter.unusedVariables false
namespace Go.Taq
open Go
structure WS (s:ApiSite) (before:List ApiZone) (z:ApiZone):Prop where
 named:1≤z.Name.size∧z.Name.size≤20
 name:∀y,y∈before→seq y.Name z.Name=false
 ne:z.Cells≠[]
 sp:1≤z.Speed∧z.Speed≤100
 keep:0≤z.Keep
 spans:Xm 0 z.Shut
 cell:∀c,c∈z.Cells→isC s.Floor c=true∧Zu (kd s.Floor c)=true∧zAt before c=false
 asc:∀(i:Nat) x y,z.Cells[i]?=some x→z.Cells[i+1]?=some y→x<y
theorem Q2k {l:List Int} (h:∀(i:Nat) x y,l[i]?=some x→l[i+1]?=some y→x<y):Asc l:=by
 have key:∀(d i:Nat) x y,l[i]?=some x→l[i+d+1]?=some y→x<y:=by
  intro d
  induction d with
  | zero=>intro i x y hx hy;exact h i x y hx hy
  | succ d ih=>
   intro i x y hx hy
   have hlt:=(List.getElem?_eq_some_iff.1 hy).1
   have hz:l[i+d+1]?=some (l[i+d+1]'(by omega)):=List.getElem?_eq_getElem _
   exact Int.lt_trans (ih i x _ hx hz) (h (i+d+1) _ y hz (by rw [←hy];congr 1))
 intro i j x y hij hx hy
 exact key (j-i-1) i x y hx (by rw [←hy];congr 1;omega)
theorem WS.ascL {s:ApiSite} {b:List ApiZone} {z:ApiZone} (h:WS s b z):Asc z.Cells:=Q2k h.asc
theorem Q1s {α:Type} {xs:List α} {i:Nat} {x:α} (h:x∈xs.take i):x∈xs:=List.mem_of_mem_take h
theorem Wl {s:ApiSite} (k:OkApiSite s) (hf:RF s.Floor) {post:Bool→Prop} (hF:post false)
  (hT:s.Zones.length≤64→(∀(i:Nat) z,s.Zones[i]?=some z→WS s (s.Zones.take i) z)→post true):Qx s post:=by
 unfold Qx
 refine Jn.mk (fun _=>∀(i:Nat) z,s.Zones[i]?=some z→WS s (s.Zones.take i) z) (Loop.each s.Zones k.Zones.1 (fun i=>∀(j:Nat) z,j<i→s.Zones[j]?=some z→WS s (s.Zones.take j) z) (fun j z h=>by omega) (fun i z hz hidx hlt hall Y hY=>Ite.lt hlt ?_) (fun h=>Ite.nlt (by omega) (fun i z hz=>h i z (List.getElem?_eq_some_iff.1 hz).1 hz))) (fun _ h=>?_)
 ·have kz:=k.Zones.2 z (List.mem_of_getElem? hz)
  have kt:∀x,x∈s.Zones.take i→x.Cells.length≤maxLen:=fun x hx=>(k.Zones.2 x (Q1s hx)).Cells.1
  have ktl:(s.Zones.take i).length≤maxLen:=Nat.le_trans (by simp;omega) k.Zones.1
  refine Jn.mk (fun _=>WS s (s.Zones.take i) z) ⟨z,hidx,Jn.mk (fun b=>b=false→(1≤z.Name.size∧z.Name.size≤20)∧(∀y,y∈s.Zones.take i→seq y.Name z.Name=false)∧z.Cells≠[]∧(1≤z.Speed∧z.Speed≤100)∧0≤z.Keep∧Xm 0 z.Shut) ?_ ?_⟩ ?_
  ·refine Xp kz.Name (Ite.f rfl (fun h=>by cases h)) (fun n1 n2=>Ite.t rfl ⟨⟨by omega,by omega,by omega⟩,?_⟩)
   rw [sub0]
   refine YZ ktl (Ite.mk (fun _ h=>by cases h) (fun h1=>Ite.mk (fun _ h=>by cases h) (fun h2=>Ite.mk (fun _ h=>by cases h) (fun h3=>Ite.mk (fun _ h=>by cases h) (fun h4=>Ite.mk (fun _ h=>by cases h) (fun h5=>?_))))))
   rw [Zf] at h1
   refine Z2 kz.Shut.1 (fun h=>by simp at h) (fun h6 _=>⟨⟨n1,n2⟩,fun y hy=>?_,?_,?_,?_,h6⟩)
   ·exact Bool.eq_false_iff.2 (List.any_eq_false.1 h1 y hy)
   ·intro e;rw [e] at h2;simp at h2
   ·simp at h3 h4;omega
   ·simp at h5;omega
  ·intro b hb
   refine Ite.mk (fun _=>hF) (fun h1=>?_)
   obtain⟨b1,b2,b3,b4,b5,b6⟩:=hb h1
   refine Jn.mk (fun _=>(∀c,c∈z.Cells→isC s.Floor c=true∧Zu (kd s.Floor c)=true∧zAt (s.Zones.take i) c=false)∧(∀(i:Nat) x y,z.Cells[i]?=some x→z.Cells[i+1]?=some y→x<y))
    (Loop.each z.Cells kz.Cells.1 (fun m=>(∀(j:Nat) c,j<m→z.Cells[j]?=some c→isC s.Floor c=true∧Zu (kd s.Floor c)=true∧zAt (s.Zones.take i) c=false)∧(∀(j:Nat) x y,j+1<m→z.Cells[j]?=some x→z.Cells[j+1]?=some y→x<y)) ⟨fun j c h=>by omega,fun j x y h=>by omega⟩ (fun m c hc hidc hlc hm Y2 hY2=>Ite.lt hlc ⟨c,hidc,?_⟩)
     (fun h=>Ite.nlt (by omega) ⟨fun c hc=>?_,fun j x y hx hy=>h.2 j x y (List.getElem?_eq_some_iff.1 hy).1 hx hy⟩)) (fun _ h=>?_)
   ·refine Jn.mk (fun b=>b=false→isC s.Floor c=true∧∀x,0<m→z.Cells[m-1]?=some x→x<c) (XB hf (Ite.mk (fun h2=>Ite.mk (fun h3=>?_) (fun h3=>fun _=>⟨h2,fun x h0=>by simp at h3;omega⟩)) (fun h2 h=>by cases h))) (fun b hb=>Ite.mk (fun _=>hF) (fun h2=>?_))
    ·simp at h3
     have hl:=kz.Cells.1
     have hx:z.Cells[m-1]?=some (z.Cells[m-1]'(by omega)):=List.getElem?_eq_getElem _
     refine⟨_,QM (n:=m-1) ?_ hx,fun h4=>⟨h2,fun x h0 hx'=>?_⟩⟩
     ·simp only [maxLen] at hl
      rw [Qn (by omega) (by omega),imax];split <;> omega
     ·rw [hx] at hx';cases hx'
      simp at h4;exact h4
    ·obtain⟨hcc,hasc⟩:=hb h2
     refine Jn.mk (fun b=>b=false→Zu (kd s.Floor c)=true∧zAt (s.Zones.take i) c=false) ⟨_,Xo hcc,Z4 (Ite.mk (fun h3=>⟨⟨by omega,by omega,by omega⟩,?_⟩) (fun h3 h=>by cases h))⟩ (fun b hb'=>Ite.mk (fun _=>hF) (fun h4=>hY2 ?_))
     ·rw [sub0];exact YB ktl kt (fun h=>⟨h3,h⟩)
     ·obtain⟨q1,q2⟩:=hb' h4
      refine⟨fun j c' hj hc'=>?_,fun j x y hj hx hy=>?_⟩
      ·by_cases e:j=m
       ·subst e;rw [hc] at hc';cases hc';exact⟨hcc,q1,q2⟩
       ·exact hm.1 j c' (by omega) hc'
      ·by_cases e:j+1=m
       ·subst e
        rw [hc] at hy;cases hy
        exact hasc x (by omega) (by simpa using hx)
       ·exact hm.2 j x y (by omega) hx hy
   ·obtain⟨j,hj⟩:=List.getElem?_of_mem hc
    exact h.1 j c (List.getElem?_eq_some_iff.1 hj).1 hj
   ·exact⟨b1,b2,b3,b4,b5,b6,h.1,h.2⟩
  ·intro _ hz'
   refine hY (fun j y hj hy=>?_)
   by_cases e:j=i
   ·subst e;rw [hz] at hy;cases hy;exact hz'
   ·exact hall j y (by omega) hy
 ·cases hb:decide ((s.Zones.length:Int)≤64)
  ·exact hF
  ·exact hT (by simp at hb;omega) h
def Zh (s:ApiSite) (i:Nat) (d:Int):Prop:=∃x y,s.Shelves[i]?=some x∧0≤nbr s.Floor x.Cell d∧0≤shAt s.Shelves (nbr s.Floor x.Cell d)∧shAt s.Shelves (nbr s.Floor x.Cell d)<i∧idx s.Shelves (shAt s.Shelves (nbr s.Floor x.Cell d))=some y∧apB s.Aparts x.Class y.Class=true
theorem Q1W (l:List ApiShelf) (c:Int):-1≤shAt l c∧shAt l c<l.length:=Q0E
theorem Yq {s:ApiSite} (k:OkApiSite s) (hf:RF s.Floor) {post:Int→Prop} (hF:∀i:Nat,i<s.Shelves.length→post (i:Int)) (hT:(∀(i:Nat) (d:Int),0≤d→d<4→¬Zh s i d)→post (-1)):QT s post:=by
 unfold QT
 refine Jn.mk (fun _=>∀(i:Nat) (d:Int),0≤d→d<4→¬Zh s i d) (Loop.each s.Shelves k.Shelves.1 (fun i=>∀(j:Nat) (d:Int),j<i→0≤d→d<4→¬Zh s j d) (fun j d h=>by omega) (fun i x hx hidx hlt hall Y hY=>Ite.lt hlt ?_)
  (fun h=>Ite.nlt (by omega) (fun i d h0 h1 hb=>by
   obtain⟨x,y,hx,_⟩:=hb
   exact h i d (List.getElem?_eq_some_iff.1 hx).1 h0 h1 ⟨x,y,hx,‹_›⟩))) (fun _ h=>hT h)
 refine Jn.mk (fun _=>∀d:Int,0≤d→d<4→¬Zh s i d) (Jn.mk (fun _=>∀d:Int,0≤d→d<4→¬Zh s i d) (Loop.upto 4 (fun n=>∀d:Int,0≤d→d<n→¬Zh s i d) (fun d h0 h1=>by omega) (fun n hn hd Y2 hY2=>Ite.lt (by omega) ⟨x,hidx,Yx hf (Xn k.Shelves.1 ?_)⟩) (fun h=>Ite.nlt (by omega) h)) (fun _ h=>h)) (fun _ h=>hY (fun j d hj h0 h1=>?_))
 ·have hb:=Q1W s.Shelves (nbr s.Floor x.Cell n)
  refine Jn.mk (fun b=>b=false→¬Zh s i n) (Ite.mk (fun h1=>Ite.mk (fun h2=>Ite.mk (fun h3=>?_) (fun h3 _=>?_)) (fun h2 _=>?_)) (fun h1 _=>?_)) (fun b hb'=>Ite.mk (fun _=>hF i (by omega)) (fun h4=>?_))
  ·simp at h1 h2 h3
   have e:imax (shAt s.Shelves (nbr s.Floor x.Cell n)) 0=shAt s.Shelves (nbr s.Floor x.Cell n):=by rw [imax];split <;> omega
   rw [e]
   have hy:=Wn (xs:=s.Shelves) h2 (by omega)
   refine⟨_,hy,Wb k.Aparts.1 (fun h=>?_)⟩
   rintro⟨x',y',hx',_,_,_,hy',hap⟩
   rw [hx] at hx';cases hx'
   rw [hy] at hy';cases hy'
   rw [h] at hap;cases hap
  ·simp at h3
   rintro⟨x',y',hx',_,_,h5,_⟩
   rw [hx] at hx';cases hx'
   omega
  ·simp at h2
   rintro⟨x',y',hx',_,h5,_⟩
   rw [hx] at hx';cases hx'
   omega
  ·simp at h1
   rintro⟨x',y',hx',h5,_⟩
   rw [hx] at hx';cases hx'
   omega
  ·have:=hY2 (fun d h0 h1=>by
    by_cases e:d=n
    ·subst e;exact hb' h4
    ·exact hd d h0 (by omega))
   rw [Qn (by omega) (by omega)];simpa using this
 ·by_cases e:j=i
  ·subst e;exact h d h0 h1
  ·exact hall j d (by omega) h0 h1
structure Q0B (s:ApiSite):Prop where
 fl:RF s.Floor
 z64:s.Zones.length≤64
 zone:∀(i:Nat) z,s.Zones[i]?=some z→WS s (s.Zones.take i) z
 sh3:s.Shelves.length≤3000
 r2:s.Robots.length≤200
 ap:∀(i:Nat) x,s.Aparts[i]?=some x→1≤x.A.size∧1≤x.B.size∧apB (s.Aparts.take i) x.A x.B=false
 sh:∀(i:Nat) x,s.Shelves[i]?=some x→isC s.Floor x.Cell=true∧YN (kd s.Floor x.Cell)=true∧shAt (s.Shelves.take i) x.Cell<0
 rb:∀(i:Nat) x,s.Robots[i]?=some x→isC s.Floor x.Cell=true∧0≤x.Charge∧x.Charge≤1000000∧kd s.Floor x.Cell≠0∧rbAt (s.Robots.take i) x.Cell=false
 room:∀z,z∈s.Zones→z.Keep≤(z.Cells.countP (XU s):Nat)
 apart:∀(i:Nat) (d:Int),0≤d→d<4→¬Zh s i d
 charger:s.Floor.Kind.contains 3=true
theorem Q0B.zm {s:ApiSite} (h:Q0B s) {z:ApiZone} (hz:z∈s.Zones):∃i:Nat,WS s (s.Zones.take i) z:=by
 obtain⟨i,hi⟩:=List.getElem?_of_mem hz
 exact⟨i,h.zone i z hi⟩
theorem Q0B.rs {s:ApiSite} (h:Q0B s):RS s where
 fl:=h.fl
 asc z hz:=(h.zm hz).elim fun _ q=>q.ascL
 zc z hz c hc:=(h.zm hz).elim fun _ q=>(q.cell c hc).1
 sp z hz:=(h.zm hz).elim fun _ q=>q.sp
theorem YV {s:ApiSite} (k:OkApiSite s) {post:Bool→Prop} (hF:post false) (hT:Q0B s→post true):K1 s post:=by
 unfold K1
 refine Jn.mk (fun b=>b=false→RF s.Floor∧s.Zones.length≤64∧(∀(i:Nat) z,s.Zones[i]?=some z→WS s (s.Zones.take i) z)∧s.Shelves.length≤3000∧s.Robots.length≤200)
  (Z6 (Ite.f rfl (fun h=>by cases h)) (fun hf=>Ite.t rfl (Wl k hf (Ite.f rfl (fun h=>by cases h)) (fun z1 z2=>Ite.t rfl (Ite.mk (fun _ h=>by cases h) (fun h1 h2=>⟨hf,z1,z2,by simp at h1;omega,by simp at h2;omega⟩)))))) (fun b hb=>Ite.mk (fun _=>hF) (fun hb'=>?_))
 obtain⟨hf,z1,z2,l1,l2⟩:=hb hb'
 refine Jn.mk (fun _=>∀(i:Nat) x,s.Aparts[i]?=some x→1≤x.A.size∧1≤x.B.size∧apB (s.Aparts.take i) x.A x.B=false) (Loop.each s.Aparts k.Aparts.1 (fun i=>∀(j:Nat) x,j<i→s.Aparts[j]?=some x→1≤x.A.size∧1≤x.B.size∧apB (s.Aparts.take j) x.A x.B=false) (fun j z h=>by omega) (fun i x hx hidx hlt hall Y hY=>Ite.lt hlt ⟨x,hidx,?_⟩) (fun h=>Ite.nlt (by omega) (fun i z hz=>h i z (List.getElem?_eq_some_iff.1 hz).1 hz))) (fun _ hap=>?_)
 ·have kx:=k.Aparts.2 x (List.mem_of_getElem? hx)
  refine Jn.mk (fun b=>b=false→1≤x.A.size∧1≤x.B.size∧apB (s.Aparts.take i) x.A x.B=false) (Xp kx.A (Ite.f rfl (fun h=>by cases h)) (fun a1 a2=>Ite.t rfl (Xp kx.B (Ite.f rfl (fun h=>by cases h)) (fun b1 b2=>Ite.t rfl ⟨⟨by omega,by omega,by omega⟩,?_⟩)))) (fun b hb=>Ite.mk (fun _=>hF) (fun hb'=>hY (fun j y hj hy=>?_)))
  ·rw [sub0];exact Wb (Nat.le_trans (by simp;omega) k.Aparts.1) (fun h=>⟨a1,b1,h⟩)
  ·by_cases e:j=i
   ·subst e;rw [hx] at hy;cases hy;exact hb hb'
   ·exact hall j y (by omega) hy
 refine Jn.mk (fun _=>∀(i:Nat) x,s.Shelves[i]?=some x→isC s.Floor x.Cell=true∧YN (kd s.Floor x.Cell)=true∧shAt (s.Shelves.take i) x.Cell<0) (Loop.each s.Shelves k.Shelves.1 (fun i=>∀(j:Nat) x,j<i→s.Shelves[j]?=some x→isC s.Floor x.Cell=true∧YN (kd s.Floor x.Cell)=true∧shAt (s.Shelves.take j) x.Cell<0) (fun j z h=>by omega) (fun i x hx hidx hlt hall Y hY=>Ite.lt hlt ⟨x,hidx,?_⟩) (fun h=>Ite.nlt (by omega) (fun i z hz=>h i z (List.getElem?_eq_some_iff.1 hz).1 hz))) (fun _ hsh=>?_)
 ·have kx:=k.Shelves.2 x (List.mem_of_getElem? hx)
  refine Jn.mk (fun b=>b=false→isC s.Floor x.Cell=true) (XB hf (Ite.mk (fun h1=>Ite.mk (fun _ _=>h1) (fun _=>Xp kx.Class (fun h=>by cases h) (fun _ _ _=>h1))) (fun _ h=>by cases h))) (fun b hb=>Ite.mk (fun _=>hF) (fun hb'=>?_))
  have hc:=hb hb'
  refine Jn.mk (fun b=>b=false→YN (kd s.Floor x.Cell)=true∧shAt (s.Shelves.take i) x.Cell<0) ⟨_,Xo hc,Gu (Ite.mk (fun h1=>⟨⟨by omega,by omega,by omega⟩,?_⟩) (fun h1 h=>by cases h))⟩ (fun b hb=>Ite.mk (fun _=>hF) (fun hb'=>hY (fun j y hj hy=>?_)))
  ·rw [sub0];exact Xn (Nat.le_trans (by simp;omega) k.Shelves.1) (fun h=>⟨h1,by simpa using h⟩)
  ·by_cases e:j=i
   ·subst e;rw [hx] at hy;cases hy;exact⟨hc,hb hb'⟩
   ·exact hall j y (by omega) hy
 refine Jn.mk (fun _=>∀(i:Nat) x,s.Robots[i]?=some x→isC s.Floor x.Cell=true∧0≤x.Charge∧x.Charge≤1000000∧kd s.Floor x.Cell≠0∧rbAt (s.Robots.take i) x.Cell=false) (Loop.each s.Robots k.Robots.1 (fun i=>∀(j:Nat) x,j<i→s.Robots[j]?=some x→isC s.Floor x.Cell=true∧0≤x.Charge∧x.Charge≤1000000∧kd s.Floor x.Cell≠0∧rbAt (s.Robots.take j) x.Cell=false) (fun j z h=>by omega) (fun i x hx hidx hlt hall Y hY=>Ite.lt hlt ⟨x,hidx,?_⟩) (fun h=>Ite.nlt (by omega) (fun i z hz=>h i z (List.getElem?_eq_some_iff.1 hz).1 hz))) (fun _ hrb=>?_)
 ·refine Jn.mk (fun b=>b=false→isC s.Floor x.Cell=true∧0≤x.Charge∧x.Charge≤1000000) (XB hf (Ite.mk (fun h1=>Ite.mk (fun _ h=>by cases h) (fun h2 h3=>⟨h1,by simpa using h2,by simpa using h3⟩)) (fun _ h=>by cases h))) (fun b hb=>Ite.mk (fun _=>hF) (fun hb'=>?_))
  obtain⟨hc,c1,c2⟩:=hb hb'
  refine Jn.mk (fun b=>b=false→kd s.Floor x.Cell≠0∧rbAt (s.Robots.take i) x.Cell=false) ⟨_,Xo hc,Ite.mk (fun h1 h=>by cases h) (fun h1=>⟨⟨by omega,by omega,by omega⟩,?_⟩)⟩ (fun b hb=>Ite.mk (fun _=>hF) (fun hb'=>hY (fun j y hj hy=>?_)))
  ·rw [sub0];exact Yh (Nat.le_trans (by simp;omega) k.Robots.1) (fun h=>⟨by simpa using h1,h⟩)
  ·by_cases e:j=i
   ·subst e;rw [hx] at hy;cases hy;exact⟨hc,c1,c2,hb hb'⟩
   ·exact hall j y (by omega) hy
 refine Jn.mk (fun _=>∀(i:Nat) z,s.Zones[i]?=some z→z.Keep≤(z.Cells.countP (XU s):Nat)) (Loop.each s.Zones k.Zones.1 (fun i=>∀(j:Nat) z,j<i→s.Zones[j]?=some z→z.Keep≤(z.Cells.countP (XU s):Nat)) (fun j z h=>by omega) (fun i x hx hidx hlt hall Y hY=>Ite.lt hlt ⟨x,hidx,?_⟩) (fun h=>Ite.nlt (by omega) (fun i z hz=>h i z (List.getElem?_eq_some_iff.1 hz).1 hz))) (fun _ hro=>?_)
 ·refine Yw k (k.Zones.2 x (List.mem_of_getElem? hx)).Cells.1 (fun c hc=>((z2 i x hx).cell c hc).1) (Ite.mk (fun _=>hF) (fun h1=>hY (fun j y hj hy=>?_)))
  by_cases e:j=i
  ·subst e;rw [hx] at hy;cases hy;simpa using h1
  ·exact hall j y (by omega) hy
 refine Jn.mk' (Yq k hf (fun i hi=>Ite.f (by simp) hF) (fun hbs=>Ite.t (by decide) (WW k.Floor.Kind.1 ?_)))
 cases hch:s.Floor.Kind.contains 3
 ·exact hF
 ·exact hT ⟨hf,z1,z2,l1,l2,hap,hsh,hrb,fun z hz=>(List.getElem?_of_mem hz).elim fun i hi=>hro i z hi,hbs,hch⟩
theorem Q00 {f:ApiFloor} {n:Int} {post:Bool→Prop} (hF:post false) (hT:f.Kind.length≤n→f.Out.length≤n→post true):Kh f n post:=by
 unfold Kh
 refine Jn.mk' (Ite.mk (fun h1=>?_) (fun h1=>hF))
 simp at h1
 cases hb:decide ((f.Out.length:Int)≤n)
 ·exact hF
 ·exact hT h1 (by simpa using hb)
structure FewS (s:ApiSite) (cells most:Int):Prop where
 kind:s.Floor.Kind.length≤cells
 zones:s.Zones.length≤most
 aparts:s.Aparts.length≤most
 shelves:s.Shelves.length≤most
 robots:s.Robots.length≤most
 zone:∀z,z∈s.Zones→z.Cells.length≤cells∧z.Shut.length≤20
theorem ZX {s:ApiSite} (k:OkApiSite s) {cells most:Int} (hm:0≤most∧most≤1000000) {post:Bool→Prop} (hF:post false) (hT:FewS s cells most→post true):Kf s cells most post:=by
 unfold Kf
 refine Q1L s.Zones k.Zones.1 (T:=fun s3 q=>Jn (fun (J10:Bool→Prop)=>∃x11,idx s.Zones s3=some x11∧Ite (decide ((x11.Cells.length:Int)>cells)) (J10 true) (Ite (decide ((x11.Shut.length:Int)>20)) (J10 true) (J10 (decide ((x11.Name.size:Int)>40))))) q) (fun z=>z.Cells.length≤cells∧z.Shut.length≤20) (fun i x hx q q1 q2=>Jn.ex x hx (Jor3 ?_)) hF (fun hz=>?_)
 ·cases hb:(decide ((x.Cells.length:Int)>cells)||decide ((x.Shut.length:Int)>20)||decide ((x.Name.size:Int)>40))
  ·simp only [Bool.or_eq_false_iff,decide_eq_false_iff_not] at hb
   exact q2 ⟨by omega,by omega⟩
  ·exact q1
 refine Q1L s.Aparts k.Aparts.1 (T:=fun s3 q=>Jn (fun (J10:Bool→Prop)=>∃x11,idx s.Aparts s3=some x11∧Ite (decide ((x11.A.size:Int)>40)) (J10 true) (J10 (decide ((x11.B.size:Int)>40)))) q) (fun z=>True) (fun i x hx q q1 q2=>Jn.ex x hx (Jor2 ?_)) hF (fun _=>?_)
 ·cases hb:(decide ((x.A.size:Int)>40)||decide ((x.B.size:Int)>40))
  ·exact q2 trivial
  ·exact q1
 refine Q1L s.Shelves k.Shelves.1 (T:=fun s3 q=>∃x11,idx s.Shelves s3=some x11∧q (decide ((x11.Class.size:Int)>40))) (fun z=>True) (fun i x hx q q1 q2=>⟨x,hx,?_⟩) hF (fun _=>?_)
 ·cases hb:(decide ((x.Class.size:Int)>40))
  ·exact q2 trivial
  ·exact q1
 refine Jn.mk' (Q00 (Ite.f rfl hF) (fun f1 f2=>Ite.t rfl (Ite.mk (fun h1=>Ite.mk (fun h2=>Ite.mk (fun h3=>?_) (fun _=>hF)) (fun _=>hF)) (fun _=>hF))))
 simp at h1 h2 h3
 cases hb:decide ((s.Robots.length:Int)≤most)
 ·exact hF
 ·exact hT ⟨f1,h1,h2,h3,by simpa using hb,hz h1⟩
end Go.Taq
