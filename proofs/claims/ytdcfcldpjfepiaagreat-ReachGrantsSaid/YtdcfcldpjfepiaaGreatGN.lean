/- The mathematics, several parts in one text. -/
import Derived.Test.YtdcfcldpjfepiaaGreatGJ
/- The mathematics, part GK: the reference's needs; who is blocked; margins (chapter 33). -/
set_option linter.unusedVariables false
set_option linter.unusedSimpArgs false
namespace Go.Taq
open Go
section
end
/-! ## who is blocked -/
structure Blk (st:ApiState) (l:List Int):Prop where
 asc:l.Pairwise (· < ·)
 mem:∀a,a∈l↔a∈st.Dead∨∃r,r∈st.Robots∧r.Dead=true∧r.Cell=a
theorem Q3t:∀{xs ys:List Int},xs.Pairwise (· < ·)→ys.Pairwise (· < ·)→(∀x,x∈xs↔x∈ys)→xs=ys
 | [],[],_,_,_=>rfl
 | [],y :: ys,_,_,h=>by have:=(h y).2 (by simp);simp at this
 | x :: xs,[],_,_,h=>by have:=(h x).1 (by simp);simp at this
 | x :: xs,y :: ys,hx,hy,h=>by
  rw [List.pairwise_cons] at hx hy
  have e:x=y:=by
   have h1:=(h x).1 (by simp)
   have h2:=(h y).2 (by simp)
   rcases List.mem_cons.1 h1 with e | h1
   ·exact e
   ·rcases List.mem_cons.1 h2 with e | h2
    ·exact e.symm
    ·have:=hx.1 y h2;have:=hy.1 x h1;omega
  subst e
  rw [Q3t hx.2 hy.2 (fun z=>?_)]
  constructor
  ·intro hz
   rcases List.mem_cons.1 ((h z).1 (List.mem_cons_of_mem _ hz)) with e | g
   ·subst e;have:=hx.1 z hz;omega
   ·exact g
  ·intro hz
   rcases List.mem_cons.1 ((h z).2 (List.mem_cons_of_mem _ hz)) with e | g
   ·subst e;have:=hy.1 z hz;omega
   ·exact g
theorem Blk.uniq {st:ApiState} {l l':List Int} (h:Blk st l) (h':Blk st l'):l=l':=Q3t h.asc h'.asc (fun x=>by rw [h.mem,h'.mem])
def blkR (st:ApiState) (i:Nat):List Int:=st.Dead++((st.Robots.take i).filter (fun r=>r.Dead)).map (fun r=>r.Cell)
theorem Q1h {st:ApiState} {i:Nat} {r:Q0} (h:st.Robots[i]?=some r):blkR st (i+1)=blkR st i++(if r.Dead=true then [r.Cell] else []):=by
 unfold blkR
 rw [QU h,List.filter_append,List.map_append,List.append_assoc]
 congr 2
 by_cases e:r.Dead=true <;> simp [e]
theorem Q15 {st:ApiState} (i:Nat):(blkR st i).length≤st.Dead.length+i:=by
 unfold blkR
 have:=List.length_filter_le (fun r:Q0=>r.Dead) (st.Robots.take i)
 rw [List.length_append,List.length_map]
 rw [List.length_take] at this;omega
theorem Q2v {st:ApiState} {a:Int}:a∈blkR st st.Robots.length↔a∈st.Dead∨∃r,r∈st.Robots∧r.Dead=true∧r.Cell=a:=by
 unfold blkR
 rw [List.take_length]
 simp [and_assoc]
theorem WT {st:ApiState} (hz:Sz st) {post:List Int→Prop} (hp:∀l,Blk st l→l.length≤2000→post l):KT st post:=by
 have q1:=hz.rb;have q2:=hz.dd
 unfold KT
 refine Gl (by omega) (Jn.mk (fun t=>t=blkR st st.Robots.length) (Kq (xs:=st.Robots) (by unfold maxLen;omega) (fun t:List Int×Int=>t.2) (fun i t=>t.1=blkR st i) rfl (by simp [blkR]) (fun i r t hr ht hI=>?_) (fun t hI=>hI)) (fun t ht=>?_))
 ·have hi:=(List.getElem?_eq_some_iff.1 hr).1
  have hl:=Q15 (st:=st) i
  rw [ht]
  refine Jn.mk (fun u=>u=blkR st (i+1)) (Ite.mk (fun h=>⟨by rw [hI];simp;omega,?_⟩) (fun h=>?_)) (fun u hu=>⟨rfl,hu⟩)
  ·rw [Q1h hr,if_pos h,hI]
  ·rw [Q1h hr,if_neg (by rw [h];simp),hI];simp
 ·subst ht
  have hl:=Q15 (st:=st) st.Robots.length
  have hperm:=List.mergeSort_perm (blkR st st.Robots.length) (fun x y=>decide (x≤y))
  have hsort:((blkR st st.Robots.length).mergeSort fun x y=>decide (x≤y)).Pairwise (fun x y=>x<y∨x=y):=by
   have:=List.pairwise_mergeSort (le:=fun x y:Int=>decide (x≤y)) (fun a b c h1 h2=>by simp at *;omega) (fun a b=>by simp;omega) (blkR st st.Robots.length)
   exact this.imp (fun h=>by simp at h;omega)
  have hlen:=hperm.length_eq
  unfold QB
  generalize (blkR st st.Robots.length).mergeSort (fun x y=>decide (x≤y))=m at *
  refine⟨by omega,S_CompactI (by omega) (hp _ ⟨Q37 (lt:=(· < ·)) (fun x y z h1 h2=>by omega) hsort m.length (Nat.le_refl _),fun a=>?_⟩ (by have:=Q1Y (xs:=m) m.length;omega))⟩
  rw [Q16 m.length (Nat.le_refl _),List.take_length,hperm.mem_iff]
  exact Q2v
end Go.Taq
/- The mathematics, part GL: margins, who is covered, what is granted; ReachTells (chapter 33). -/
set_option linter.unusedVariables false
set_option linter.unusedSimpArgs false
namespace Go.Taq
open Go
theorem Q5l {st:ApiState} (hz:Sz st):∃l,Blk st l∧l.length≤2000:=by
 have q1:=hz.rb;have q2:=hz.dd
 have hl:=Q15 (st:=st) st.Robots.length
 have hperm:=List.mergeSort_perm (blkR st st.Robots.length) (fun x y=>decide (x≤y))
 have hsort:((blkR st st.Robots.length).mergeSort fun x y=>decide (x≤y)).Pairwise (fun x y=>x<y∨x=y):=by
  have:=List.pairwise_mergeSort (le:=fun x y:Int=>decide (x≤y)) (fun a b c h1 h2=>by simp at *;omega) (fun a b=>by simp;omega) (blkR st st.Robots.length)
  exact this.imp (fun h=>by simp at h;omega)
 have hlen:=hperm.length_eq
 generalize (blkR st st.Robots.length).mergeSort (fun x y=>decide (x≤y))=m at *
 refine⟨cmI m m.length,⟨Q37 (lt:=(· < ·)) (fun x y z h1 h2=>by omega) hsort m.length (Nat.le_refl _),fun a=>?_⟩,by have:=Q1Y (xs:=m) m.length;omega⟩
 rw [Q16 m.length (Nat.le_refl _),List.take_length,hperm.mem_iff]
 exact Q2v
/-! ## margins -/
def mgV (r:Q0) (v:Int):Int×Bool:=if r.Dead=true∨v<0 then (0,false) else (w64 (w64 (r.Charge-v)-w64 (w64 (r.Rest+r.Mute)*3)),true)
noncomputable def mgS (s:ApiSite) (st:ApiState) (L:List Int) (D i:Int):Int×Bool:=if i<0∨i≥st.Robots.length then (0,false) else mgV (st.Robots.getD i.toNat default) (nd s L D s.Floor.Kind.length (st.Robots.getD i.toNat default).Cell.toNat)
section
variable {s:ApiSite} {st:ApiState} {L:List Int} {D:Int}
theorem Q2l {i:Int} (h:¬(i<0∨i≥st.Robots.length)):st.Robots[i.toNat]?=some (st.Robots.getD i.toNat default)∧idx st.Robots i=some (st.Robots.getD i.toNat default):=by
 have hx:=List.getElem?_eq_getElem (show i.toNat<st.Robots.length by omega)
 have e:st.Robots.getD i.toNat default=st.Robots[i.toNat]'(by omega):=by rw [List.getD_eq_getElem?_getD,hx];rfl
 rw [e]
 exact⟨hx,QG (n:=i.toNat) (by omega) hx⟩
theorem GU (hc:∀(i:Nat) r,st.Robots[i]?=some r→isC s.Floor r.Cell=true) {v:List Int} (hv:v.length=s.Floor.Kind.length) (hvv:∀c,c<s.Floor.Kind.length→fu v c=nd s L D s.Floor.Kind.length c) {i:Int} {post:Int×Bool→Prop} (hp:post (mgS s st L D i)):KF st i v post:=by
 unfold KF
 refine Jn.mk (fun b=>b=true↔(i<0∨i≥st.Robots.length)) (Ite.mk (fun h=>?_) (fun h=>?_)) (fun b hb=>Ite.mk (fun h=>?_) (fun h=>?_))
 ·exact⟨fun _=>.inl (of_decide_eq_true h),fun _=>rfl⟩
 ·show decide (i≥(st.Robots.length:Int))=true↔_
  rw [decide_eq_true_iff]
  exact⟨.inr,fun h2=>h2.resolve_left (of_decide_eq_false h)⟩
 ·unfold mgS at hp
  rw [if_pos (hb.1 h)] at hp;exact hp
 ·have hno:¬(i<0∨i≥st.Robots.length):=fun h2=>by rw [hb.2 h2] at h;cases h
  unfold mgS at hp
  rw [if_neg hno] at hp
  obtain⟨hr,hri⟩:=Q2l hno
  generalize st.Robots.getD i.toNat default=r at *
  have ht:=K0.1 (hc _ r hr)
  obtain⟨c,hcc⟩:=Int.eq_ofNat_of_zero_le ht.1
  rw [hcc] at hp ht
  have hidx:idx v r.Cell=some (nd s L D s.Floor.Kind.length c):=by rw [hcc,Yr (by omega),hvv c (by omega)]
  rw [Int.toNat_natCast] at hp
  refine⟨r,hri,Jn.mk (fun b=>b=true↔(r.Dead=true∨nd s L D s.Floor.Kind.length c<0)) (Ite.mk (fun h=>⟨fun _=>.inl h,fun _=>rfl⟩) (fun h=>⟨_,hidx,?_⟩)) (fun b hb=>Ite.mk (fun h=>?_) (fun h=>⟨_,hidx,GR ?_⟩))⟩
  ·show decide _=true↔_
   rw [decide_eq_true_iff]
   exact⟨.inr,fun h2=>h2.resolve_left (by rw [h];simp)⟩
  ·unfold mgV at hp
   rw [if_pos (hb.1 h)] at hp;exact hp
  ·unfold mgV at hp
   rw [if_neg (fun h2=>by rw [hb.2 h2] at h;cases h)] at hp;exact hp
theorem Ym (ks:OkApiSite s) (hr:ZO s) (hn:s.Floor.Kind.length≤1000) (hz:Sz st) (hc:∀(i:Nat) r,st.Robots[i]?=some r→isC s.Floor r.Cell=true) (hB:Blk st L) (hD:0≤D∧D≤100000) {i:Int} {post:Int×Bool→Prop} (hp:post (mgS s st L D i)):X8 s st i D post:=by
 unfold X8
 refine WT hz (fun l hl hl2=>?_)
 rw [hl.uniq hB] at *
 exact S_reach_Needs ks hr.fl hr.rs hn (by unfold maxLen;omega) hD (fun v hv hvv=>GU hc hv hvv hp)
/-! ## who is covered -/
def Bad (s:ApiSite) (st:ApiState) (L:List Int) (D:Int) (k:Nat):Prop:=(∃r,st.Robots[k]?=some r∧r.Dead=false)∧((mgS s st L D k).2=true→(mgS s st L D k).1<0)
structure CovR (s:ApiSite) (st:ApiState) (L:List Int) (D:Int) (v:Int):Prop where
 is:(∃k:Nat,v=(k:Int)∧k<st.Robots.length∧Bad s st L D k∧∀j,j<k→¬Bad s st L D j)∨(v=-1∧∀j,j<st.Robots.length→¬Bad s st L D j)
theorem CovR.uniq {v w:Int} (h:CovR s st L D v) (h':CovR s st L D w):v=w:=by
 rcases h.is with ⟨k,e,k1,k2,k3⟩ | ⟨e,k1⟩ <;> rcases h'.is with ⟨j,f,j1,j2,j3⟩ | ⟨f,j1⟩
 ·rcases Nat.lt_trichotomy k j with h | h | h
  ·exact absurd k2 (j3 k h)
  ·rw [e,f,h]
  ·exact absurd j2 (k3 j h)
 ·exact absurd k2 (j1 k k1)
 ·exact absurd j2 (k1 j j1)
 ·rw [e,f]
/-! ## what is granted -/
theorem Q5c (h:Blk st L) (i a:Int):Blk (doS s st i a) L:=by
 unfold doS
 split
 ·exact h
 ·rename_i hno
  obtain⟨hx,_⟩:=Q2l hno
  generalize st.Robots.getD i.toNat default=r at *
  unfold doR
  by_cases hd:r.Dead=true
  ·rw [if_pos hd];exact h
  ·rw [if_neg hd]
   refine⟨h.asc,fun c=>?_⟩
   rw [h.mem]
   have hnd:(nwR s st r a).Dead=r.Dead:=by unfold nwR;split <;> rfl
   have hlt:=(List.getElem?_eq_some_iff.1 hx).1
   constructor
   ·rintro (hc | ⟨r',h1,h2,h3⟩)
    ·exact .inl hc
    ·refine .inr ⟨r',?_,h2,h3⟩
     obtain⟨j,hj⟩:=List.getElem?_of_mem h1
     have hne:i.toNat≠j:=fun e=>by
      subst e
      rw [hx] at hj;cases hj
      exact hd h2
     exact List.mem_of_getElem? (i:=j) (by show (st.Robots.set i.toNat _)[j]?=_;rw [List.getElem?_set_ne hne];exact hj)
   ·rintro (hc | ⟨r',h1,h2,h3⟩)
    ·exact .inl hc
    ·obtain⟨j,hj⟩:=List.getElem?_of_mem h1
     have hj':(st.Robots.set i.toNat (nwR s st r a))[j]?=some r':=hj
     by_cases e:i.toNat=j
     ·subst e
      rw [List.getElem?_set_self hlt] at hj'
      cases hj'
      rw [hnd] at h2;exact absurd h2 hd
     ·rw [List.getElem?_set_ne e] at hj'
      exact .inr ⟨r',List.mem_of_getElem? hj',h2,h3⟩
noncomputable def grS (s:ApiSite) (st:ApiState) (L:List Int) (D i a:Int):Int:=
 if legS s st i a≠0 then legS s st i a
 else if (mgS s (doS s st i a) L D i).2=false then 14
 else if (mgS s (doS s st i a) L D i).1<0∧((mgS s st L D i).2=true→(mgS s (doS s st i a) L D i).1<(mgS s st L D i).1) then 19 else 0
theorem Q57 {post:Int→Prop} {i a:Int} (h0:legS s st i a=0) (hp:post (grS s st L D i a)):
  Ite (!(mgS s (doS s st i a) L D i).2) (post 14) (Jn (fun (J:Bool→Prop)=>Ite (decide ((mgS s (doS s st i a) L D i).1<0)) (Ite (mgS s st L D i).2 (J (decide ((mgS s (doS s st i a) L D i).1<(mgS s st L D i).1))) (J true)) (J false)) (fun x=>Ite x (post 19) (post 0))):=by
 unfold grS at hp
 rw [if_neg (fun h=>h h0)] at hp
 generalize mgS s (doS s st i a) L D i=x at *
 generalize mgS s st L D i=y at *
 refine Ite.mk (fun h=>?_) (fun h=>?_)
 ·rw [if_pos (by simpa using h)] at hp;exact hp
 ·have hx:x.2=true:=by simpa using h
  rw [if_neg (by rw [hx];simp)] at hp
  refine Jn.mk (fun b=>b=true↔(x.1<0∧(y.2=true→x.1<y.1))) (Ite.mk (fun h1=>Ite.mk (fun h2=>?_) (fun h2=>?_)) (fun h1=>?_)) (fun b hb=>Ite.mk (fun h1=>?_) (fun h1=>?_))
  ·show decide _=true↔_
   rw [decide_eq_true_iff]
   exact⟨fun h=>⟨of_decide_eq_true h1,fun _=>h⟩,fun h=>h.2 h2⟩
  ·exact⟨fun _=>⟨of_decide_eq_true h1,fun h=>by rw [h2] at h;cases h⟩,fun _=>rfl⟩
  ·exact⟨fun h=>(by cases h),fun h=>absurd h.1 (of_decide_eq_false h1)⟩
  ·rw [if_pos (hb.1 h1)] at hp;exact hp
  ·rw [if_neg (fun h=>by rw [hb.2 h] at h1;cases h1)] at hp;exact hp
theorem Q0a (ks:OkApiSite s) (k:OkApiState st) (hr:ZO s) (hn:s.Floor.Kind.length≤1000) (hl:LS s st) (hB:Blk st L) (hD:0≤D∧D≤100000) {i a:Int} {post:Int→Prop} (hp:post (grS s st L D i a)):Xv s st i a D post:=by
 unfold Xv
 refine Yz ks k hl (Ite.mk (fun h=>?_) (fun h=>?_))
 ·have h':legS s st i a≠0:=by simpa using h
  unfold grS at hp
  rw [if_pos h'] at hp;exact hp
 ·have h':legS s st i a=0:=by simpa using h
  obtain⟨_,ha0,ha9⟩:=Q2V h'
  have hl2:=(Q4a k hl i a).1
  refine WT hl.sz (fun l hlb hl2b=>?_)
  rw [hlb.uniq hB] at *
  exact S_reach_Needs ks hr.fl hr.rs hn (by unfold maxLen;omega) hD (fun v hv hvv=>GU (fun j r hj=>(hl.rob j r hj).1) hv hvv (Q2s ks k hl ha0 ha9 (GU (fun j r hj=>(hl2.rob j r hj).1) hv hvv (Q57 h' hp))))
end
end Go.Taq
/- The mathematics, part GM: fuel is bounded; ReachGrants (chapter 33). -/
set_option linter.unusedVariables false
set_option linter.unusedSimpArgs false
namespace Go.Taq
open Go
section
variable {s:ApiSite} {L:List Int}
theorem WL.cut {c:Nat} (h3:kd s.Floor c≠3) {a m:Nat} (h:WL s L a m):(∃m',WL s ((c:Int) :: L) a m')∨∃(d y m1:Nat),d<6∧nx s.Floor c d=((y:Int),true)∧(y:Int)∉(c:Int) :: L∧WL s ((c:Int) :: L) y m1:=by
 induction h with
 | home hc hh=>exact .inl ⟨0,.home hc hh⟩
 | step hc hh hd hn hL hm ih=>
  rename_i a d y m
  rcases ih with ⟨m',ih⟩ | ih
  ·by_cases e:y=c
   ·subst e
    cases ih with
    | home _ h=>exact absurd h h3
    | step g1 g2 g3 g4 g5 g6=>exact .inr ⟨_,_,_,g3,g4,g5,g6⟩
   ·exact .inl ⟨_,.step hc hh hd hn (fun h=>(List.mem_cons.1 h).elim (fun h=>e (by omega)) hL) ih⟩
  ·exact .inr ih
theorem WL.short (hf:RF s.Floor) (hs:RS s):∀(k:Nat) (L:List Int) (c:Nat),((List.range s.Floor.Kind.length).filter (fun y:Nat=>decide ((y:Int)∉L))).length≤k→∀m,WL s L c m→∃m',m'≤400*(k+1)∧WL s L c m':=by
 intro k
 induction k with
 | zero=>
  intro L c hk m hw
  cases hw with
  | home hc hh=>exact⟨0,by omega,.home hc hh⟩
  | step hc hh hd hn hL hm=>
   rename_i d y m
   have hyl:=hm.lt
   have:y∈(List.range s.Floor.Kind.length).filter (fun y:Nat=>decide ((y:Int)∉L)):=List.mem_filter.2 ⟨List.mem_range.2 hyl,by simpa using hL⟩
   have:=List.length_pos_of_mem this
   omega
 | succ k ih=>
  intro L c hk m hw
  have hcl:=hw.lt
  by_cases h3:kd s.Floor c=3
  ·exact⟨0,by omega,.home hcl h3⟩
  ·have hst:∃(d y m1:Nat),d<6∧nx s.Floor c d=((y:Int),true)∧(y:Int)∉(c:Int) :: L∧WL s ((c:Int) :: L) y m1:=by
    rcases hw.cut h3 with ⟨m',h⟩ | h
    ·cases h with
     | home _ h=>exact absurd h h3
     | step g1 g2 g3 g4 g5 g6=>exact⟨_,_,_,g3,g4,g5,g6⟩
    ·exact h
   obtain⟨d,y,m1,hd,hn,hL,hw1⟩:=hst
   have hok:=Zy hf (c:=(c:Int)) (d:=(d:Int)) (by rw [hn])
   rw [hn] at hok
   have hp:1≤prS s (d:Int) (y:Int)∧prS s (d:Int) (y:Int)≤400:=Q0H (s:=s) hs (by omega) (by omega) hok.2.1
   have hyl:=hw1.lt
   -- y is free for L,but we leave it: the walk from y avoids c;cells free for y :: ... shrink by y
   by_cases h3y:kd s.Floor y=3
   ·exact⟨0+(prS s d y).toNat,by omega,.step hcl h3 hd hn (fun h=>hL (List.mem_cons_of_mem _ h)) (.home hyl h3y)⟩
   ·have hst2:∃(e z m2:Nat),e<6∧nx s.Floor y e=((z:Int),true)∧(z:Int)∉(y:Int) :: L∧WL s ((y:Int) :: L) z m2:=by
     have hw2:WL s L y m1:=hw1.congr (fun z hz=>List.mem_cons_of_mem _ hz)
     rcases hw2.cut h3y with ⟨m',h⟩ | h
     ·cases h with
      | home _ h=>exact absurd h h3y
      | step g1 g2 g3 g4 g5 g6=>exact⟨_,_,_,g3,g4,g5,g6⟩
     ·exact h
    obtain⟨e,z,m2,he,hn2,hL2,hw2⟩:=hst2
    have hyw:WL s ((y:Int) :: L) y (m2+(prS s e z).toNat):=.step hyl h3y he hn2 hL2 hw2
    have hlt:((List.range s.Floor.Kind.length).filter (fun w:Nat=>decide ((w:Int)∉(y:Int) :: L))).length≤k:=by
     have hsub:((List.range s.Floor.Kind.length).filter (fun w:Nat=>decide ((w:Int)∉(y:Int) :: L))).length<((List.range s.Floor.Kind.length).filter (fun w:Nat=>decide ((w:Int)∉L))).length:=by
      rw [←List.countP_eq_length_filter,←List.countP_eq_length_filter]
      have key:∀l:List Nat,y∈l→l.countP (fun w:Nat=>decide ((w:Int)∉(y:Int) :: L))<l.countP (fun w:Nat=>decide ((w:Int)∉L)):=fun l hl=>by
       induction l with
       | nil=>cases hl
       | cons b l ihl=>
        have hmono:l.countP (fun w:Nat=>decide ((w:Int)∉(y:Int) :: L))≤l.countP (fun w:Nat=>decide ((w:Int)∉L)):=List.countP_mono_left (fun w _ h=>by simp at h ⊢;exact h.2)
        rw [List.countP_cons,List.countP_cons]
        by_cases eb:b=y
        ·subst eb
         have hyL:(b:Int)∉L:=fun h=>hL (List.mem_cons_of_mem _ h)
         rw [if_neg (by simp),if_pos (by simpa using hyL)];omega
        ·have hl2:y∈l:=(List.mem_cons.1 hl).resolve_left (fun h=>eb h.symm)
         have:=ihl hl2
         have hne:¬(b:Int)=(y:Int):=fun h=>eb (by omega)
         by_cases hb:(b:Int)∈L
         ·rw [if_neg (by simp [hb]),if_neg (by simp [hb])];omega
         ·rw [if_pos (by simp [hb,hne]),if_pos (by simp [hb])];omega
      exact key _ (List.mem_range.2 hyl)
     omega
    obtain⟨m',hm',hw'⟩:=ih ((y:Int) :: L) y hlt _ hyw
    refine⟨m'+(prS s d y).toNat,by omega,.step hcl h3 hd hn (fun h=>hL (List.mem_cons_of_mem _ h)) (hw'.congr (fun z hz=>List.mem_cons_of_mem _ hz))⟩
theorem Q31 (hf:RF s.Floor) (hs:RS s) (hn:s.Floor.Kind.length≤1000) (c:Nat):fuV s L c≤400400:=by
 rcases Q47 s L c with ⟨h1,_⟩ | ⟨h1,h2,h3⟩
 ·omega
 ·have hl:=List.length_filter_le (fun y:Nat=>decide ((y:Int)∉L)) (List.range s.Floor.Kind.length)
  rw [List.length_range] at hl
  obtain⟨m',hm,hw⟩:=WL.short hf hs 1000 L c (by omega) _ h2
  have:=h3 m' hw
  omega
theorem Q4d (hf:RF s.Floor) (hs:RS s) (hn:s.Floor.Kind.length≤1000) {D:Int} (hD:0≤D) (c:Nat):∀x,nd s L D x c≤400400+D*3
 | 0=>by
  unfold nd
  have:=Q31 (L:=L) hf hs hn c
  split <;> omega
 | x+1=>by
  have ih:=Q4d hf hs hn hD c x
  have:=Q31 (L:=(x:Int) :: L) hf hs hn c
  unfold nd
  split
  ·exact ih
  ·split
   ·omega
   ·have:=Q3d (a:=nd s L D x c) (b:=fuV s ((x:Int) :: L) c);omega
end
end Go.Taq
/- The mathematics, part GN: ReachGrants (chapter 33). -/
set_option linter.unusedVariables false
set_option linter.unusedSimpArgs false
namespace Go.Taq
open Go
section
variable {s:ApiSite} {st:ApiState} {L:List Int} {D:Int}
theorem Q3A (hf:RF s.Floor) (hs:RS s) (hn:s.Floor.Kind.length≤1000) (hr:RSt s st) (hD:0≤D∧D≤100) {i:Int} (hi:¬(i<0∨i≥st.Robots.length)) (h2:(mgS s st L D i).2=true):(mgS s (doS s st i 9) L D i).1≥(mgS s st L D i).1:=by
 obtain⟨hx,_⟩:=Q2l hi
 have hlt:=(List.getElem?_eq_some_iff.1 hx).1
 have hdo:doS s st i 9=doR s st i.toNat (st.Robots.getD i.toNat default) 9:=by unfold doS;rw [if_neg hi]
 rw [hdo]
 unfold mgS at h2 ⊢
 rw [if_neg hi] at h2
 generalize hrr:st.Robots.getD i.toNat default=r at *
 have hR:=hr.rob _ r hx
 have hd:r.Dead=false:=by
  unfold mgV at h2
  split at h2
  ·cases h2
  ·rename_i h
   cases e:r.Dead with
   | false=>rfl
   | true=>exact absurd (.inl e) h
 have ht:=Q4d (L:=L) hf hs hn hD.1 r.Cell.toNat s.Floor.Kind.length
 have hlo:=(Q4l (s:=s) (L:=L) hD.1 r.Cell.toNat s.Floor.Kind.length).1
 have h0:¬nd s L D s.Floor.Kind.length r.Cell.toNat<0:=fun h=>by
  unfold mgV at h2
  rw [if_pos (.inr h)] at h2;cases h2
 have hdr:(doR s st i.toNat r 9).Robots=st.Robots.set i.toNat (nwR s st r 9):=by unfold doR;rw [if_neg (by rw [hd];simp)]
 rw [hdr]
 have hlen:(st.Robots.set i.toNat (nwR s st r 9)).length=st.Robots.length:=List.length_set
 have hget:(st.Robots.set i.toNat (nwR s st r 9)).getD i.toNat default=nwR s st r 9:=by
  rw [List.getD_eq_getElem?_getD,List.getElem?_set_self hlt];rfl
 rw [hlen,hget,if_neg hi,if_neg hi]
 have hmv:mvB 9=false:=by decide
 have e1:nwR s st r 9={r with Load:=lod st r 9,Charge:=chg st r 9}:=by
  unfold nwR;rw [if_neg (by rw [hmv];simp)]
 have hch:r.Charge≤chg st r 9∧chg st r 9≤1000000:=by
  have hC:=hR.charge
  have ea:aft st.Tick r.Charge 9 (decide (r.Load≥0))=(if r.Charge>999980 then 1000000 else r.Charge+20,0):=by
   unfold aft;rw [if_neg (by omega),if_pos rfl]
  unfold chg
  rw [ea]
  show r.Charge≤(if (0:Int)=0 then (if r.Charge>999980 then (1000000:Int) else r.Charge+20) else 0)∧(if (0:Int)=0 then (if r.Charge>999980 then (1000000:Int) else r.Charge+20) else 0)≤1000000
  rw [if_pos rfl]
  split <;> omega
 rw [e1]
 have hC:=hR.charge;have hRe:=hR.rest;have hM:=hR.mute
 generalize nd s L D s.Floor.Kind.length r.Cell.toNat=v at *
 unfold mgV
 rw [if_neg (by rw [hd];simp;omega),if_neg (by rw [hd];simp;omega)]
 show w64 (w64 (chg st r 9-v)-w64 (w64 (r.Rest+r.Mute)*3))≥w64 (w64 (r.Charge-v)-w64 (w64 (r.Rest+r.Mute)*3))
 rw [QH (x:=r.Rest+r.Mute) (by omega) (by omega),QH (x:=(r.Rest+r.Mute)*3) (by omega) (by omega),QH (x:=r.Charge-v) (by omega) (by omega),QH (x:=chg st r 9-v) (by omega) (by omega),QH (by omega) (by omega),QH (by omega) (by omega)]
 omega
end
theorem Said_taquinlaw33_ReachGrants (s:ApiSite) (ks:OkApiSite s) (st:ApiState) (k:OkApiState st) (i:Int) (ki:I64 i) (a:Int) (ka:I64 a) (D:Int) (kD:I64 D):V_taquinlaw33_ReachGrants s st i a D (fun y=>y=true):=by
 unfold V_taquinlaw33_ReachGrants
 refine Q0I (Jn.mk (fun b=>b=false→ZO s∧FewS s 24 20∧(0≤D∧D≤20)∧Q3r st∧RSt s st∧¬(i<0∨i≥st.Robots.length)) (Q1H ks (Ite.f rfl fun h=>by cases h) (fun h1 h2=>Ite.t rfl (Ite.mk (fun _ h=>by cases h) (fun h4=>Ite.mk (fun _ h=>by cases h) (fun h5=>Q2d (Ite.f rfl fun h=>by cases h) (fun h6=>Ite.t rfl (Q0S h6.sz (Ite.f rfl fun h=>by cases h) (fun h7=>Ite.t rfl (Ite.mk (fun _ h=>by cases h) (fun h8 h9=>⟨h1,h2,⟨by have:¬(D<0):=of_decide_eq_false h4;omega,by have:¬(D>20):=of_decide_eq_false h5;omega⟩,h6,h7,fun h=>h.elim (of_decide_eq_false h8) (of_decide_eq_false h9)⟩)))))))))) (fun b hb=>Ite.mk (fun _=>rfl) (fun h=>?_)))
 obtain⟨hR,hFew,hD,h12,hr,hi⟩:=hb h
 have hf:=hR.fl
 have hs:=hR.rs
 have hn:s.Floor.Kind.length≤1000:=by have:=hFew.kind;omega
 have hz:=h12.sz
 have hl:=Q5w hf hs hr hz
 have hc:=fun (j:Nat) r hj=>(hl.rob j r hj).1
 have hDD:0≤D∧D≤100000:=by omega
 obtain⟨B,hB,hBl⟩:=Q5l hz
 refine Ym ks hR hn hz hc hB hDD (Q0a ks k hR hn hl hB hDD (Yz ks k hl (Ite.mk (fun h=>?_) (fun h=>?_))))
 ·have h':legS s st i a≠0:=by simpa using h
  refine Jn.mk (fun b=>b=true) (Ite.t rfl (Yz ks k hl ?_)) (fun x hx=>hx)
  unfold grS
  rw [if_pos h'];simp
 ·have h':legS s st i a=0:=by simpa using h
  obtain⟨_,ha0,ha9⟩:=Q2V h'
  have hl2:=(Q4a k hl i a).1
  refine Q2s ks k hl ha0 ha9 (Ym ks hR hn hl2.sz (fun j r hj=>(hl2.rob j r hj).1) (Q5c hB i a) hDD ?_)
  obtain⟨hx,hri⟩:=Q2l hi
  have hch:a=9→(mgS s st B D i).2=true→(mgS s (doS s st i a) B D i).1≥(mgS s st B D i).1:=fun e h2=>by
   subst e;exact Q3A hf hs hn hr (by omega) hi h2
  unfold grS
  rw [if_neg (fun h=>h h')]
  generalize mgS s (doS s st i a) B D i=x at *
  generalize mgS s st B D i=y at *
  refine Jn.mk (fun b=>b=false) ?_ (fun b hb=>Ite.f hb ⟨_,hri,Jn.mk (fun b=>b=true) (Ite.t rfl (Ite.mk (fun _=>rfl) (fun h9=>Ite.mk (fun hy=>Ite.mk (fun _=>rfl) (fun hlt=>?_)) (fun _=>rfl)))) (fun x hx=>hx)⟩)
  ·cases hx2:x.2 with
   | false=>
    rw [if_pos rfl]
    exact Ite.f rfl (Ite.t rfl rfl)
   | true=>
    rw [if_neg (by simp)]
    refine Ite.t rfl (Ite.mk (fun h0=>?_) (fun h0=>?_))
    ·have h0':x.1≥0:=of_decide_eq_true h0
     rw [if_neg (fun h=>by omega)]
     exact Ite.t rfl rfl
    ·have h0':¬x.1≥0:=of_decide_eq_false h0
     refine Ite.mk (fun hy=>?_) (fun hy=>?_)
     ·by_cases hlt:x.1<y.1
      ·rw [if_pos ⟨by omega,fun _=>hlt⟩]
       exact Ite.t (by rw [decide_eq_false (by omega)];rfl) rfl
      ·rw [if_neg (fun h=>hlt (h.2 hy))]
       exact Ite.t (by rw [decide_eq_true (by omega)];rfl) rfl
     ·rw [if_pos ⟨by omega,fun h=>by rw [hy] at h;cases h⟩]
      exact Ite.t rfl rfl
  ·have h9':a=9:=by simpa using h9
   exact absurd (hch h9' hy) (of_decide_eq_false hlt)
end Go.Taq
