/- The mathematics, several parts in one text. -/
import Derived.Test.YtdcfcldpjfepiaaGreatGI
/- The mathematics, part GJ: the reference's prices and fuel (chapter 33). -/
set_option linter.unusedVariables false
set_option linter.unusedSimpArgs false
namespace Go.Taq
open Go
structure RInv (s:ApiSite) (L f:List Int):Prop where
 len:f.length=s.Floor.Kind.length
 lo:∀c,c<s.Floor.Kind.length→-1≤fu f c
 hi:∀c,c<s.Floor.Kind.length→fu f c≤400*nn f
 sound:∀c,c<s.Floor.Kind.length→0≤fu f c→WL s L c (fu f c).toNat
 home:∀c:Nat,c<s.Floor.Kind.length→kd s.Floor c=3→fu f c=0
section
variable {s:ApiSite} {L f:List Int}
theorem Q7p (f:List Int):nn f≤f.length:=List.countP_le_length
theorem RInv.top (hn:s.Floor.Kind.length≤1000) (h:RInv s L f) {c:Nat} (hc:c<s.Floor.Kind.length):fu f c≤400000:=by
 have h1:=h.hi c hc
 have h2:=Q7p f
 have h3:=h.len
 omega
theorem RInv.put (hf:RF s.Floor) (hs:RS s) (hn:s.Floor.Kind.length≤1000) (h:RInv s L f) {c d y:Nat} (hc:c<s.Floor.Kind.length) (h3:kd s.Floor c≠3) (hd:d<6) (hnx:nx s.Floor c d=((y:Int),true)) (hL:(y:Int)∉L) (h0:0≤fu f y) (hlt:fu f c<0∨fu f y+prS s d y<fu f c):
  RInv s L (f.set c (fu f y+prS s d y))∧WF 400000 (f.set c (fu f y+prS s d y))<WF 400000 f:=by
 have hlen:=h.len
 have hcl:c<f.length:=by omega
 have hfc:=Q2b hcl
 have hok:=Wx hf (c:=(c:Int)) (d:=(d:Int)) (by rw [hnx])
 rw [hnx] at hok
 have hty:=QN.1 hok.2.1
 have hp:1≤prS s (d:Int) (y:Int)∧prS s (d:Int) (y:Int)≤400:=Zs (s:=s) hs (by omega) (by omega) hok.2.1
 have hyn:y<s.Floor.Kind.length:=by have:((y:Int))<(s.Floor.Kind.length:Int):=hty.2;omega
 have hhy:=h.hi y hyn
 generalize hr:fu f y+prS s d y=r at *
 have hcnt:=Q69 (fun v:Int=>decide (0≤v)) (y:=r) hfc
 have hset:∀e,fu (f.set c r) e=if e=c then r else fu f e:=fun e=>ZT hcl
 have hr0:0≤r:=by omega
 have hnn:(nn (f.set c r):Int)=nn f+(if fu f c<0 then 1 else 0):=by
  unfold nn
  rw [if_pos (decide_eq_true hr0)] at hcnt
  split
  ·rename_i hneg
   rw [if_neg (by simp;omega)] at hcnt;omega
  ·rename_i hneg
   rw [if_pos (by simp;omega)] at hcnt;omega
 refine⟨⟨by rw [List.length_set];exact hlen,fun e he=>?_,fun e he=>?_,fun e he he0=>?_,fun e he heh=>?_⟩,?_⟩
 ·rw [hset];split
  ·omega
  ·exact h.lo e he
 ·rw [hset,hnn]
  have h1:=h.hi e he
  have h2:=h.hi c hc
  split <;> split <;> omega
 ·rw [hset] at he0 ⊢
  split
  ·rename_i e2
   subst e2
   have:=WL.step hc h3 hd hnx hL (h.sound y hyn h0)
   rw [show r.toNat=(fu f y).toNat+(prS s d y).toNat by omega];exact this
  ·rename_i e2
   rw [if_neg e2] at he0
   exact h.sound e he he0
 ·rw [hset,if_neg (fun e2=>h3 (by rw [←e2];exact heh))];exact h.home e he heh
 ·have hs2:=Q2Y (wtF 400000) (y:=r) hfc
  have htop:=h.top hn hc
  have hytop:=h.top hn hyn
  have hrtop:r≤400000:=by
   rcases hlt with h4 | h4
   ·have h5:=Q7p (f.set c r)
    rw [List.length_set] at h5
    rw [if_pos h4] at hnn
    omega
   ·omega
  have:wtF 400000 r<wtF 400000 (fu f c):=by
   unfold wtF
   rw [if_neg (by omega)]
   split <;> omega
  unfold WF;omega
end
end Go.Taq
/- The mathematics, part GK: the reference's needs; who is blocked; margins (chapter 33). -/
set_option linter.unusedVariables false
set_option linter.unusedSimpArgs false
namespace Go.Taq
open Go
section
end
/-! ## who is blocked -/
structure Blk (st:ApiState) (l:List Int):Prop where
 asc:l.Pairwise (· < ·)
 mem:∀a,a∈l↔a∈st.Dead∨∃r,r∈st.Robots∧r.Dead=true∧r.Cell=a
theorem Q5K:∀{xs ys:List Int},xs.Pairwise (· < ·)→ys.Pairwise (· < ·)→(∀x,x∈xs↔x∈ys)→xs=ys
 | [],[],_,_,_=>rfl
 | [],y :: ys,_,_,h=>by have:=(h y).2 (by simp);simp at this
 | x :: xs,[],_,_,h=>by have:=(h x).1 (by simp);simp at this
 | x :: xs,y :: ys,hx,hy,h=>by
  rw [List.pairwise_cons] at hx hy
  have e:x=y:=by
   have h1:=(h x).1 (by simp)
   have h2:=(h y).2 (by simp)
   rcases List.mem_cons.1 h1 with e | h1
   ·exact e
   ·rcases List.mem_cons.1 h2 with e | h2
    ·exact e.symm
    ·have:=hx.1 y h2;have:=hy.1 x h1;omega
  subst e
  rw [Q5K hx.2 hy.2 (fun z=>?_)]
  constructor
  ·intro hz
   rcases List.mem_cons.1 ((h z).1 (List.mem_cons_of_mem _ hz)) with e | g
   ·subst e;have:=hx.1 z hz;omega
   ·exact g
  ·intro hz
   rcases List.mem_cons.1 ((h z).2 (List.mem_cons_of_mem _ hz)) with e | g
   ·subst e;have:=hy.1 z hz;omega
   ·exact g
theorem Blk.uniq {st:ApiState} {l l':List Int} (h:Blk st l) (h':Blk st l'):l=l':=Q5K h.asc h'.asc (fun x=>by rw [h.mem,h'.mem])
def blkR (st:ApiState) (i:Nat):List Int:=st.Dead++((st.Robots.take i).filter (fun r=>r.Dead)).map (fun r=>r.Cell)
theorem Q3i {st:ApiState} {i:Nat} {r:ApiRobot} (h:st.Robots[i]?=some r):blkR st (i+1)=blkR st i++(if r.Dead=true then [r.Cell] else []):=by
 unfold blkR
 rw [QL h,List.filter_append,List.map_append,List.append_assoc]
 congr 2
 by_cases e:r.Dead=true <;> simp [e]
theorem Q4A {st:ApiState} (i:Nat):(blkR st i).length≤st.Dead.length+i:=by
 unfold blkR
 have:=List.length_filter_le (fun r:ApiRobot=>r.Dead) (st.Robots.take i)
 rw [List.length_append,List.length_map]
 rw [List.length_take] at this;omega
theorem Q6z {st:ApiState} {a:Int}:a∈blkR st st.Robots.length↔a∈st.Dead∨∃r,r∈st.Robots∧r.Dead=true∧r.Cell=a:=by
 unfold blkR
 rw [List.take_length]
 simp [and_assoc]
theorem Q1p {st:ApiState} (hz:Sz st) {post:List Int→Prop} (hp:∀l,Blk st l→l.length≤2000→post l):XG st post:=by
 have q1:=hz.rb;have q2:=hz.dd
 unfold XG
 refine WE (by omega) (Jn.mk (fun t=>t=blkR st st.Robots.length) (Km (xs:=st.Robots) (by unfold maxLen;omega) (fun t:List Int×Int=>t.2) (fun i t=>t.1=blkR st i) rfl (by simp [blkR]) (fun i r t hr ht hI=>?_) (fun t hI=>hI)) (fun t ht=>?_))
 ·have hi:=(List.getElem?_eq_some_iff.1 hr).1
  have hl:=Q4A (st:=st) i
  rw [ht]
  refine Jn.mk (fun u=>u=blkR st (i+1)) (Ite.mk (fun h=>⟨by rw [hI];simp;omega,?_⟩) (fun h=>?_)) (fun u hu=>⟨rfl,hu⟩)
  ·rw [Q3i hr,if_pos h,hI]
  ·rw [Q3i hr,if_neg (by rw [h];simp),hI];simp
 ·subst ht
  have hl:=Q4A (st:=st) st.Robots.length
  have hperm:=List.mergeSort_perm (blkR st st.Robots.length) (fun x y=>decide (x≤y))
  have hsort:((blkR st st.Robots.length).mergeSort fun x y=>decide (x≤y)).Pairwise (fun x y=>x<y∨x=y):=by
   have:=List.pairwise_mergeSort (le:=fun x y:Int=>decide (x≤y)) (fun a b c h1 h2=>by simp at *;omega) (fun a b=>by simp;omega) (blkR st st.Robots.length)
   exact this.imp (fun h=>by simp at h;omega)
  have hlen:=hperm.length_eq
  unfold Qf
  generalize (blkR st st.Robots.length).mergeSort (fun x y=>decide (x≤y))=m at *
  refine⟨by omega,S_CompactI (by omega) (hp _ ⟨Q7d (lt:=(· < ·)) (fun x y z h1 h2=>by omega) hsort m.length (Nat.le_refl _),fun a=>?_⟩ (by have:=Q6h (xs:=m) m.length;omega))⟩
  rw [Q40 m.length (Nat.le_refl _),List.take_length,hperm.mem_iff]
  exact Q6z
end Go.Taq
/- The mathematics, part GL: margins, who is covered, what is granted; ReachTells (chapter 33). -/
set_option linter.unusedVariables false
set_option linter.unusedSimpArgs false
namespace Go.Taq
open Go
/-! ## margins -/
def mgV (r:ApiRobot) (v:Int):Int×Bool:=if r.Dead=true∨v<0 then (0,false) else (w64 (w64 (r.Charge-v)-w64 (w64 (r.Rest+r.Mute)*3)),true)
noncomputable def mgS (s:ApiSite) (st:ApiState) (L:List Int) (D i:Int):Int×Bool:=if i<0∨i≥st.Robots.length then (0,false) else mgV (st.Robots.getD i.toNat default) (nd s L D s.Floor.Kind.length (st.Robots.getD i.toNat default).Cell.toNat)
section
variable {s:ApiSite} {st:ApiState} {L:List Int} {D:Int}
theorem Q95 {i:Int} (h:¬(i<0∨i≥st.Robots.length)):st.Robots[i.toNat]?=some (st.Robots.getD i.toNat default)∧idx st.Robots i=some (st.Robots.getD i.toNat default):=by
 have hx:=List.getElem?_eq_getElem (show i.toNat<st.Robots.length by omega)
 have e:st.Robots.getD i.toNat default=st.Robots[i.toNat]'(by omega):=by rw [List.getD_eq_getElem?_getD,hx];rfl
 rw [e]
 exact⟨hx,QD (n:=i.toNat) (by omega) hx⟩
theorem Q1L (hc:∀(i:Nat) r,st.Robots[i]?=some r→isC s.Floor r.Cell=true) {v:List Int} (hv:v.length=s.Floor.Kind.length) (hvv:∀c,c<s.Floor.Kind.length→fu v c=nd s L D s.Floor.Kind.length c) {i:Int} {post:Int×Bool→Prop} (hp:post (mgS s st L D i)):G5 st i v post:=by
 unfold G5
 refine Jn.mk (fun b=>b=true↔(i<0∨i≥st.Robots.length)) (Ite.mk (fun h=>?_) (fun h=>?_)) (fun b hb=>Ite.mk (fun h=>?_) (fun h=>?_))
 ·exact⟨fun _=>.inl (of_decide_eq_true h),fun _=>rfl⟩
 ·show decide (i≥(st.Robots.length:Int))=true↔_
  rw [decide_eq_true_iff]
  exact⟨.inr,fun h2=>h2.resolve_left (of_decide_eq_false h)⟩
 ·unfold mgS at hp
  rw [if_pos (hb.1 h)] at hp;exact hp
 ·have hno:¬(i<0∨i≥st.Robots.length):=fun h2=>by rw [hb.2 h2] at h;cases h
  unfold mgS at hp
  rw [if_neg hno] at hp
  obtain⟨hr,hri⟩:=Q95 hno
  generalize st.Robots.getD i.toNat default=r at *
  have ht:=QN.1 (hc _ r hr)
  obtain⟨c,hcc⟩:=Int.eq_ofNat_of_zero_le ht.1
  rw [hcc] at hp ht
  have hidx:idx v r.Cell=some (nd s L D s.Floor.Kind.length c):=by rw [hcc,Ye (by omega),hvv c (by omega)]
  rw [Int.toNat_natCast] at hp
  refine⟨r,hri,Jn.mk (fun b=>b=true↔(r.Dead=true∨nd s L D s.Floor.Kind.length c<0)) (Ite.mk (fun h=>⟨fun _=>.inl h,fun _=>rfl⟩) (fun h=>⟨_,hidx,?_⟩)) (fun b hb=>Ite.mk (fun h=>?_) (fun h=>⟨_,hidx,Xl ?_⟩))⟩
  ·show decide _=true↔_
   rw [decide_eq_true_iff]
   exact⟨.inr,fun h2=>h2.resolve_left (by rw [h];simp)⟩
  ·unfold mgV at hp
   rw [if_pos (hb.1 h)] at hp;exact hp
  ·unfold mgV at hp
   rw [if_neg (fun h2=>by rw [hb.2 h2] at h;cases h)] at hp;exact hp
/-! ## who is covered -/
def Bad (s:ApiSite) (st:ApiState) (L:List Int) (D:Int) (k:Nat):Prop:=(∃r,st.Robots[k]?=some r∧r.Dead=false)∧((mgS s st L D k).2=true→(mgS s st L D k).1<0)
structure CovR (s:ApiSite) (st:ApiState) (L:List Int) (D:Int) (v:Int):Prop where
 is:(∃k:Nat,v=(k:Int)∧k<st.Robots.length∧Bad s st L D k∧∀j,j<k→¬Bad s st L D j)∨(v=-1∧∀j,j<st.Robots.length→¬Bad s st L D j)
theorem CovR.uniq {v w:Int} (h:CovR s st L D v) (h':CovR s st L D w):v=w:=by
 rcases h.is with ⟨k,e,k1,k2,k3⟩ | ⟨e,k1⟩ <;> rcases h'.is with ⟨j,f,j1,j2,j3⟩ | ⟨f,j1⟩
 ·rcases Nat.lt_trichotomy k j with h | h | h
  ·exact absurd k2 (j3 k h)
  ·rw [e,f,h]
  ·exact absurd j2 (k3 j h)
 ·exact absurd k2 (j1 k k1)
 ·exact absurd j2 (k1 j j1)
 ·rw [e,f]
/-! ## what is granted -/
end
end Go.Taq
/- The mathematics, part GM: fuel is bounded; ReachGrants (chapter 33). -/
set_option linter.unusedVariables false
set_option linter.unusedSimpArgs false
namespace Go.Taq
open Go
section
variable {s:ApiSite} {L:List Int}
theorem WL.cut {c:Nat} (h3:kd s.Floor c≠3) {a m:Nat} (h:WL s L a m):(∃m',WL s ((c:Int) :: L) a m')∨∃(d y m1:Nat),d<6∧nx s.Floor c d=((y:Int),true)∧(y:Int)∉(c:Int) :: L∧WL s ((c:Int) :: L) y m1:=by
 induction h with
 | home hc hh=>exact .inl ⟨0,.home hc hh⟩
 | step hc hh hd hn hL hm ih=>
  rename_i a d y m
  rcases ih with ⟨m',ih⟩ | ih
  ·by_cases e:y=c
   ·subst e
    cases ih with
    | home _ h=>exact absurd h h3
    | step g1 g2 g3 g4 g5 g6=>exact .inr ⟨_,_,_,g3,g4,g5,g6⟩
   ·exact .inl ⟨_,.step hc hh hd hn (fun h=>(List.mem_cons.1 h).elim (fun h=>e (by omega)) hL) ih⟩
  ·exact .inr ih
theorem WL.short (hf:RF s.Floor) (hs:RS s):∀(k:Nat) (L:List Int) (c:Nat),((List.range s.Floor.Kind.length).filter (fun y:Nat=>decide ((y:Int)∉L))).length≤k→∀m,WL s L c m→∃m',m'≤400*(k+1)∧WL s L c m':=by
 intro k
 induction k with
 | zero=>
  intro L c hk m hw
  cases hw with
  | home hc hh=>exact⟨0,by omega,.home hc hh⟩
  | step hc hh hd hn hL hm=>
   rename_i d y m
   have hyl:=hm.lt
   have:y∈(List.range s.Floor.Kind.length).filter (fun y:Nat=>decide ((y:Int)∉L)):=List.mem_filter.2 ⟨List.mem_range.2 hyl,by simpa using hL⟩
   have:=List.length_pos_of_mem this
   omega
 | succ k ih=>
  intro L c hk m hw
  have hcl:=hw.lt
  by_cases h3:kd s.Floor c=3
  ·exact⟨0,by omega,.home hcl h3⟩
  ·have hst:∃(d y m1:Nat),d<6∧nx s.Floor c d=((y:Int),true)∧(y:Int)∉(c:Int) :: L∧WL s ((c:Int) :: L) y m1:=by
    rcases hw.cut h3 with ⟨m',h⟩ | h
    ·cases h with
     | home _ h=>exact absurd h h3
     | step g1 g2 g3 g4 g5 g6=>exact⟨_,_,_,g3,g4,g5,g6⟩
    ·exact h
   obtain⟨d,y,m1,hd,hn,hL,hw1⟩:=hst
   have hok:=Wx hf (c:=(c:Int)) (d:=(d:Int)) (by rw [hn])
   rw [hn] at hok
   have hp:1≤prS s (d:Int) (y:Int)∧prS s (d:Int) (y:Int)≤400:=Zs (s:=s) hs (by omega) (by omega) hok.2.1
   have hyl:=hw1.lt
   -- y is free for L,but we leave it: the walk from y avoids c;cells free for y :: ... shrink by y
   by_cases h3y:kd s.Floor y=3
   ·exact⟨0+(prS s d y).toNat,by omega,.step hcl h3 hd hn (fun h=>hL (List.mem_cons_of_mem _ h)) (.home hyl h3y)⟩
   ·have hst2:∃(e z m2:Nat),e<6∧nx s.Floor y e=((z:Int),true)∧(z:Int)∉(y:Int) :: L∧WL s ((y:Int) :: L) z m2:=by
     have hw2:WL s L y m1:=hw1.congr (fun z hz=>List.mem_cons_of_mem _ hz)
     rcases hw2.cut h3y with ⟨m',h⟩ | h
     ·cases h with
      | home _ h=>exact absurd h h3y
      | step g1 g2 g3 g4 g5 g6=>exact⟨_,_,_,g3,g4,g5,g6⟩
     ·exact h
    obtain⟨e,z,m2,he,hn2,hL2,hw2⟩:=hst2
    have hyw:WL s ((y:Int) :: L) y (m2+(prS s e z).toNat):=.step hyl h3y he hn2 hL2 hw2
    have hlt:((List.range s.Floor.Kind.length).filter (fun w:Nat=>decide ((w:Int)∉(y:Int) :: L))).length≤k:=by
     have hsub:((List.range s.Floor.Kind.length).filter (fun w:Nat=>decide ((w:Int)∉(y:Int) :: L))).length<((List.range s.Floor.Kind.length).filter (fun w:Nat=>decide ((w:Int)∉L))).length:=by
      rw [←List.countP_eq_length_filter,←List.countP_eq_length_filter]
      have key:∀l:List Nat,y∈l→l.countP (fun w:Nat=>decide ((w:Int)∉(y:Int) :: L))<l.countP (fun w:Nat=>decide ((w:Int)∉L)):=fun l hl=>by
       induction l with
       | nil=>cases hl
       | cons b l ihl=>
        have hmono:l.countP (fun w:Nat=>decide ((w:Int)∉(y:Int) :: L))≤l.countP (fun w:Nat=>decide ((w:Int)∉L)):=List.countP_mono_left (fun w _ h=>by simp at h ⊢;exact h.2)
        rw [List.countP_cons,List.countP_cons]
        by_cases eb:b=y
        ·subst eb
         have hyL:(b:Int)∉L:=fun h=>hL (List.mem_cons_of_mem _ h)
         rw [if_neg (by simp),if_pos (by simpa using hyL)];omega
        ·have hl2:y∈l:=(List.mem_cons.1 hl).resolve_left (fun h=>eb h.symm)
         have:=ihl hl2
         have hne:¬(b:Int)=(y:Int):=fun h=>eb (by omega)
         by_cases hb:(b:Int)∈L
         ·rw [if_neg (by simp [hb]),if_neg (by simp [hb])];omega
         ·rw [if_pos (by simp [hb,hne]),if_pos (by simp [hb])];omega
      exact key _ (List.mem_range.2 hyl)
     omega
    obtain⟨m',hm',hw'⟩:=ih ((y:Int) :: L) y hlt _ hyw
    refine⟨m'+(prS s d y).toNat,by omega,.step hcl h3 hd hn (fun h=>hL (List.mem_cons_of_mem _ h)) (hw'.congr (fun z hz=>List.mem_cons_of_mem _ hz))⟩
theorem Q5z (hf:RF s.Floor) (hs:RS s) (hn:s.Floor.Kind.length≤1000) (c:Nat):fuV s L c≤400400:=by
 rcases Q2s s L c with ⟨h1,_⟩ | ⟨h1,h2,h3⟩
 ·omega
 ·have hl:=List.length_filter_le (fun y:Nat=>decide ((y:Int)∉L)) (List.range s.Floor.Kind.length)
  rw [List.length_range] at hl
  obtain⟨m',hm,hw⟩:=WL.short hf hs 1000 L c (by omega) _ h2
  have:=h3 m' hw
  omega
theorem Q7a (hf:RF s.Floor) (hs:RS s) (hn:s.Floor.Kind.length≤1000) {D:Int} (hD:0≤D) (c:Nat):∀x,nd s L D x c≤400400+D*3
 | 0=>by
  unfold nd
  have:=Q5z (L:=L) hf hs hn c
  split <;> omega
 | x+1=>by
  have ih:=Q7a hf hs hn hD c x
  have:=Q5z (L:=(x:Int) :: L) hf hs hn c
  unfold nd
  split
  ·exact ih
  ·split
   ·omega
   ·have:=Q2v (a:=nd s L D x c) (b:=fuV s ((x:Int) :: L) c);omega
end
end Go.Taq
/- The mathematics, part GN: ReachGrants (chapter 33). -/
set_option linter.unusedVariables false
set_option linter.unusedSimpArgs false
namespace Go.Taq
open Go
section
end
end Go.Taq
/- The mathematics, part GO: sites alike have the same needs; short walks, sharper (chapter 33). -/
set_option linter.unusedVariables false
set_option linter.unusedSimpArgs false
namespace Go.Taq
open Go
structure Q0C (s T:ApiSite):Prop where
 fl:T.Floor=s.Floor
 sp:∀c,spd T c=spd s c
section
variable {s T:ApiSite} {L:List Int}
theorem Q0C.symm (h:Q0C s T):Q0C T s:=⟨h.fl.symm,fun c=>(h.sp c).symm⟩
theorem Q0C.pr (h:Q0C s T) (d x:Int):prS T d x=prS s d x:=by unfold prS;rw [h.fl,h.sp]
theorem Q0C.wl (h:Q0C s T) {c m:Nat} (hw:WL s L c m):WL T L c m:=by
 induction hw with
 | home hc hh=>exact .home (by rw [h.fl];exact hc) (by rw [h.fl];exact hh)
 | step hc hh hd hn hL hm ih=>
  rw [←h.pr]
  exact .step (by rw [h.fl];exact hc) (by rw [h.fl];exact hh) hd (by rw [h.fl];exact hn) hL ih
theorem Q0C.fu (h:Q0C s T) (L:List Int) (c:Nat):fuV T L c=fuV s L c:=by
 refine IsFu.uniq (s:=s) (L:=L) (c:=c) ?_ (Q2s s L c)
 rcases Q2s T L c with ⟨h1,h2⟩ | ⟨h1,h2,h3⟩
 ·exact .inl ⟨h1,fun m hm=>h2 m (h.wl hm)⟩
 ·exact .inr ⟨h1,h.symm.wl h2,fun m hm=>h3 m (h.wl hm)⟩
theorem Q0C.nd (h:Q0C s T) (L:List Int) (D:Int) (c:Nat):∀x,nd T L D x c=nd s L D x c
 | 0=>by unfold Taq.nd;rw [h.fu]
 | x+1=>by
  have ih:=Q0C.nd h L D c x
  unfold Taq.nd;rw [h.fu,ih]
theorem Q7o {D:Int} (hD:0≤D) {c x:Nat} (hx:c≠x) (hL:(x:Int)∉L):∀n,x<n→0≤nd s L D n c→0≤fuV s ((x:Int) :: L) c∧fuV s ((x:Int) :: L) c≤nd s L D n c
 | 0,h,_=>by omega
 | n+1,h,h0=>by
  by_cases e:x=n
  ·subst e
   unfold nd at h0 ⊢
   rw [if_neg (fun h=>h.elim hx hL)] at h0 ⊢
   split at h0
   ·omega
   ·rename_i hn
    rw [if_neg hn]
    have:=Q2v (a:=nd s L D x c) (b:=fuV s ((x:Int) :: L) c)
    exact⟨by
     by_cases hh:fuV s ((x:Int) :: L) c<0
     ·exact absurd (.inr hh) hn
     ·omega,by omega⟩
  ·have hstep:0≤nd s L D n c∧nd s L D n c≤nd s L D (n+1) c:=by
    conv at h0=>unfold nd
    conv=>rhs;rhs;unfold nd
    split at h0
    ·rename_i hc
     rw [if_pos hc];omega
    ·rename_i hc
     rw [if_neg hc]
     split at h0
     ·omega
     ·rename_i hn
      rw [if_neg hn]
      have:=Q2v (a:=nd s L D n c) (b:=fuV s ((n:Int) :: L) c)
      exact⟨by
       by_cases hh:nd s L D n c<0
       ·exact absurd (.inl hh) hn
       ·omega,by omega⟩
   have:=Q7o hD hx hL n (by omega) hstep.1
   omega
end
end Go.Taq
