/- The mathematics, several parts in one text. -/
import Derived.Test.YtdcfcldpjfepiaaGreatGH
/- The mathematics, part GI: ReachNeeds (chapter 33). -/
set_option linter.unusedVariables false
set_option linter.unusedSimpArgs false
namespace Go.Taq
open Go
theorem Q3a {s:ApiSite} {L L':List Int} {c:Nat} (h:∀y:Nat,(y:Int)∈L→(y:Int)∈L') (h0:0≤fuV s L' c):0≤fuV s L c∧fuV s L c≤fuV s L' c:=by
 rcases Q4N s L' c with ⟨h1,_⟩ | ⟨_,h2,_⟩
 ·omega
 ·have hw:WL s L c (fuV s L' c).toNat:=h2.congr h
  rcases Q4N s L c with ⟨g1,g2⟩ | ⟨g1,g2,g3⟩
  ·exact absurd hw (g2 _)
  ·have:=g3 _ hw;omega
theorem Q5y {s:ApiSite} {L L':List Int} {c:Nat} (h:∀y:Nat,(y:Int)∈L↔(y:Int)∈L'):fuV s L c=fuV s L' c:=by
 have l1:=Q6F s L c;have l2:=Q6F s L' c
 by_cases h0:0≤fuV s L c
 ·have g1:=Q3a (L:=L') (L':=L) (fun y hy=>(h y).2 hy) h0
  have g2:=Q3a (L:=L) (L':=L') (fun y hy=>(h y).1 hy) g1.1
  omega
 ·by_cases h1:0≤fuV s L' c
  ·have g2:=Q3a (L:=L) (L':=L') (fun y hy=>(h y).1 hy) h1
   omega
  ·omega
end Go.Taq
/- The mathematics, part GJ: the reference's prices and fuel (chapter 33). -/
set_option linter.unusedVariables false
set_option linter.unusedSimpArgs false
namespace Go.Taq
open Go
theorem Yq {post:Int→Prop} (hp:post 3):K5 post:=by
 unfold K5
 exact Zj hp
theorem Q0z {s:ApiSite} (ks:OkApiSite s) (hr:Ws s) {d x:Int} {post:Int→Prop} (hp:post (prS s d x)):Kq s d x post:=by
 have hf:=hr.fl;have hs:=hr.rs
 unfold Kq
 refine Jn.mk (fun b=>b=(decide (d<0)||decide (d≥6)||!isC s.Floor x)) (Ite.mk (fun h=>by rw [h];rfl) (fun h=>Ite.mk (fun h2=>by rw [h,h2];rfl) (fun h2=>XY hf (by rw [h,h2];rfl)))) (fun b hb=>Ite.mk (fun h=>?_) (fun h=>?_))
 ·rw [h] at hb
  have hb':=hb.symm
  simp only [Bool.or_eq_true,decide_eq_true_eq,Bool.not_eq_true'] at hb'
  unfold prS at hp
  rw [if_pos (by rcases hb' with (h | h) | h;exact .inl h;exact .inr (.inl h);exact .inr (.inr h))] at hp;exact hp
 ·rw [h] at hb
  have hb':=hb.symm
  simp only [Bool.or_eq_false_iff,decide_eq_false_iff_not,Bool.not_eq_false'] at hb'
  obtain⟨⟨h1,h2⟩,h3⟩:=hb'
  have hsb:=Q2S hs x
  have hcb:=Q5U (d:=d) (by omega) (by omega)
  unfold prS at hp
  rw [if_neg (by rw [h3];simp;omega)] at hp
  rw [Qx (x:=1+d) (by omega) (by omega)]
  refine Zj ⟨_,GN h3,Jn.mk' (Ite.mk (fun h4=>Q0y ks hr (Yq ?_)) (fun h4=>?_))⟩
  ·rw [if_neg (by simpa using h4)] at hp
   rw [Qx (x:=spd s x-1) (by omega) (by omega),Qx (x:=(spd s x-1)*3) (by omega) (by omega),Qx (by omega) (by omega)]
   exact hp
  ·rw [if_pos (by simpa using h4),Int.add_zero] at hp
   exact hp
structure RInv (s:ApiSite) (L f:List Int):Prop where
 len:f.length=s.Floor.Kind.length
 lo:∀c,c<s.Floor.Kind.length→-1≤fu f c
 hi:∀c,c<s.Floor.Kind.length→fu f c≤400*nn f
 sound:∀c,c<s.Floor.Kind.length→0≤fu f c→WL s L c (fu f c).toNat
 home:∀c:Nat,c<s.Floor.Kind.length→kd s.Floor c=3→fu f c=0
def Rlx (s:ApiSite) (L f:List Int) (c d:Nat):Prop:=∀y:Nat,nx s.Floor c d=((y:Int),true)→(y:Int)∉L→0≤fu f y→0≤fu f c∧fu f c≤fu f y+prS s d y
section
variable {s:ApiSite} {L f:List Int}
theorem Q6M (f:List Int):nn f≤f.length:=List.countP_le_length
theorem RInv.top (hn:s.Floor.Kind.length≤1000) (h:RInv s L f) {c:Nat} (hc:c<s.Floor.Kind.length):fu f c≤400000:=by
 have h1:=h.hi c hc
 have h2:=Q6M f
 have h3:=h.len
 omega
theorem RInv.put (hf:RF s.Floor) (hs:RS s) (hn:s.Floor.Kind.length≤1000) (h:RInv s L f) {c d y:Nat} (hc:c<s.Floor.Kind.length) (h3:kd s.Floor c≠3) (hd:d<6) (hnx:nx s.Floor c d=((y:Int),true)) (hL:(y:Int)∉L) (h0:0≤fu f y) (hlt:fu f c<0∨fu f y+prS s d y<fu f c):
  RInv s L (f.set c (fu f y+prS s d y))∧WF 400000 (f.set c (fu f y+prS s d y))<WF 400000 f:=by
 have hlen:=h.len
 have hcl:c<f.length:=by omega
 have hfc:=Q1s hcl
 have hok:=Q0b hf (c:=(c:Int)) (d:=(d:Int)) (by rw [hnx])
 rw [hnx] at hok
 have hty:=QU.1 hok.2.1
 have hp:1≤prS s (d:Int) (y:Int)∧prS s (d:Int) (y:Int)≤400:=Q1o (s:=s) hs (by omega) (by omega) hok.2.1
 have hyn:y<s.Floor.Kind.length:=by have:((y:Int))<(s.Floor.Kind.length:Int):=hty.2;omega
 have hhy:=h.hi y hyn
 generalize hr:fu f y+prS s d y=r at *
 have hcnt:=Q5B (fun v:Int=>decide (0≤v)) (y:=r) hfc
 have hset:∀e,fu (f.set c r) e=if e=c then r else fu f e:=fun e=>YZ hcl
 have hr0:0≤r:=by omega
 have hnn:(nn (f.set c r):Int)=nn f+(if fu f c<0 then 1 else 0):=by
  unfold nn
  rw [if_pos (decide_eq_true hr0)] at hcnt
  split
  ·rename_i hneg
   rw [if_neg (by simp;omega)] at hcnt;omega
  ·rename_i hneg
   rw [if_pos (by simp;omega)] at hcnt;omega
 refine⟨⟨by rw [List.length_set];exact hlen,fun e he=>?_,fun e he=>?_,fun e he he0=>?_,fun e he heh=>?_⟩,?_⟩
 ·rw [hset];split
  ·omega
  ·exact h.lo e he
 ·rw [hset,hnn]
  have h1:=h.hi e he
  have h2:=h.hi c hc
  split <;> split <;> omega
 ·rw [hset] at he0 ⊢
  split
  ·rename_i e2
   subst e2
   have:=WL.step hc h3 hd hnx hL (h.sound y hyn h0)
   rw [show r.toNat=(fu f y).toNat+(prS s d y).toNat by omega];exact this
  ·rename_i e2
   rw [if_neg e2] at he0
   exact h.sound e he he0
 ·rw [hset,if_neg (fun e2=>h3 (by rw [←e2];exact heh))];exact h.home e he heh
 ·have hs2:=Q3l (wtF 400000) (y:=r) hfc
  have htop:=h.top hn hc
  have hytop:=h.top hn hyn
  have hrtop:r≤400000:=by
   rcases hlt with h4 | h4
   ·have h5:=Q6M (f.set c r)
    rw [List.length_set] at h5
    rw [if_pos h4] at hnn
    omega
   ·omega
  have:wtF 400000 r<wtF 400000 (fu f c):=by
   unfold wtF
   rw [if_neg (by omega)]
   split <;> omega
  unfold WF;omega
theorem RInv.fin (hf:RF s.Floor) (hs:RS s) (h:RInv s L f) (hr:∀c,c<s.Floor.Kind.length→∀d,d<6→Rlx s L f c d):FuL s L f where
 len:=h.len
 lo:=h.lo
 sound:=h.sound
 least:=fun c m hm=>by
  induction hm with
  | home hc h3=>rw [h.home _ hc h3];omega
  | step hc h3 hd hn hL hm ih=>
   rename_i c d y m
   have hok:=Q0b hf (c:=(c:Int)) (d:=(d:Int)) (by rw [hn])
   rw [hn] at hok
   have hp:1≤prS s (d:Int) (y:Int)∧prS s (d:Int) (y:Int)≤400:=Q1o (s:=s) hs (by omega) (by omega) hok.2.1
   have:=hr c hc d hd y hn hL ih.1
   omega
theorem Zf (ks:OkApiSite s) (hr:Ws s) (hn:s.Floor.Kind.length≤1000) (hL:L.length≤maxLen) {post:List Int→Prop} (hp:∀f,FuL s L f→(∀c,c<s.Floor.Kind.length→fu f c≤400000)→post f):Kc s L post:=by
 have hf:=hr.fl;have hs:=hr.rs
 have mL:1099511627776≤maxLen:=by unfold maxLen;omega
 unfold Kc
 generalize hnn:s.Floor.Kind.length=n at *
 have hin:∀c:Nat,Int.toNat (c:Int)=c:=fun c=>by simp
 refine⟨by omega,Jn.mk (fun t:List Bool=>t.length=n∧∀y,y<n→t[y]?=some (decide ((y:Int)∈L)))
  (Kh (xs:=L) hL (fun t:List Bool×Int=>t.2) (fun i t=>t.1.length=n∧∀y,y<n→t.1[y]?=some (decide ((y:Int)∈L.take i))) rfl ⟨by simp,fun y hy=>by simp [hy]⟩ (fun i a t ha ht hI=>?_) (fun t hI=>by rw [List.take_length] at hI;exact hI)) (fun bar hbar=>?_)⟩
 ·obtain⟨i1,i2⟩:=hI
  rw [ht]
  refine XY hf (Jn.mk (fun t:List Bool=>t.length=n∧∀y,y<n→t[y]?=some (decide ((y:Int)∈L.take (i+1)))) (Ite.mk (fun h1=>?_) (fun h1=>?_)) (fun t hI=>⟨rfl,hI⟩))
  ·have hc:=QU.1 h1
   obtain⟨c,hcc⟩:=Int.eq_ofNat_of_zero_le hc.1
   subst hcc
   have hcn:c<n:=by omega
   refine⟨_,Qq rfl (i2 c hcn),?_⟩
   rw [hin]
   refine⟨by rw [List.length_set];exact i1,fun y hy=>?_⟩
   rw [List.getElem?_set]
   by_cases e:c=y
   ·subst e
    rw [if_pos rfl,if_pos (by omega),decide_eq_true ((Qm ha).2 (.inr rfl))]
   ·rw [if_neg e,i2 y hy]
    congr 1
    exact decide_eq_decide.2 ⟨fun h=>(Qm ha).2 (.inl h),fun h=>((Qm ha).1 h).resolve_right (fun h=>e (by omega))⟩
  ·refine⟨i1,fun y hy=>?_⟩
   rw [i2 y hy]
   congr 1
   exact decide_eq_decide.2 ⟨fun h=>(Qm ha).2 (.inl h),fun h=>((Qm ha).1 h).resolve_right (fun h=>by
    have:=Q3m.1 h1;omega)⟩
 obtain⟨bl,bg⟩:=hbar
 -- the first table
 refine⟨by omega,Jn.mk (fun t:List Int=>t.length=n∧∀c:Nat,c<n→fu t c=if kd s.Floor c=3 then 0 else -1)
  (Q24 n (fun t:List Int×Int=>t.2) (fun i t=>t.1.length=n∧∀c:Nat,c<i→fu t.1 c=if kd s.Floor c=3 then 0 else -1) (by omega) rfl ⟨by simp,fun c hc=>by omega⟩ (fun c t hc ht hI=>?_) (fun t hI=>hI)) (fun f0 hf0=>?_)⟩
 ·obtain⟨i1,i2⟩:=hI
  have hset:∀(u:List Int),u.length=n→∀w d,fu (u.set c w) d=if d=c then w else fu u d:=fun u hu w d=>YZ (by omega)
  rw [ht]
  refine⟨_,GV (by omega),_,GN (QU.2 (by omega)),Jn.mk (fun u:List Int=>u.length=n∧∀d:Nat,d<c+1→fu u d=if kd s.Floor d=3 then 0 else -1) (Ite.mk (fun h3=>?_) (fun h3=>?_)) (fun u hu=>⟨rfl,hu⟩)⟩
  ·have h3':kd s.Floor c=3:=by simpa using h3
   rw [hin,List.set_set]
   refine⟨by rw [List.length_set];exact i1,fun d hd=>?_⟩
   rw [hset _ i1]
   by_cases e:d=c
   ·subst e;rw [if_pos rfl,if_pos h3']
   ·rw [if_neg e];exact i2 d (by omega)
  ·have h3':kd s.Floor c≠3:=by simpa using h3
   rw [hin]
   refine⟨by rw [List.length_set];exact i1,fun d hd=>?_⟩
   rw [hset _ i1]
   by_cases e:d=c
   ·subst e;rw [if_pos rfl,if_neg h3']
   ·rw [if_neg e];exact i2 d (by omega)
 obtain⟨l0,b0⟩:=hf0
 have hS0:RInv s L f0:=by
  refine⟨by omega,fun c hc=>?_,fun c hc=>?_,fun c hc h0=>?_,fun c hc h3=>?_⟩
  ·rw [b0 c (by omega)];split <;> omega
  ·rw [b0 c (by omega)];split <;> omega
  ·rw [b0 c (by omega)] at h0 ⊢
   split at h0
   ·rename_i h3
    rw [if_pos h3];exact .home hc h3
   ·omega
  ·rw [b0 c (by omega),if_pos h3]
 -- the rounds
 refine Jn.mk (fun f=>RInv s L f∧∀c,c<n→∀d,d<6→Rlx s L f c d)
  (Loop.mk (fun t:List Int×Bool=>RInv s L t.1∧(t.2=false→∀c,c<n→∀d,d<6→Rlx s L t.1 c d)) (fun t=>2*WF 400000 t.1+(if t.2=true then 1 else 0)) ⟨hS0,fun h=>by cases h⟩ ?_) (fun f hf'=>hp f (RInv.fin hf hs hf'.1 (fun c hc=>hf'.2 c (by omega))) (fun c hc=>hf'.1.top (by omega) (by omega)))
 rintro⟨f,ch⟩ ⟨hS,hch⟩
 simp only at hS hch
 refine Ite.mk (fun h1=>?_) (fun h1=>⟨hS,hch h1⟩)
 have h1':ch=true:=h1
 subst h1'
 let I:=fun (c k:Nat) (g:List Int) (b:Bool)=>RInv s L g∧(b=true→WF 400000 g<WF 400000 f)∧(b=false→g=f∧(∀c',c'<c→∀d,d<6→Rlx s L f c' d)∧∀d,d<k→Rlx s L f c d)
 refine Jn.mk (fun t:List Int×Bool=>I n 0 t.1 t.2) (Jn.mk (fun t:List Int×Bool=>I n 0 t.1 t.2) (Q24 n (fun t:List Int×Bool×Int=>t.2.2) (fun c t=>I c 0 t.1 t.2.1) (by omega) rfl ⟨hS,fun h=>(by cases h),fun _=>⟨rfl,fun c hc=>by omega,fun d hd=>by omega⟩⟩ (fun c t hc ht hI=>?_) (fun t hI=>hI)) (fun t hI=>hI)) (fun t hI=>⟨⟨hI.1,fun h=>?_⟩,?_⟩)
 ·rw [ht]
  refine Jn.mk (fun t:List Int×Bool=>I (c+1) 0 t.1 t.2) (Jn.mk (fun t:List Int×Bool=>I c 6 t.1 t.2) (Q24 (t0:=(t.1,t.2.1,0)) 6 (fun t:List Int×Bool×Int=>t.2.2) (fun d t=>I c d t.1 t.2.1) (by omega) rfl hI (fun d u hd hu hI=>?_) (fun u hI=>hI)) (fun u hI=>⟨hI.1,hI.2.1,fun h=>?_⟩)) (fun u hu=>⟨rfl,hu⟩)
  ·obtain⟨j1,j2,j3⟩:=hI
   have hul:=j1.len
   have hlo:=j1.lo c (by omega)
   rw [hu]
   -- nothing changes at this move
   have stay:Rlx s L u.1 c d→I c (d+1) u.1 u.2.1:=fun hr=>⟨j1,j2,fun h=>by
    obtain⟨k1,k2,k3⟩:=j3 h
    refine⟨k1,k2,fun d' hd'=>?_⟩
    by_cases e:d'=d
    ·rw [e,←k1];exact hr
    ·exact k3 d' (by omega)⟩
   refine Jn.mk (fun t:List Int×Bool=>I c (d+1) t.1 t.2) (Q1t hf (by omega) (Jn.mk (fun b=>b=true↔((nx s.Floor c d).2=false∨fu u.1 c=0)) (Ite.mk (fun h1=>⟨_,GV (by omega),?_⟩) (fun h1=>?_)) (fun b hb=>Ite.mk (fun h2=>?_) (fun h2=>?_)))) (fun t ht=>⟨rfl,ht⟩)
   ·have h1':(nx s.Floor c d).2=true:=h1
    simp [h1']
   ·have h1':(nx s.Floor c d).2=false:=h1
    simp [h1']
   ·refine stay (fun y hy hyL h0=>?_)
    have hok:=Q0b hf (c:=(c:Int)) (d:=(d:Int)) (by rw [hy])
    rw [hy] at hok
    have hp:1≤prS s (d:Int) (y:Int)∧prS s (d:Int) (y:Int)≤400:=Q1o (s:=s) hs (by omega) (by omega) hok.2.1
    rcases hb.1 h2 with h | h
    ·rw [hy] at h;cases h
    ·omega
   ·have hno:¬((nx s.Floor c d).2=false∨fu u.1 c=0):=fun h=>by rw [hb.2 h] at h2;cases h2
    have g1:(nx s.Floor c d).2=true:=by
     cases e:(nx s.Floor c d).2 with
     | true=>rfl
     | false=>exact absurd (.inl e) hno
    have g0:fu u.1 c≠0:=fun e=>hno (.inr e)
    have h3:kd s.Floor c≠3:=fun h=>g0 (j1.home c (by omega) h)
    have hok:=Q0b hf (c:=(c:Int)) (d:=(d:Int)) g1
    have hty:=QU.1 hok.2.1
    obtain⟨y,hy⟩:=Int.eq_ofNat_of_zero_le hty.1
    have hnx:nx s.Floor c d=((y:Int),true):=by rw [←hy,←g1]
    have hp:=Q1o (s:=s) hs (d:=(d:Int)) (by omega) (by omega) hok.2.1
    rw [hy] at hp hty ⊢
    have hyn:y<n:=by omega
    have hyt:=j1.top (by omega) (show y<s.Floor.Kind.length by omega)
    have hyl:=j1.lo y (by omega)
    have hidx:=GV (f:=u.1) (c:=y) (by omega)
    have hidc:=GV (f:=u.1) (c:=c) (by omega)
    have huniq:∀y':Nat,nx s.Floor c d=((y':Int),true)→y'=y:=fun y' h=>by
     rw [hnx] at h
     have:=congrArg Prod.fst h
     simp at this;omega
    refine Jn.mk (fun b=>b=true↔(fu u.1 y<0∨(y:Int)∈L)) ⟨_,hidx,Ite.mk (fun k1=>?_) (fun k1=>⟨_,Qq rfl (bg y hyn),?_⟩)⟩ (fun b2 hb2=>Ite.mk (fun k1=>?_) (fun k1=>⟨_,hidx,Q0z ks hr ?_⟩))
    ·exact⟨fun _=>.inl (of_decide_eq_true k1),fun _=>rfl⟩
    ·have k1':¬fu u.1 y<0:=of_decide_eq_false k1
     show decide ((y:Int)∈L)=true↔_
     rw [decide_eq_true_iff]
     exact⟨.inr,fun h=>h.resolve_left k1'⟩
    ·refine stay (fun y' hy' hyL h0=>?_)
     have:=huniq y' hy'
     subst this
     rcases hb2.1 k1 with h | h
     ·omega
     ·exact absurd h hyL
    ·have hno2:¬(fu u.1 y<0∨(y:Int)∈L):=fun h=>by rw [hb2.2 h] at k1;cases k1
     have hy0:0≤fu u.1 y:=by
      by_cases h:fu u.1 y<0
      ·exact absurd (.inl h) hno2
      ·omega
     have hyL:(y:Int)∉L:=fun h=>hno2 (.inr h)
     have hw:w64 (fu u.1 y+prS s d y)=fu u.1 y+prS s d y:=Qx (by omega) (by omega)
     refine Jn.mk (fun b=>b=true↔(fu u.1 c<0∨fu u.1 y+prS s d y<fu u.1 c)) ⟨_,hidc,Ite.mk (fun m1=>?_) (fun m1=>?_)⟩ (fun b3 hb3=>Jn.mk (fun t:List Int×Bool=>I c (d+1) t.1 t.2) (Ite.mk (fun m1=>⟨_,hidc,?_⟩) (fun m1=>?_)) (fun t ht=>ht))
     ·exact⟨fun _=>.inl (of_decide_eq_true m1),fun _=>rfl⟩
     ·show decide (w64 (fu u.1 y+prS s d y)<fu u.1 c)=true↔_
      rw [hw,decide_eq_true_iff]
      exact⟨.inr,fun h=>h.resolve_left (of_decide_eq_false m1)⟩
     ·have hput:=j1.put hf hs (by omega) (by omega) h3 hd hnx hyL hy0 (hb3.1 m1)
      rw [hin,hw]
      refine⟨hput.1,fun _=>?_,fun h=>by cases h⟩
      show WF 400000 (u.1.set c (fu u.1 y+prS s d y))<WF 400000 f
      cases e:u.2.1 with
      | true=>have:=j2 e;omega
      | false=>
       have:=(j3 e).1
       rw [←this];exact hput.2
     ·refine stay (fun y' hy' hyL' h0=>?_)
      have:=huniq y' hy'
      subst this
      have hno3:¬(fu u.1 c<0∨fu u.1 y'+prS s d y'<fu u.1 c):=fun h=>by rw [hb3.2 h] at m1;cases m1
      have a1:¬fu u.1 c<0:=fun h=>hno3 (.inl h)
      have a2:¬fu u.1 y'+prS s d y'<fu u.1 c:=fun h=>hno3 (.inr h)
      omega
  ·obtain⟨k1,k2,k3⟩:=hI.2.2 h
   refine⟨k1,fun c' hc' d hd=>?_,fun d hd=>by omega⟩
   by_cases e:c'=c
   ·rw [e];exact k3 d hd
   ·exact k2 c' (by omega) d hd
 ·have h':t.2=false:=h
  obtain⟨k1,k2,_⟩:=hI.2.2 h'
  show ∀c,c<n→∀d,d<6→Rlx s L t.1 c d
  rw [k1];exact k2
 ·show 2*WF 400000 t.1+(if t.2=true then 1 else 0)<2*WF 400000 f+1
  cases e:t.2 with
  | true=>have:=hI.2.1 e;simp;omega
  | false=>rw [(hI.2.2 e).1];simp
end
end Go.Taq
/- The mathematics, part GK: the reference's needs; who is blocked; margins (chapter 33). -/
set_option linter.unusedVariables false
set_option linter.unusedSimpArgs false
namespace Go.Taq
open Go
theorem Q7Z {a b:List Int} (h:a.length=b.length) (he:∀c,c<a.length→fu a c=fu b c):a=b:=by
 refine List.ext_getElem? fun i=>?_
 by_cases hi:i<a.length
 ·rw [Q1s hi,Q1s (by omega),he i hi]
 ·rw [List.getElem?_eq_none (by omega),List.getElem?_eq_none (by omega)]
section
variable {s:ApiSite} {L:List Int} {D:Int}
theorem Q0r (ks:OkApiSite s) (hr:Ws s) (hn:s.Floor.Kind.length≤1000) (hL:L.length≤100000) (hD:0≤D∧D≤100000) {post:List Int→Prop} (hp:∀v,v.length=s.Floor.Kind.length→(∀c,c<s.Floor.Kind.length→fu v c=nd s L D s.Floor.Kind.length c)→post v):Ko s L D post:=by
 have hf:=hr.fl;have hs:=hr.rs
 have mL:1099511627776≤maxLen:=by unfold maxLen;omega
 unfold Ko
 refine Zf ks hr hn (by omega) (fun f hF hB=>⟨by rw [hF.len];omega,?_⟩)
 have hfl:=hF.len
 have hfv:∀c,c<s.Floor.Kind.length→fu f c=fuV s L c:=fun c hc=>hF.eq hc
 generalize hnn:s.Floor.Kind.length=n at *
 refine Jn.mk (fun t=>t.length=n∧∀c,c<n→fu t c=nd s L D 0 c)
  (Wh (xs:=f) (by omega) (fun t:List Int×Int=>t.2) (fun i t=>t.1.length=n∧∀c,c<i→fu t.1 c=nd s L D 0 c) rfl ⟨by simp [hfl],fun c hc=>by omega⟩ (fun c v t hv ht hI=>?_) (fun t hI=>by rw [hfl] at hI;exact hI)) (fun t0 ht0=>?_)
 ·obtain⟨i1,i2⟩:=hI
  have hc:c<n:=by have:=(List.getElem?_eq_some_iff.1 hv).1;omega
  have hin:Int.toNat (c:Int)=c:=by simp
  have hlo:=hF.lo c (by omega)
  have hbb:=hB c hc
  have hset:∀(u:List Int),u.length=n→∀w d,fu (u.set c w) d=if d=c then w else fu u d:=fun u hu w d=>YZ (by omega)
  rw [ht]
  have fin:∀u:List Int,u.length=n→(∀d,d<c→fu u d=nd s L D 0 d)→fu u c=nd s L D 0 c→u.length=n∧∀d,d<c+1→fu u d=nd s L D 0 d:=fun u h1 h2 h3=>⟨h1,fun d hd=>by
   by_cases e:d=c
   ·rw [e];exact h3
   ·exact h2 d (by omega)⟩
  refine⟨_,GV (by omega),_,GV (by omega),Jn.mk (fun u:List Int=>u.length=n∧∀d,d<c+1→fu u d=nd s L D 0 d) (Ite.mk (fun h0=>Yq ?_) (fun h0=>?_)) (fun u hu=>⟨rfl,hu⟩)⟩
  ·have h0':0≤fu f c:=of_decide_eq_true h0
   rw [hin,List.set_set]
   refine fin _ (by rw [List.length_set];exact i1) (fun d hd=>?_) ?_
   ·rw [hset _ i1,if_neg (by omega)];exact i2 d hd
   ·rw [hset _ i1,if_pos rfl,Qx (x:=D*3) (by omega) (by omega),Qx (by omega) (by omega)]
    unfold nd
    rw [if_neg (by rw [←hfv c hc];omega),←hfv c hc]
  ·have h0':¬0≤fu f c:=of_decide_eq_false h0
   rw [hin]
   refine fin _ (by rw [List.length_set];exact i1) (fun d hd=>?_) ?_
   ·rw [hset _ i1,if_neg (by omega)];exact i2 d hd
   ·rw [hset _ i1,if_pos rfl]
    unfold nd
    rw [if_pos (by rw [←hfv c hc];omega)]
 refine Jn.mk (fun t=>t.length=n∧∀c,c<n→fu t c=nd s L D n c)
  (Wh (xs:=f) (by omega) (fun t:List Int×Int=>t.2) (fun i t=>t.1.length=n∧∀c,c<n→fu t.1 c=nd s L D i c) rfl ht0 (fun x v t hv ht hI=>?_) (fun t hI=>by rw [hfl] at hI;exact hI)) (fun t1 ht1=>hp t1 ht1.1 ht1.2)
 obtain⟨i1,i2⟩:=hI
 have hx:x<n:=by have:=(List.getElem?_eq_some_iff.1 hv).1;omega
 rw [ht]
 refine Jn.mk (fun u=>u.length=n∧∀c,c<n→fu u c=nd s L D (x+1) c) (YO (by omega) (Ite.mk (fun h1=>?_) (fun h1=>?_))) (fun u hu=>⟨rfl,hu⟩)
 ·have h1':(x:Int)∈L:=by simpa using h1
  refine⟨i1,fun c hc=>?_⟩
  conv=>rhs;unfold nd
  rw [if_pos (.inr h1')];exact i2 c hc
 ·have h1':(x:Int)∉L:=by simpa using h1
  refine⟨by simp;omega,by simp;omega,Zf ks hr (by omega) (by simp;omega) (fun f' hF' _=>?_)⟩
  have hf':∀c,c<n→fu f' c=fuV s ((x:Int) :: L) c:=fun c hc=>by
   rw [hF'.eq (by omega)]
   exact Q5y (fun y=>by simp [or_comm])
  have hfl':=hF'.len
  have hnd:∀c,c<n→nd s L D (x+1) c=if c=x then nd s L D x c else if nd s L D x c<0∨fu f' c<0 then -1 else imax (nd s L D x c) (fu f' c):=fun c hc=>by
   conv=>lhs;unfold nd
   rw [hf' c hc]
   by_cases e:c=x
   ·rw [if_pos (.inl e),if_pos e]
   ·rw [if_neg (fun h=>h.elim e h1'),if_neg e]
  refine Jn.mk (fun u=>u.length=n∧∀c,c<n→fu u c=nd s L D (x+1) c)
   (Wh (t0:=(t.1,0)) (xs:=f) (by omega) (fun t:List Int×Int=>t.2) (fun i t=>t.1.length=n∧∀c,c<n→fu t.1 c=if c<i then nd s L D (x+1) c else nd s L D x c) rfl ⟨i1,fun c hc=>by simp [i2 c hc]⟩ (fun c v t hv ht hI=>?_) (fun t hI=>?_)) (fun u hu=>hu)
  ·obtain⟨j1,j2⟩:=hI
   have hc:c<n:=by have:=(List.getElem?_eq_some_iff.1 hv).1;omega
   have hin:Int.toNat (c:Int)=c:=by simp
   have hcur:fu t.1 c=nd s L D x c:=by rw [j2 c hc,if_neg (Nat.lt_irrefl _)]
   have hidx:=GV (f:=t.1) (c:=c) (by omega)
   have hidx':=GV (f:=f') (c:=c) (by omega)
   have e1:=hnd c hc
   have hge:=(Q7h (s:=s) (L:=L) hD.1 c x).1
   have hset:∀w d,fu (t.1.set c w) d=if d=c then w else fu t.1 d:=fun w d=>YZ (by omega)
   have fin:∀w,w=nd s L D (x+1) c→(t.1.set c w).length=n∧∀d,d<n→fu (t.1.set c w) d=if d<c+1 then nd s L D (x+1) d else nd s L D x d:=fun w hw=>⟨by rw [List.length_set];exact j1,fun d hd=>by
    rw [hset,j2 d hd]
    by_cases e:d=c
    ·subst e;rw [if_pos rfl,if_pos (Nat.lt_succ_self _)];exact hw
    ·rw [if_neg e]
     by_cases e2:d<c
     ·rw [if_pos e2,if_pos (by omega)]
     ·rw [if_neg e2,if_neg (by omega)]⟩
   rw [ht]
   refine Jn.mk (fun u:List Int=>u.length=n∧∀d,d<n→fu u d=if d<c+1 then nd s L D (x+1) d else nd s L D x d) (Jn.mk (fun b=>b=true↔c=x∨nd s L D x c<0) (Ite.mk (fun h2=>?_) (fun h2=>⟨_,hidx,?_⟩)) (fun b hb=>Ite.mk (fun h2=>?_) (fun h2=>⟨_,hidx,_,hidx',Jn.mk' (Ite.mk (fun h3=>?_) (fun h3=>?_))⟩))) (fun u hu=>⟨rfl,hu⟩)
   ·have h2':c=x:=by have:(c:Int)=(x:Int):=by simpa using h2
                     omega
    exact⟨fun _=>.inl h2',fun _=>rfl⟩
   ·have h2':c≠x:=by have:(c:Int)≠(x:Int):=by simpa using h2
                     omega
    show decide (fu t.1 c<0)=true↔_
    rw [hcur,decide_eq_true_iff]
    exact⟨.inr,fun h=>h.resolve_left h2'⟩
   ·refine⟨j1,fun d hd=>?_⟩
    rw [j2 d hd]
    by_cases e:d=c
    ·rw [e,if_neg (Nat.lt_irrefl _),if_pos (Nat.lt_succ_self _),e1]
     by_cases ex:c=x
     ·rw [if_pos ex]
     ·have hneg:nd s L D x c<0:=(hb.1 h2).resolve_left ex
      rw [if_neg ex,if_pos (.inl hneg)];omega
    ·by_cases e2:d<c
     ·rw [if_pos e2,if_pos (by omega)]
     ·rw [if_neg e2,if_neg (by omega)]
   ·have hno:¬(c=x∨nd s L D x c<0):=fun h=>by rw [hb.2 h] at h2;cases h2
    have h3':fu f' c<0:=of_decide_eq_true h3
    rw [hin,List.set_set]
    exact fin _ (by rw [e1,if_neg (fun h=>hno (.inl h)),if_pos (.inr h3')])
   ·have hno:¬(c=x∨nd s L D x c<0):=fun h=>by rw [hb.2 h] at h2;cases h2
    have h3':¬fu f' c<0:=of_decide_eq_false h3
    rw [hin]
    exact fin _ (by rw [e1,if_neg (fun h=>hno (.inl h)),if_neg (fun h=>h.elim (fun h=>hno (.inr h)) h3'),hcur])
  ·obtain⟨j1,j2⟩:=hI
   rw [hfl] at j2
   exact⟨j1,fun c hc=>by show fu t.1 c=_;rw [j2 c hc,if_pos hc]⟩
theorem Q1k {c:Int} (ks:OkApiSite s) (hr:Ws s) (hn:s.Floor.Kind.length≤1000) (hL:L.length≤100000) (hD:0≤D∧D≤100000) {post:Int→Prop} (hp:post (if isC s.Floor c=true then nd s L D s.Floor.Kind.length c.toNat else -1)):KE s L c D post:=by
 have hf:=hr.fl
 unfold KE
 refine XY hf (Ite.mk (fun h=>?_) (fun h=>Q0r ks hr hn hL hD (fun v hv hval=>?_)))
 ·have h':isC s.Floor c=false:=by simpa using h
  rw [if_neg (by rw [h'];simp)] at hp;exact hp
 ·have h':isC s.Floor c=true:=by simpa using h
  rw [if_pos h'] at hp
  have ht:=QU.1 h'
  obtain⟨y,hy⟩:=Int.eq_ofNat_of_zero_le ht.1
  subst hy
  refine⟨_,GV (by omega),?_⟩
  rw [hval y (by omega)]
  simpa using hp
end
/-! ## who is blocked -/
structure Blk (st:ApiState) (l:List Int):Prop where
 asc:l.Pairwise (· < ·)
 mem:∀a,a∈l↔a∈st.Dead∨∃r,r∈st.Robots∧r.Dead=true∧r.Cell=a
theorem Q67:∀{xs ys:List Int},xs.Pairwise (· < ·)→ys.Pairwise (· < ·)→(∀x,x∈xs↔x∈ys)→xs=ys
 | [],[],_,_,_=>rfl
 | [],y :: ys,_,_,h=>by have:=(h y).2 (by simp);simp at this
 | x :: xs,[],_,_,h=>by have:=(h x).1 (by simp);simp at this
 | x :: xs,y :: ys,hx,hy,h=>by
  rw [List.pairwise_cons] at hx hy
  have e:x=y:=by
   have h1:=(h x).1 (by simp)
   have h2:=(h y).2 (by simp)
   rcases List.mem_cons.1 h1 with e | h1
   ·exact e
   ·rcases List.mem_cons.1 h2 with e | h2
    ·exact e.symm
    ·have:=hx.1 y h2;have:=hy.1 x h1;omega
  subst e
  rw [Q67 hx.2 hy.2 (fun z=>?_)]
  constructor
  ·intro hz
   rcases List.mem_cons.1 ((h z).1 (List.mem_cons_of_mem _ hz)) with e | g
   ·subst e;have:=hx.1 z hz;omega
   ·exact g
  ·intro hz
   rcases List.mem_cons.1 ((h z).2 (List.mem_cons_of_mem _ hz)) with e | g
   ·subst e;have:=hy.1 z hz;omega
   ·exact g
theorem Blk.uniq {st:ApiState} {l l':List Int} (h:Blk st l) (h':Blk st l'):l=l':=Q67 h.asc h'.asc (fun x=>by rw [h.mem,h'.mem])
def blkR (st:ApiState) (i:Nat):List Int:=st.Dead++((st.Robots.take i).filter (fun r=>r.Dead)).map (fun r=>r.Cell)
theorem Q0q {st:ApiState} {i:Nat} {r:Q0} (h:st.Robots[i]?=some r):blkR st (i+1)=blkR st i++(if r.Dead=true then [r.Cell] else []):=by
 unfold blkR
 rw [QI h,List.filter_append,List.map_append,List.append_assoc]
 congr 2
 by_cases e:r.Dead=true <;> simp [e]
theorem Q0m {st:ApiState} (i:Nat):(blkR st i).length≤st.Dead.length+i:=by
 unfold blkR
 have:=List.length_filter_le (fun r:Q0=>r.Dead) (st.Robots.take i)
 rw [List.length_append,List.length_map]
 rw [List.length_take] at this;omega
theorem Q3b {st:ApiState} {a:Int}:a∈blkR st st.Robots.length↔a∈st.Dead∨∃r,r∈st.Robots∧r.Dead=true∧r.Cell=a:=by
 unfold blkR
 rw [List.take_length]
 simp [and_assoc]
theorem W8 {st:ApiState} (hz:Sz st) {post:List Int→Prop} (hp:∀l,Blk st l→l.length≤2000→post l):Ku st post:=by
 have q1:=hz.rb;have q2:=hz.dd
 unfold Ku
 refine Y0 (by omega) (Jn.mk (fun t=>t=blkR st st.Robots.length) (Kh (xs:=st.Robots) (by unfold maxLen;omega) (fun t:List Int×Int=>t.2) (fun i t=>t.1=blkR st i) rfl (by simp [blkR]) (fun i r t hr ht hI=>?_) (fun t hI=>hI)) (fun t ht=>?_))
 ·have hi:=(List.getElem?_eq_some_iff.1 hr).1
  have hl:=Q0m (st:=st) i
  rw [ht]
  refine Jn.mk (fun u=>u=blkR st (i+1)) (Ite.mk (fun h=>⟨by rw [hI];simp;omega,?_⟩) (fun h=>?_)) (fun u hu=>⟨rfl,hu⟩)
  ·rw [Q0q hr,if_pos h,hI]
  ·rw [Q0q hr,if_neg (by rw [h];simp),hI];simp
 ·subst ht
  have hl:=Q0m (st:=st) st.Robots.length
  have hperm:=List.mergeSort_perm (blkR st st.Robots.length) (fun x y=>decide (x≤y))
  have hsort:((blkR st st.Robots.length).mergeSort fun x y=>decide (x≤y)).Pairwise (fun x y=>x<y∨x=y):=by
   have:=List.pairwise_mergeSort (le:=fun x y:Int=>decide (x≤y)) (fun a b c h1 h2=>by simp at *;omega) (fun a b=>by simp;omega) (blkR st st.Robots.length)
   exact this.imp (fun h=>by simp at h;omega)
  have hlen:=hperm.length_eq
  unfold QF
  generalize (blkR st st.Robots.length).mergeSort (fun x y=>decide (x≤y))=m at *
  refine⟨by omega,S_CompactI (by omega) (hp _ ⟨Q5P (lt:=(· < ·)) (fun x y z h1 h2=>by omega) hsort m.length (Nat.le_refl _),fun a=>?_⟩ (by have:=Q4h (xs:=m) m.length;omega))⟩
  rw [Q3h m.length (Nat.le_refl _),List.take_length,hperm.mem_iff]
  exact Q3b
end Go.Taq
/- The mathematics, part GL: margins, who is covered, what is granted; ReachTells (chapter 33). -/
set_option linter.unusedVariables false
set_option linter.unusedSimpArgs false
namespace Go.Taq
open Go
theorem Zl {st:ApiState} (hz:Sz st) {post:List Int→Prop} (hp:∀l,Blk st l→l.length≤2000→post l):K7 st post:=by
 have q1:=hz.rb;have q2:=hz.dd
 unfold K7
 refine⟨by simp;omega,Jn.mk (fun t=>t=blkR st st.Robots.length) (Kh (xs:=st.Robots) (by unfold maxLen;omega) (fun t:List Int×Int=>t.2) (fun i t=>t.1=blkR st i) rfl (by simp [blkR]) (fun i r t hr ht hI=>?_) (fun t hI=>hI)) (fun t ht=>?_)⟩
 ·have hi:=(List.getElem?_eq_some_iff.1 hr).1
  have hl:=Q0m (st:=st) i
  rw [ht]
  refine Jn.mk (fun u=>u=blkR st (i+1)) (Ite.mk (fun h=>⟨by rw [hI];simp;omega,?_⟩) (fun h=>?_)) (fun u hu=>⟨rfl,hu⟩)
  ·rw [Q0q hr,if_pos h,hI]
  ·rw [Q0q hr,if_neg (by rw [h];simp),hI];simp
 ·subst ht
  have hl:=Q0m (st:=st) st.Robots.length
  refine Jn.mk (fun o=>Blk st o∧o.length≤2000) (Loop.mk (fun t:List Int×List Int=>t.2.Pairwise (· < ·)∧(∀a,a∈t.2→∀b,b∈t.1→a<b)∧t.1.length+t.2.length≤2000∧∀a,a∈blkR st st.Robots.length↔a∈t.1∨a∈t.2) (fun t=>t.1.length) ⟨List.Pairwise.nil,fun a ha=>(by cases ha),by simp;omega,fun a=>by simp⟩ ?_) (fun o ho=>hp o ho.1 ho.2)
  rintro⟨rest,out⟩ ⟨h1,h2,h3,h4⟩
  simp only at h1 h2 h3 h4
  match rest,h2,h3,h4 with
  | [],h2,h3,h4=>exact Ite.f (by simp) ⟨⟨h1,fun a=>by rw [←Q3b,h4];simp⟩,by simp at h3;exact h3⟩
  | x0 :: r,h2,h3,h4=>
   have hlen:(x0 :: r).length=r.length+1:=rfl
   rw [hlen] at h3
   refine Ite.t (decide_eq_true (by rw [hlen];omega)) (Jn.mk (fun t:List Int×List Int=>(t.2.Pairwise (· < ·)∧(∀a,a∈t.2→∀b,b∈t.1→a<b)∧t.1.length+t.2.length≤2000∧∀a,a∈blkR st st.Robots.length↔a∈t.1∨a∈t.2)∧t.1.length<(x0 :: r).length) ⟨x0,rfl,?_⟩ (fun t ht=>ht))
   generalize hxs:x0 :: r=xs at *
   have hx0:xs[0]?=some x0:=by rw [←hxs];rfl
   refine Jn.mk (fun m=>m∈xs∧∀b,b∈xs→m≤b) (Loop.mk (fun t:Int×Int=>∃i:Nat,t.2=(i:Int)∧1≤i∧i≤xs.length∧t.1∈xs∧∀b,b∈xs.take i→t.1≤b) (fun t=>xs.length-t.2.toNat) ⟨1,rfl,by omega,by omega,List.mem_of_getElem? hx0,fun b hb=>by
    rw [←hxs] at hb;simp at hb;subst hb;exact Int.le_refl _⟩ ?_) (fun m hm=>⟨by simp;omega,?_⟩)
   ·rintro⟨m,ii⟩ ⟨i,e,i1,i2,i3,i4⟩
    simp only at e i3 i4
    subst e
    refine Ite.mk (fun hlt=>?_) (fun hlt=>?_)
    ·have hlt':i<xs.length:=by have:=of_decide_eq_true hlt;simp at this;exact this
     have ha:=List.getElem?_eq_getElem hlt'
     generalize xs[i]=a at ha
     refine⟨a,Qq rfl ha,⟨i+1,by show w64 _=_;rw [Qx (by omega) (by omega)];simp,by omega,by omega,?_,fun b hb=>?_⟩,?_⟩
     ·show imin m a∈xs
      unfold imin;split
      ·exact List.mem_of_getElem? ha
      ·exact i3
     ·show imin m a≤b
      rcases (Qm ha).1 hb with hb | hb
      ·have:=i4 b hb;unfold imin;split <;> omega
      ·subst hb;unfold imin;split <;> omega
     ·show xs.length-(w64 ((i:Int)+1)).toNat<xs.length-((i:Int)).toNat
      rw [Qx (by omega) (by omega)];omega
    ·have hie:i=xs.length:=by have:¬((i:Int)<xs.length):=of_decide_eq_false hlt;omega
     rw [hie,List.take_length] at i4
     exact⟨i3,i4⟩
   ·obtain⟨m1,m2⟩:=hm
    refine Jn.mk (fun t=>t=xs.filter (fun b=>decide (b≠m))) (Kh (xs:=xs) (by unfold maxLen;omega) (fun t:List Int×Int=>t.2) (fun i t=>t.1=(xs.take i).filter (fun b=>decide (b≠m))) rfl (by simp) (fun i a t ha ht hI=>?_) (fun t hI=>by rw [List.take_length] at hI;exact hI)) (fun t ht=>?_)
    ·have hi:=(List.getElem?_eq_some_iff.1 ha).1
     have hfl:=List.length_filter_le (fun b:Int=>decide (b≠m)) (xs.take i)
     rw [List.length_take] at hfl
     rw [ht]
     refine Jn.mk (fun u=>u=(xs.take (i+1)).filter (fun b=>decide (b≠m))) (Ite.mk (fun h=>⟨by rw [hI,List.length_singleton];omega,?_⟩) (fun h=>?_)) (fun u hu=>⟨rfl,hu⟩)
     ·have h':a≠m:=by simpa using h
      rw [QI ha,List.filter_append,hI];simp [h']
     ·have h':a=m:=by simpa using h
      rw [QI ha,List.filter_append,hI];simp [h']
    ·subst ht
     have hmf:∀b,b∈xs.filter (fun b=>decide (b≠m))↔b∈xs∧b≠m:=fun b=>by simp
     have hlt:(xs.filter (fun b=>decide (b≠m))).length<xs.length:=by
      have h5:=List.length_filter_le (fun b:Int=>decide (b≠m)) xs
      rcases Nat.lt_or_ge (xs.filter (fun b=>decide (b≠m))).length xs.length with h | h
      ·exact h
      ·have:=List.length_filter_eq_length_iff.1 (by omega:(xs.filter (fun b=>decide (b≠m))).length=xs.length) m m1
       simp at this
     refine⟨⟨?_,fun a ha b hb=>?_,?_,fun a=>?_⟩,hlt⟩
     ·refine List.pairwise_append.2 ⟨h1,by simp,fun a ha b hb=>?_⟩
      simp at hb;subst hb;exact h2 a ha _ m1
     ·obtain⟨b1,b2⟩:=(hmf b).1 hb
      have:=m2 b b1
      rcases List.mem_append.1 ha with ha | ha
      ·exact h2 a ha b b1
      ·simp at ha;subst ha;omega
     ·show (xs.filter (fun b=>decide (b≠m))).length+(out++[m]).length≤2000
      rw [List.length_append,List.length_singleton]
      have:xs.length=r.length+1:=by rw [←hxs];rfl
      omega
     ·show _↔a∈xs.filter (fun b=>decide (b≠m))∨a∈out++[m]
      rw [h4,hmf,List.mem_append]
      by_cases e:a=m
      ·subst e;simp [m1]
      ·simp [e]
theorem Q8y {st:ApiState} (hz:Sz st):∃l,Blk st l∧l.length≤2000:=by
 have q1:=hz.rb;have q2:=hz.dd
 have hl:=Q0m (st:=st) st.Robots.length
 have hperm:=List.mergeSort_perm (blkR st st.Robots.length) (fun x y=>decide (x≤y))
 have hsort:((blkR st st.Robots.length).mergeSort fun x y=>decide (x≤y)).Pairwise (fun x y=>x<y∨x=y):=by
  have:=List.pairwise_mergeSort (le:=fun x y:Int=>decide (x≤y)) (fun a b c h1 h2=>by simp at *;omega) (fun a b=>by simp;omega) (blkR st st.Robots.length)
  exact this.imp (fun h=>by simp at h;omega)
 have hlen:=hperm.length_eq
 generalize (blkR st st.Robots.length).mergeSort (fun x y=>decide (x≤y))=m at *
 refine⟨cmI m m.length,⟨Q5P (lt:=(· < ·)) (fun x y z h1 h2=>by omega) hsort m.length (Nat.le_refl _),fun a=>?_⟩,by have:=Q4h (xs:=m) m.length;omega⟩
 rw [Q3h m.length (Nat.le_refl _),List.take_length,hperm.mem_iff]
 exact Q3b
/-! ## margins -/
def mgV (r:Q0) (v:Int):Int×Bool:=if r.Dead=true∨v<0 then (0,false) else (w64 (w64 (r.Charge-v)-w64 (w64 (r.Rest+r.Mute)*3)),true)
noncomputable def mgS (s:ApiSite) (st:ApiState) (L:List Int) (D i:Int):Int×Bool:=if i<0∨i≥st.Robots.length then (0,false) else mgV (st.Robots.getD i.toNat default) (nd s L D s.Floor.Kind.length (st.Robots.getD i.toNat default).Cell.toNat)
section
variable {s:ApiSite} {st:ApiState} {L:List Int} {D:Int}
theorem Q5z {i:Int} (h:¬(i<0∨i≥st.Robots.length)):st.Robots[i.toNat]?=some (st.Robots.getD i.toNat default)∧idx st.Robots i=some (st.Robots.getD i.toNat default):=by
 have hx:=List.getElem?_eq_getElem (show i.toNat<st.Robots.length by omega)
 have e:st.Robots.getD i.toNat default=st.Robots[i.toNat]'(by omega):=by rw [List.getD_eq_getElem?_getD,hx];rfl
 rw [e]
 exact⟨hx,Qq (n:=i.toNat) (by omega) hx⟩
theorem Wp (hc:∀(i:Nat) r,st.Robots[i]?=some r→isC s.Floor r.Cell=true) {v:List Int} (hv:v.length=s.Floor.Kind.length) (hvv:∀c,c<s.Floor.Kind.length→fu v c=nd s L D s.Floor.Kind.length c) {i:Int} {post:Int×Bool→Prop} (hp:post (mgS s st L D i)):KU st i v post:=by
 unfold KU
 refine Jn.mk (fun b=>b=true↔(i<0∨i≥st.Robots.length)) (Ite.mk (fun h=>?_) (fun h=>?_)) (fun b hb=>Ite.mk (fun h=>?_) (fun h=>?_))
 ·exact⟨fun _=>.inl (of_decide_eq_true h),fun _=>rfl⟩
 ·show decide (i≥(st.Robots.length:Int))=true↔_
  rw [decide_eq_true_iff]
  exact⟨.inr,fun h2=>h2.resolve_left (of_decide_eq_false h)⟩
 ·unfold mgS at hp
  rw [if_pos (hb.1 h)] at hp;exact hp
 ·have hno:¬(i<0∨i≥st.Robots.length):=fun h2=>by rw [hb.2 h2] at h;cases h
  unfold mgS at hp
  rw [if_neg hno] at hp
  obtain⟨hr,hri⟩:=Q5z hno
  generalize st.Robots.getD i.toNat default=r at *
  have ht:=QU.1 (hc _ r hr)
  obtain⟨c,hcc⟩:=Int.eq_ofNat_of_zero_le ht.1
  rw [hcc] at hp ht
  have hidx:idx v r.Cell=some (nd s L D s.Floor.Kind.length c):=by rw [hcc,GV (by omega),hvv c (by omega)]
  rw [Int.toNat_natCast] at hp
  refine⟨r,hri,Jn.mk (fun b=>b=true↔(r.Dead=true∨nd s L D s.Floor.Kind.length c<0)) (Ite.mk (fun h=>⟨fun _=>.inl h,fun _=>rfl⟩) (fun h=>⟨_,hidx,?_⟩)) (fun b hb=>Ite.mk (fun h=>?_) (fun h=>⟨_,hidx,WB ?_⟩))⟩
  ·show decide _=true↔_
   rw [decide_eq_true_iff]
   exact⟨.inr,fun h2=>h2.resolve_left (by rw [h];simp)⟩
  ·unfold mgV at hp
   rw [if_pos (hb.1 h)] at hp;exact hp
  ·unfold mgV at hp
   rw [if_neg (fun h2=>by rw [hb.2 h2] at h;cases h)] at hp;exact hp
theorem Q2h (ks:OkApiSite s) (hr:Ws s) (hn:s.Floor.Kind.length≤1000) (hz:Sz st) (hc:∀(i:Nat) r,st.Robots[i]?=some r→isC s.Floor r.Cell=true) (hB:Blk st L) (hD:0≤D∧D≤100000) {i:Int} {post:Int×Bool→Prop} (hp:post (mgS s st L D i)):Gt s st i D post:=by
 unfold Gt
 refine W8 hz (fun l hl hl2=>?_)
 rw [hl.uniq hB] at *
 exact S_reach_Needs ks hr.fl hr.rs hn (by unfold maxLen;omega) hD (fun v hv hvv=>Wp hc hv hvv hp)
theorem Wl (ks:OkApiSite s) (hr:Ws s) (hn:s.Floor.Kind.length≤1000) (hz:Sz st) (hc:∀(i:Nat) r,st.Robots[i]?=some r→isC s.Floor r.Cell=true) (hB:Blk st L) (hL:L.length≤2000) (hD:0≤D∧D≤100000) {i:Int} {post:Int×Bool→Prop} (hp:post (mgS s st L D i)):QT s st i D post:=by
 unfold QT
 refine Jn.mk (fun b=>b=true↔(i<0∨i≥st.Robots.length)) (Ite.mk (fun h=>?_) (fun h=>?_)) (fun b hb=>Ite.mk (fun h=>?_) (fun h=>?_))
 ·exact⟨fun _=>.inl (of_decide_eq_true h),fun _=>rfl⟩
 ·show decide (i≥(st.Robots.length:Int))=true↔_
  rw [decide_eq_true_iff]
  exact⟨.inr,fun h2=>h2.resolve_left (of_decide_eq_false h)⟩
 ·unfold mgS at hp
  rw [if_pos (hb.1 h)] at hp;exact hp
 ·have hno:¬(i<0∨i≥st.Robots.length):=fun h2=>by rw [hb.2 h2] at h;cases h
  unfold mgS at hp
  rw [if_neg hno] at hp
  obtain⟨hx,hri⟩:=Q5z hno
  generalize st.Robots.getD i.toNat default=r at *
  refine⟨r,hri,Zl hz (fun l hl hl2=>?_)⟩
  rw [hl.uniq hB]
  refine Q1k ks hr hn (by omega) hD ?_
  rw [if_pos (hc _ r hx)]
  generalize nd s L D s.Floor.Kind.length r.Cell.toNat=v at *
  refine Jn.mk (fun b=>b=true↔(r.Dead=true∨v<0)) (Ite.mk (fun h=>⟨fun _=>.inl h,fun _=>rfl⟩) (fun h=>?_)) (fun b hb=>Ite.mk (fun h=>?_) (fun h=>Yq ?_))
  ·show decide (v<0)=true↔_
   rw [decide_eq_true_iff]
   exact⟨.inr,fun h2=>h2.resolve_left (by rw [h];simp)⟩
  ·unfold mgV at hp
   rw [if_pos (hb.1 h)] at hp;exact hp
  ·unfold mgV at hp
   rw [if_neg (fun h2=>by rw [hb.2 h2] at h;cases h)] at hp;exact hp
/-! ## who is covered -/
def Bad (s:ApiSite) (st:ApiState) (L:List Int) (D:Int) (k:Nat):Prop:=(∃r,st.Robots[k]?=some r∧r.Dead=false)∧((mgS s st L D k).2=true→(mgS s st L D k).1<0)
structure CovR (s:ApiSite) (st:ApiState) (L:List Int) (D:Int) (v:Int):Prop where
 is:(∃k:Nat,v=(k:Int)∧k<st.Robots.length∧Bad s st L D k∧∀j,j<k→¬Bad s st L D j)∨(v=-1∧∀j,j<st.Robots.length→¬Bad s st L D j)
theorem CovR.uniq {v w:Int} (h:CovR s st L D v) (h':CovR s st L D w):v=w:=by
 rcases h.is with ⟨k,e,k1,k2,k3⟩ | ⟨e,k1⟩ <;> rcases h'.is with ⟨j,f,j1,j2,j3⟩ | ⟨f,j1⟩
 ·rcases Nat.lt_trichotomy k j with h | h | h
  ·exact absurd k2 (j3 k h)
  ·rw [e,f,h]
  ·exact absurd j2 (k3 j h)
 ·exact absurd k2 (j1 k k1)
 ·exact absurd j2 (k1 j j1)
 ·rw [e,f]
theorem Q21 (ks:OkApiSite s) (hr:Ws s) (hn:s.Floor.Kind.length≤1000) (hz:Sz st) (hc:∀(i:Nat) r,st.Robots[i]?=some r→isC s.Floor r.Cell=true) (hB:Blk st L) (hD:0≤D∧D≤100000) {post:Int→Prop} (hp:∀v,CovR s st L D v→post v):Gh s st D post:=by
 have q1:=hz.rb
 unfold Gh
 refine W8 hz (fun l hl hl2=>?_)
 rw [hl.uniq hB] at *
 refine S_reach_Needs ks hr.fl hr.rs hn (by unfold maxLen;omega) hD (fun v hv hvv=>?_)
 refine Jn.mk (fun _=>∀j,j<st.Robots.length→¬Bad s st L D j) (Wh (xs:=st.Robots) (by unfold maxLen;omega) (fun t:Int=>t) (fun i t=>∀j,j<i→¬Bad s st L D j) rfl (fun j hj=>by omega) (fun i r t hri ht hI=>?_) (fun t hI=>hI)) (fun _ h=>hp _ ⟨.inr ⟨rfl,h⟩⟩)
 have hi:=(List.getElem?_eq_some_iff.1 hri).1
 have htt:t=(i:Int):=ht
 subst htt
 refine⟨r,Qq rfl hri,Wp hc hv hvv ?_⟩
 refine Jn.mk (fun b=>b=true↔Bad s st L D i) (Ite.mk (fun h=>?_) (fun h=>Ite.mk (fun h2=>?_) (fun h2=>?_))) (fun b hb=>Ite.mk (fun h=>hp _ ⟨.inl ⟨i,rfl,hi,hb.1 h,hI⟩⟩) (fun h=>⟨rfl,fun j hj=>?_⟩))
 ·refine⟨fun h=>(by cases h),fun h2=>?_⟩
  obtain⟨⟨r',e1,e2⟩,_⟩:=h2
  rw [hri] at e1;cases e1
  rw [h] at e2;cases e2
 ·show decide _=true↔_
  rw [decide_eq_true_iff]
  exact⟨fun h3=>⟨⟨r,hri,h⟩,fun _=>h3⟩,fun h3=>h3.2 h2⟩
 ·exact⟨fun _=>⟨⟨r,hri,h⟩,fun h3=>by rw [h2] at h3;cases h3⟩,fun _=>rfl⟩
 ·by_cases e:j=i
  ·rw [e];intro h2;rw [hb.2 h2] at h;cases h
  ·exact hI j (by omega)
theorem Q1V (ks:OkApiSite s) (hr:Ws s) (hn:s.Floor.Kind.length≤1000) (hz:Sz st) (hc:∀(i:Nat) r,st.Robots[i]?=some r→isC s.Floor r.Cell=true) (hB:Blk st L) (hL:L.length≤2000) (hD:0≤D∧D≤100000) {post:Int→Prop} (hp:∀v,CovR s st L D v→post v):Kv s st D post:=by
 have q1:=hz.rb
 unfold Kv
 refine Jn.mk (fun _=>∀j,j<st.Robots.length→¬Bad s st L D j) (Wh (xs:=st.Robots) (by unfold maxLen;omega) (fun t:Int=>t) (fun i t=>∀j,j<i→¬Bad s st L D j) rfl (fun j hj=>by omega) (fun i r t hri ht hI=>?_) (fun t hI=>hI)) (fun _ h=>hp _ ⟨.inr ⟨rfl,h⟩⟩)
 have hi:=(List.getElem?_eq_some_iff.1 hri).1
 have htt:t=(i:Int):=ht
 subst htt
 have next:¬Bad s st L D i→∀j,j<i+1→¬Bad s st L D j:=fun h j hj=>by
  by_cases e:j=i
  ·rw [e];exact h
  ·exact hI j (by omega)
 refine⟨r,Qq rfl hri,Jn.mk (fun _=>¬Bad s st L D i) (Ite.mk (fun h=>Wl ks hr hn hz hc hB hL hD ?_) (fun h=>?_)) (fun _ h=>⟨rfl,next h⟩)⟩
 ·have hd:r.Dead=false:=by simpa using h
  refine Jn.mk (fun b=>b=true↔Bad s st L D i) (Ite.mk (fun h2=>?_) (fun h2=>?_)) (fun b hb=>Ite.mk (fun h=>hp _ ⟨.inl ⟨i,rfl,hi,hb.1 h,hI⟩⟩) (fun h h2=>by rw [hb.2 h2] at h;cases h))
  ·show decide _=true↔_
   rw [decide_eq_true_iff]
   exact⟨fun h3=>⟨⟨r,hri,hd⟩,fun _=>h3⟩,fun h3=>h3.2 h2⟩
  ·exact⟨fun _=>⟨⟨r,hri,hd⟩,fun h3=>by rw [h2] at h3;cases h3⟩,fun _=>rfl⟩
 ·have hd:r.Dead=true:=by simpa using h
  rintro⟨⟨r',e1,e2⟩,_⟩
  rw [hri] at e1;cases e1
  rw [hd] at e2;cases e2
/-! ## what is granted -/
theorem Q8v (h:Blk st L) (i a:Int):Blk (doS s st i a) L:=by
 unfold doS
 split
 ·exact h
 ·rename_i hno
  obtain⟨hx,_⟩:=Q5z hno
  generalize st.Robots.getD i.toNat default=r at *
  unfold doR
  by_cases hd:r.Dead=true
  ·rw [if_pos hd];exact h
  ·rw [if_neg hd]
   refine⟨h.asc,fun c=>?_⟩
   rw [h.mem]
   have hnd:(nwR s st r a).Dead=r.Dead:=by unfold nwR;split <;> rfl
   have hlt:=(List.getElem?_eq_some_iff.1 hx).1
   constructor
   ·rintro (hc | ⟨r',h1,h2,h3⟩)
    ·exact .inl hc
    ·refine .inr ⟨r',?_,h2,h3⟩
     obtain⟨j,hj⟩:=List.getElem?_of_mem h1
     have hne:i.toNat≠j:=fun e=>by
      subst e
      rw [hx] at hj;cases hj
      exact hd h2
     exact List.mem_of_getElem? (i:=j) (by show (st.Robots.set i.toNat _)[j]?=_;rw [List.getElem?_set_ne hne];exact hj)
   ·rintro (hc | ⟨r',h1,h2,h3⟩)
    ·exact .inl hc
    ·obtain⟨j,hj⟩:=List.getElem?_of_mem h1
     have hj':(st.Robots.set i.toNat (nwR s st r a))[j]?=some r':=hj
     by_cases e:i.toNat=j
     ·subst e
      rw [List.getElem?_set_self hlt] at hj'
      cases hj'
      rw [hnd] at h2;exact absurd h2 hd
     ·rw [List.getElem?_set_ne e] at hj'
      exact .inr ⟨r',List.mem_of_getElem? hj',h2,h3⟩
noncomputable def grS (s:ApiSite) (st:ApiState) (L:List Int) (D i a:Int):Int:=
 if legS s st i a≠0 then legS s st i a
 else if (mgS s (doS s st i a) L D i).2=false then 14
 else if (mgS s (doS s st i a) L D i).1<0∧((mgS s st L D i).2=true→(mgS s (doS s st i a) L D i).1<(mgS s st L D i).1) then 19 else 0
theorem Q6H {post:Int→Prop} {i a:Int} (h0:legS s st i a=0) (hp:post (grS s st L D i a)):
  Ite (!(mgS s (doS s st i a) L D i).2) (post 14) (Jn (fun (J:Bool→Prop)=>Ite (decide ((mgS s (doS s st i a) L D i).1<0)) (Ite (mgS s st L D i).2 (J (decide ((mgS s (doS s st i a) L D i).1<(mgS s st L D i).1))) (J true)) (J false)) (fun x=>Ite x (post 19) (post 0))):=by
 unfold grS at hp
 rw [if_neg (fun h=>h h0)] at hp
 generalize mgS s (doS s st i a) L D i=x at *
 generalize mgS s st L D i=y at *
 refine Ite.mk (fun h=>?_) (fun h=>?_)
 ·rw [if_pos (by simpa using h)] at hp;exact hp
 ·have hx:x.2=true:=by simpa using h
  rw [if_neg (by rw [hx];simp)] at hp
  refine Jn.mk (fun b=>b=true↔(x.1<0∧(y.2=true→x.1<y.1))) (Ite.mk (fun h1=>Ite.mk (fun h2=>?_) (fun h2=>?_)) (fun h1=>?_)) (fun b hb=>Ite.mk (fun h1=>?_) (fun h1=>?_))
  ·show decide _=true↔_
   rw [decide_eq_true_iff]
   exact⟨fun h=>⟨of_decide_eq_true h1,fun _=>h⟩,fun h=>h.2 h2⟩
  ·exact⟨fun _=>⟨of_decide_eq_true h1,fun h=>by rw [h2] at h;cases h⟩,fun _=>rfl⟩
  ·exact⟨fun h=>(by cases h),fun h=>absurd h.1 (of_decide_eq_false h1)⟩
  ·rw [if_pos (hb.1 h1)] at hp;exact hp
  ·rw [if_neg (fun h=>by rw [hb.2 h] at h1;cases h1)] at hp;exact hp
theorem Q2A (ks:OkApiSite s) (k:OkApiState st) (hr:Ws s) (hn:s.Floor.Kind.length≤1000) (hl:LS s st) (hB:Blk st L) (hD:0≤D∧D≤100000) {i a:Int} {post:Int→Prop} (hp:post (grS s st L D i a)):Gs s st i a D post:=by
 unfold Gs
 refine Q4L ks k hl (Ite.mk (fun h=>?_) (fun h=>?_))
 ·have h':legS s st i a≠0:=by simpa using h
  unfold grS at hp
  rw [if_pos h'] at hp;exact hp
 ·have h':legS s st i a=0:=by simpa using h
  obtain⟨_,ha0,ha9⟩:=Q5X h'
  have hl2:=(Q6B k hl i a).1
  refine W8 hl.sz (fun l hlb hl2b=>?_)
  rw [hlb.uniq hB] at *
  exact S_reach_Needs ks hr.fl hr.rs hn (by unfold maxLen;omega) hD (fun v hv hvv=>Wp (fun j r hj=>(hl.rob j r hj).1) hv hvv (Q69 ks k hl ha0 ha9 (Wp (fun j r hj=>(hl2.rob j r hj).1) hv hvv (Q6H h' hp))))
theorem Q2q (ks:OkApiSite s) (k:OkApiState st) (hr:Ws s) (hn:s.Floor.Kind.length≤1000) (hl:LS s st) (hB:Blk st L) (hL:L.length≤2000) (hD:0≤D∧D≤100000) {i a:Int} {post:Int→Prop} (hp:post (grS s st L D i a)):KM s st i a D post:=by
 unfold KM
 refine Q38 ks hr k hl (Ite.mk (fun h=>?_) (fun h=>?_))
 ·have h':legS s st i a≠0:=by simpa using h
  unfold grS at hp
  rw [if_pos h'] at hp;exact hp
 ·have h':legS s st i a=0:=by simpa using h
  obtain⟨_,ha0,ha9⟩:=Q5X h'
  have hl2:=(Q6B k hl i a).1
  exact Wl ks hr hn hl.sz (fun j r hj=>(hl.rob j r hj).1) hB hL hD (Q58 ks hr k hl ha0 ha9 (Wl ks hr hn hl2.sz (fun j r hj=>(hl2.rob j r hj).1) (Q8v hB i a) hL hD (Q6H h' hp)))
end
theorem Said_taquinlaw33_ReachTells (s:ApiSite) (ks:OkApiSite s) (st:ApiState) (k:OkApiState st) (L:List Int) (kL:(OkL I64) L) (c:Int) (kc:I64 c) (d:Int) (kd:I64 d) (D:Int) (kD:I64 D) (a:Int) (ka:I64 a):V_taquinlaw33_ReachTells s st L c d D a (fun y=>y=true):=by
 unfold V_taquinlaw33_ReachTells
 refine Q31 (Jn.mk (fun b=>b=false→Ws s∧FewS s 30 20∧L.length≤20∧0≤D∧D≤100) (Q3R ks (Ite.f rfl fun h=>by cases h) (fun h1 h2=>Ite.t rfl (Ite.mk (fun _ h=>by cases h) (fun h3=>Ite.mk (fun _ h=>by cases h) (fun h4 h5=>⟨h1,h2,by have:¬((L.length:Int)>20):=of_decide_eq_false h3;omega,by have:¬(D<0):=of_decide_eq_false h4;omega,by have:¬(D>100):=of_decide_eq_false h5;omega⟩))))) (fun b hb=>Ite.mk (fun _=>rfl) (fun h=>?_)))
 obtain⟨hR,hFew,hL20,hD0,hD1⟩:=hb h
 have hf:=hR.fl
 have hs:=hR.rs
 have hn:s.Floor.Kind.length≤30:=by have:=hFew.kind;omega
 have ml:∀l:Nat,l≤5000→l≤maxLen:=fun l h=>by unfold maxLen;omega
 have eqq:∀a:Int,(a == a)=true:=fun a=>by simp
 refine Jn.mk (fun b=>b=true) (WB (Yq (Ite.t rfl (YU ks hs (Q0z ks hR (Ite.t (eqq _) (Q1l ks hf hs (by omega) kL.1 (fun f hF=>Zf ks hR (by omega) kL.1 (fun f' hF' _=>?_)))))))))
  (fun x15 h15=>Jn.mk (fun b=>b=true) (Zh ks hf hs (by omega) kL.1 (by omega) (Q1k ks hR (by omega) (by omega) (by omega) (Ite.t (eqq _) (S_reach_Needs ks hf hs (by omega) kL.1 (by omega) (fun v hv hvv=>Q0r ks hR (by omega) (by omega) (by omega) (fun w hw hwv=>?_))))))
  (fun x26 h26=>Jn.mk (fun b=>b=false) (Ite.t h15 (by show (!x26)=false;rw [h26];rfl)) (fun x34 h34=>Ite.f h34 ?_)))
 ·rw [hF.uniq hF' (fun y=>Iff.rfl)]
  exact WN (ml _ (by rw [hF'.len];omega)) rfl
 ·rw [Q7Z (a:=v) (b:=w) (by omega) (fun c hc=>by rw [hvv c (by omega),hwv c (by omega)])]
  exact WN (ml _ (by omega)) rfl
 ·refine Jn.mk (fun b=>b=false→Q5H st∧RSt s st) (Q4K (Ite.f rfl fun h=>by cases h) (fun h2=>Ite.t rfl (Q3A h2.sz (fun h=>by cases h) (fun h6 _=>⟨h2,h6⟩)))) (fun b hb=>Ite.mk (fun _=>rfl) (fun h=>?_))
  obtain⟨h12,hr⟩:=hb h
  have hz:=h12.sz
  have hl:=Q7v hf hs hr hz
  have hc:=fun (j:Nat) r hj=>(hl.rob j r hj).1
  obtain⟨B,hB,hBl⟩:=Q8y hz
  have hDD:0≤D∧D≤100000:=by omega
  have hn1:s.Floor.Kind.length≤1000:=by omega
  refine Q2h ks hR hn1 hz hc hB hDD (Wl ks hR hn1 hz hc hB hBl hDD (Jn.mk (fun b=>b=true) (Ite.t rfl (Ite.t (eqq _) (Ite.t (by simp) (W8 hz (fun l hl1 hl2=>Zl hz (fun l' hl1' hl2'=>?_)))))) (fun x hx=>hx)))
  rw [hl1.uniq hl1']
  refine WN (ml _ (by omega)) (Ite.t rfl (Q21 ks hR hn1 hz hc hB hDD (fun v hv=>Q1V ks hR hn1 hz hc hB hBl hDD (fun w hw=>?_))))
  rw [hv.uniq hw]
  exact Ite.t (eqq _) (Q2A ks k hR hn1 hl hB hDD (Q2q ks k hR hn1 hl hB hBl hDD (eqq _)))
end Go.Taq
