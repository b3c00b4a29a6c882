/- The mathematics, several parts in one text. -/
import Derived.Test.YtlaehjhkcanffaaGreatAI
import Derived.Test.YtlaehjhkcanffaaGreatGK
import Derived.Test.YtlaehjhkcanffaaGreatBK
import Derived.Test.YtlaehjhkcanffaaGreatNW
import Derived.Test.YtlaehjhkcanffaaGreatNA
/- The mathematics, part AK: acts that stay; ArenaStays. -/
set_option linter.unusedVariables false
set_option linter.unusedSimpArgs false
namespace Go.Taq
open Go
section
end
end Go.Taq
/- The mathematics, part BQ: the site with open zones, the state in which all are ready (chapter 21, BankLeads). -/
set_option linter.unusedVariables false
set_option linter.unusedSimpArgs false
namespace Go.Taq
open Go
-- neighbours are other cells
theorem Q4z {f:ApiFloor} (hf:RF f) {c d:Int} (hc:isC f c=true):nbr f c d≠c:=by
 intro h
 have hb:=p_bd hf hc
 have hk:=Qp.1 hc
 have key:∀{x y z:Int},(x≠pX f c∨y≠pY f c∨z≠pZ f c)→Xr f x y z=c→False:=by
  intro x y z hne e
  unfold Xr at e
  by_cases hin:0≤x∧x<f.W∧0≤y∧y<f.H∧0≤z∧z<f.D
  ·have:=Q3J hf hin
   unfold Xr at this
   rw [e] at this
   obtain⟨h1,h2,h3⟩:=this
   rcases hne with g | g | g
   ·exact g h1.symm
   ·exact g h2.symm
   ·exact g h3.symm
  ·rw [if_neg hin] at e;omega
 unfold nbr at h
 rw [if_neg (by rw [hc];simp)] at h
 split at h
 ·exact key (.inl (by omega)) h
 split at h
 ·exact key (.inr (.inl (by omega))) h
 split at h
 ·exact key (.inl (by omega)) h
 split at h
 ·exact key (.inr (.inl (by omega))) h
 split at h
 ·exact key (.inr (.inr (by omega))) h
 split at h
 ·exact key (.inr (.inr (by omega))) h
 ·omega
theorem Q4k {f:ApiFloor} (hf:RF f) {c d:Int} (h:(nx f c d).2=true):(nx f c d).1≠c:=by
 have hc:=(WD hf h).1
 have:=Q4z hf hc (d:=d)
 unfold nx at h ⊢
 split
 ·rename_i h1;rw [if_pos h1] at h;cases h
 ·rename_i h1
  rw [if_neg h1] at h
  split
  ·rename_i h2;rw [if_pos h2] at h;cases h
  ·exact this
section
end
end Go.Taq
/- The mathematics, part DI: costs from a cell, by the code (chapter 34). -/
set_option linter.unusedVariables false
set_option linter.unusedSimpArgs false
namespace Go.Taq
open Go
def rstC (s:ApiSite) (c:Int):Int:=if kd s.Floor c=3 then (spd s c-1)*3 else 0
def goC (s:ApiSite) (a c:Nat) (v:Int):Int:=if c=a then v else v+rstC s c
inductive WC (s:ApiSite) (L:List Int) (a:Nat):Nat→Nat→Prop where
 | start:WC s L a a 0
 | step {c d y m:Nat} (hm:WC s L a c m) (hd:d<6) (hn:nx s.Floor c d=((y:Int),true)) (hL:(y:Int)∉L):WC s L a y ((goC s a c m).toNat+(prS s d y).toNat)
structure CoL (s:ApiSite) (L:List Int) (a:Nat) (f:List Int):Prop where
 len:f.length=s.Floor.Kind.length
 lo:∀c,c<s.Floor.Kind.length→-1≤fu f c
 hi:∀c,c<s.Floor.Kind.length→fu f c≤700000
 sound:∀c,c<s.Floor.Kind.length→0≤fu f c→WC s L a c (fu f c).toNat
 least:∀c m,WC s L a c m→0≤fu f c∧fu f c≤m
section
variable {s:ApiSite} {L:List Int} {a:Nat} {f q:List Int}
theorem ZB (hs:RS s) (c:Int):0≤rstC s c∧rstC s c≤297:=by
 have:=Q0p hs c
 unfold rstC;split <;> omega
theorem Q3g (hs:RS s) (c:Nat) (v:Int):v≤goC s a c v∧goC s a c v≤v+297:=by
 have:=ZB hs (c:Int)
 unfold goC;split <;> omega
theorem WC.lt (hf:RF s.Floor) (ha:a<s.Floor.Kind.length) {c m:Nat} (h:WC s L a c m):c<s.Floor.Kind.length:=by
 cases h with
 | start=>exact ha
 | step hm hd hn hL=>
  rename_i c d m
  have hok:=WD hf (c:=(c:Int)) (d:=(d:Int)) (by rw [hn])
  rw [hn] at hok
  have h:=Qp.1 hok.2.1
  simp only at h
  omega
theorem CoL.uniq (hf:RF s.Floor) {f':List Int} (h:CoL s L a f) (h':CoL s L a f'):f=f':=by
 refine List.ext_getElem? fun i=>?_
 by_cases hi:i<s.Floor.Kind.length
 ·rw [Q0d (by rw [h.len];exact hi),Q0d (by rw [h'.len];exact hi)]
  have l1:=h.lo i hi;have l2:=h'.lo i hi
  by_cases h0:0≤fu f i
  ·have g1:=h'.least i _ (h.sound i hi h0)
   have g2:=h.least i _ (h'.sound i hi g1.1)
   congr 1;omega
  ·by_cases h1:0≤fu f' i
   ·have g2:=h.least i _ (h'.sound i hi h1)
    omega
   ·congr 1;omega
 ·rw [List.getElem?_eq_none (by rw [h.len];omega),List.getElem?_eq_none (by rw [h'.len];omega)]
def CoF (s:ApiSite) (L:List Int) (a:Int) (f:List Int):Prop:=if isC s.Floor a=true∧kd s.Floor a≠0 then CoL s L a.toNat f else f=List.replicate s.Floor.Kind.length (-1)
theorem CoF.uniq (hf:RF s.Floor) {a:Int} {f f':List Int} (h:CoF s L a f) (h':CoF s L a f'):f=f':=by
 unfold CoF at h h'
 split at h
 ·rename_i g;rw [if_pos g] at h';exact h.uniq hf h'
 ·rename_i g;rw [if_neg g] at h';rw [h,h']
theorem CoF.len {a:Int} {f:List Int} (h:CoF s L a f):f.length=s.Floor.Kind.length:=by
 unfold CoF at h
 split at h
 ·exact h.len
 ·rw [h];simp
theorem CoF.bd {a:Int} {f:List Int} (h:CoF s L a f) {c:Nat} (hc:c<s.Floor.Kind.length):-1≤fu f c∧fu f c≤700000:=by
 unfold CoF at h
 split at h
 ·exact⟨h.lo c hc,h.hi c hc⟩
 ·rw [h]
  unfold fu
  rw [List.getD_eq_getElem?_getD,List.getElem?_replicate,if_pos hc]
  exact⟨Int.le_refl _,by decide⟩
def RlC (s:ApiSite) (L:List Int) (a:Nat) (f:List Int) (c d:Nat):Prop:=∀y:Nat,nx s.Floor c d=((y:Int),true)→(y:Int)∉L→0≤fu f y∧fu f y≤goC s a c (fu f c)+prS s d y
structure SC (s:ApiSite) (L:List Int) (a:Nat) (f:List Int):Prop where
 len:f.length=s.Floor.Kind.length
 lo:∀c,c<s.Floor.Kind.length→-1≤fu f c
 top:∀c,c<s.Floor.Kind.length→fu f c≤700*((nn f:Int)-1)
 sound:∀c,c<s.Floor.Kind.length→0≤fu f c→WC s L a c (fu f c).toNat
 at_:fu f a=0
theorem SC.hi (hn:s.Floor.Kind.length≤1000) (h:SC s L a f) {c:Nat} (hc:c<s.Floor.Kind.length):fu f c≤700000:=by
 have h1:=h.top c hc
 have h2:=List.countP_le_length (p:=fun v:Int=>decide (0≤v)) (l:=f)
 have h3:=h.len
 unfold nn at h1;omega
theorem SC.start (ha:a<s.Floor.Kind.length):SC s L a ((List.replicate s.Floor.Kind.length (-1)).set a 0):=by
 have hal:a<(List.replicate s.Floor.Kind.length (-1:Int)).length:=by simpa using ha
 have hr:∀c,fu (List.replicate s.Floor.Kind.length (-1)) c=-1:=fun c=>by
  unfold fu
  rw [List.getD_eq_getElem?_getD,List.getElem?_replicate]
  split <;> rfl
 have hv:∀c,fu ((List.replicate s.Floor.Kind.length (-1)).set a 0) c=if c=a then 0 else -1:=fun c=>by rw [ZE hal,hr]
 have hnn:1≤nn ((List.replicate s.Floor.Kind.length (-1)).set a 0):=by
  unfold nn
  exact List.countP_pos_iff.2 ⟨0,List.mem_of_getElem? (List.getElem?_set_self hal),by decide⟩
 refine⟨by simp,fun c _=>by rw [hv];split <;> omega,fun c _=>by rw [hv];split <;> omega,fun c _ h=>?_,by rw [hv,if_pos rfl]⟩
 rw [hv] at h ⊢
 split at h
 ·rename_i e
  subst e
  rw [if_pos rfl];exact .start
 ·omega
theorem SC.put (hf:RF s.Floor) (hs:RS s) (hn:s.Floor.Kind.length≤1000) (ha:a<s.Floor.Kind.length) (h:SC s L a f) {c d y:Nat} (hc:c<s.Floor.Kind.length) (h0:0≤fu f c) (hd:d<6) (hnx:nx s.Floor c d=((y:Int),true)) (hL:(y:Int)∉L) (hlt:fu f y<0∨goC s a c (fu f c)+prS s d y<fu f y):
  y<s.Floor.Kind.length∧SC s L a (f.set y (goC s a c (fu f c)+prS s d y))∧WF 700000 (f.set y (goC s a c (fu f c)+prS s d y))<WF 700000 f:=by
 have hok:=WD hf (c:=(c:Int)) (d:=(d:Int)) (by rw [hnx])
 rw [hnx] at hok
 have hyi:=Qp.1 hok.2.1
 simp only at hyi
 have hy:y<s.Floor.Kind.length:=by omega
 have hp:=W7 (s:=s) hs (d:=(d:Int)) (by omega) (by omega) hok.2.1
 have hp1:1≤prS s (d:Int) (y:Int)∧prS s (d:Int) (y:Int)≤400:=hp
 have hg:=Q3g (a:=a) hs c (fu f c)
 have hyl:y<f.length:=by rw [h.len];exact hy
 have hfy:=Q0d hyl
 have hya:y≠a:=fun e=>by
  subst e
  have:=h.at_;omega
 generalize hv:goC s a c (fu f c)+prS s d y=v at *
 have hset:∀e,fu (f.set y v) e=if e=y then v else fu f e:=fun e=>ZE hyl
 have hcnt:=Q2Z (fun v:Int=>decide (0≤v)) (y:=v) hfy
 have hnn:(nn (f.set y v):Int)=nn f+(if fu f y<0 then 1 else 0):=by
  unfold nn
  rw [if_pos (decide_eq_true (show 0≤v by omega))] at hcnt
  split
  ·rename_i hneg
   rw [if_neg (by simp;omega)] at hcnt;omega
  ·rename_i hneg
   rw [if_pos (by simp;omega)] at hcnt;omega
 have htc:=h.top c hc
 refine⟨hy,⟨by rw [List.length_set];exact h.len,fun e he=>?_,fun e he=>?_,fun e he h0'=>?_,by rw [hset,if_neg (fun e=>hya e.symm)];exact h.at_⟩,?_⟩
 ·rw [hset];split
  ·omega
  ·exact h.lo e he
 ·rw [hset,hnn]
  have:=h.top e he
  have hty:=h.top y hy
  split
  ·split <;> omega
  ·split <;> omega
 ·rw [hset] at h0' ⊢
  split
  ·rename_i e2
   subst e2
   have:=WC.step (h.sound c hc h0) hd hnx hL
   have e3:((fu f c).toNat:Int)=fu f c:=by omega
   rw [e3] at this
   have e4:(goC s a c (fu f c)).toNat+(prS s (d:Int) (e:Int)).toNat=v.toNat:=by omega
   rw [e4] at this;exact this
  ·rename_i e2
   rw [if_neg e2] at h0'
   exact h.sound e he h0'
 ·have hsum:=Q0I (wtF 700000) (y:=v) hfy
  have hv7:v≤700000:=by
   have:=List.countP_le_length (p:=fun v:Int=>decide (0≤v)) (l:=f)
   have hl:=h.len
   rcases hlt with h1 | h1
   ·have:=List.countP_le_length (p:=fun v:Int=>decide (0≤v)) (l:=f.set y v)
    rw [List.length_set] at this
    rw [if_pos h1] at hnn
    unfold nn at hnn htc
    omega
   ·have:=SC.hi hn h hy;omega
  unfold WF
  have:wtF 700000 v<wtF 700000 (fu f y):=by
   unfold wtF
   rw [if_neg (by omega)]
   split <;> omega
  omega
theorem Q3z (h:SC s L a f) (hn:s.Floor.Kind.length≤1000):WF 700000 f≤700001000:=by
 have:=Q3A (wtF 700000) (K:=700001) (l:=f) (fun x hx=>by
  obtain⟨i,hi⟩:=List.mem_iff_getElem?.1 hx
  have hil:=(List.getElem?_eq_some_iff.1 hi).1
  have:fu f i=x:=by unfold fu;rw [List.getD_eq_getElem?_getD,hi];rfl
  have:=SC.hi hn h (c:=i) (by rw [←h.len];exact hil)
  unfold wtF;split <;> omega)
 have hl:=h.len
 unfold WF
 have h2:f.length*700001≤1000*700001:=Nat.mul_le_mul_right _ (by omega)
 omega
theorem SC.fin (hf:RF s.Floor) (hs:RS s) (hn:s.Floor.Kind.length≤1000) (ha:a<s.Floor.Kind.length) (h:SC s L a f) (hr:∀c,c<s.Floor.Kind.length→0≤fu f c→∀d,d<6→RlC s L a f c d):CoL s L a f where
 len:=h.len
 lo:=h.lo
 hi:=fun c hc=>SC.hi hn h hc
 sound:=h.sound
 least:=fun c m hw=>by
  induction hw with
  | start=>rw [h.at_];omega
  | step hm hd hnx hL ih=>
   rename_i c d y m
   obtain⟨i1,i2⟩:=ih
   have hc:=hm.lt hf ha
   obtain⟨g1,g2⟩:=hr c hc i1 d hd y hnx hL
   refine⟨g1,?_⟩
   have e:goC s a c (fu f c)≤goC s a c m:=by unfold goC;split <;> omega
   have h0:=(Q3g (a:=a) hs c (m:Int)).1
   have hok:=WD hf (c:=(c:Int)) (d:=(d:Int)) (by rw [hnx])
   rw [hnx] at hok
   have hp:1≤prS s (d:Int) (y:Int):=(W7 (s:=s) hs (d:=(d:Int)) (by omega) (by omega) hok.2.1).1
   omega
theorem Q1N (ks:OkApiSite s) (hs:RS s) {c:Int} (hc:isC s.Floor c=true) {post:Int→Prop} (hp:post (rstC s c)):XY s c post:=by
 unfold XY
 refine⟨_,Xl hc,?_⟩
 unfold rstC at hp
 have hb:=Q0p hs c
 refine Ite.mk (fun h=>?_) (fun h=>?_)
 ·have h':¬kd s.Floor c=3:=by simpa using h
  rw [if_neg h'] at hp;exact hp
 ·have h':kd s.Floor c=3:=by simpa using h
  rw [if_pos h'] at hp
  refine Yt ks hs (Wa ?_)
  rw [Q6 (x:=spd s c-1) (by omega) (by omega),Q6 (by omega) (by omega)];exact hp
structure SQ (s:ApiSite) (L:List Int) (a:Nat) (f q:List Int):Prop where
 sc:SC s L a f
 qs:∀x,x∈q→0≤x∧x<s.Floor.Kind.length∧0≤fu f x.toNat
 rel:∀c,c<s.Floor.Kind.length→0≤fu f c→(c:Int)∉q→∀d,d<6→RlC s L a f c d
theorem Wd (ks:OkApiSite s) (hf:RF s.Floor) (hs:RS s) (hn:s.Floor.Kind.length≤1000) (hL:L.length≤maxLen) {a:Int} {post:List Int→Prop} (hp:∀f,CoF s L a f→post f):KP s L a post:=by
 unfold KP
 refine Zg (by omega) ?_
 refine Jn.mk (fun b=>b=true↔¬(isC s.Floor a=true∧kd s.Floor a≠0)) (Ite.mk (fun h=>?_) (fun h=>Ite.mk (fun h2=>?_) (fun h2=>?_))) (fun b hb=>Ite.mk (fun h=>?_) (fun h=>?_))
 ·have h':a<0:=of_decide_eq_true h
  exact⟨fun _ g=>by have:=Qp.1 g.1;omega,fun _=>rfl⟩
 ·have h':a≥((List.replicate s.Floor.Kind.length (-1:Int)).length:Int):=of_decide_eq_true h2
  rw [List.length_replicate] at h'
  exact⟨fun _ g=>by have:=Qp.1 g.1;omega,fun _=>rfl⟩
 ·have h':¬a<0:=of_decide_eq_false h
  have h2':¬a≥((List.replicate s.Floor.Kind.length (-1:Int)).length:Int):=of_decide_eq_false h2
  rw [List.length_replicate] at h2'
  have hc:isC s.Floor a=true:=Qp.2 ⟨by omega,by omega⟩
  refine⟨_,Xl hc,?_⟩
  show (kd s.Floor a == 0)=true↔_
  rw [beq_iff_eq]
  exact⟨fun h3 h4=>h4.2 h3,fun h3=>Classical.byContradiction fun h4=>h3 ⟨hc,h4⟩⟩
 ·refine hp _ ?_
  unfold CoF;rw [if_neg (hb.1 h)]
 ·have hcond:isC s.Floor a=true∧kd s.Floor a≠0:=Classical.byContradiction fun h3=>by rw [hb.2 h3] at h;cases h
  obtain⟨hc,hk⟩:=hcond
  have hai:=Qp.1 hc
  obtain⟨an,rfl⟩:=Int.eq_ofNat_of_zero_le hai.1
  have ha:an<s.Floor.Kind.length:=by omega
  have hfin:∀f,CoL s L an f→post f:=fun f hf2=>hp f (by unfold CoF;rw [if_pos ⟨hc,hk⟩,Int.toNat_natCast];exact hf2)
  refine⟨-1,Qe rfl (by rw [List.getElem?_replicate,if_pos ha]),?_⟩
  refine Jn.mk (fun f=>CoL s L an f) (Loop.mk (fun t:List Int×List Int=>SQ s L an t.1 t.2∧2*WF 700000 t.1+t.2.length≤1500000000) (fun t=>2*WF 700000 t.1+t.2.length) ⟨⟨SC.start ha,fun x hx=>?_,fun c hc0 h0 hnq d hd=>?_⟩,?_⟩ ?_) (fun f hf2=>hfin f hf2)
  ·simp at hx;subst hx
   refine⟨by omega,by omega,?_⟩
   have:=(SC.start (L:=L) ha).at_
   show 0≤fu ((List.replicate s.Floor.Kind.length (-1)).set an 0) an
   rw [this];exact Int.le_refl _
  ·exfalso
   have hv:=ZE (f:=List.replicate s.Floor.Kind.length (-1)) (c:=an) (d:=c) (v:=0) (by simpa using ha)
   have e:fu ((List.replicate s.Floor.Kind.length (-1)).set (Int.toNat (an:Int)) 0) c=fu ((List.replicate s.Floor.Kind.length (-1)).set an 0) c:=by rw [Int.toNat_natCast]
   rw [e,hv] at h0
   split at h0
   ·rename_i e;subst e;exact hnq (by simp)
   ·unfold fu at h0
    rw [List.getD_eq_getElem?_getD,List.getElem?_replicate] at h0
    split at h0 <;> simp at h0
  ·have:=Q3z (SC.start (L:=L) ha) hn
   rw [Int.toNat_natCast]
   show 2*WF 700000 ((List.replicate s.Floor.Kind.length (-1)).set an 0)+1≤_
   omega
  rintro⟨f,q⟩ ⟨hI,hB⟩
  simp only at hI hB
  match q,hI,hB with
  | [],hI,hB=>exact Ite.f (by simp) (hI.sc.fin hf hs hn ha (fun c hc0 h0 d hd=>hI.rel c hc0 h0 (by simp) d hd))
  | x :: r,hI,hB=>
   have hql:(x :: r).length=r.length+1:=rfl
   rw [hql] at hB
   refine Ite.t (decide_eq_true (by rw [hql];omega)) (Jn.mk' ⟨x,rfl,⟨by decide,by rw [hql];omega,by omega⟩,?_⟩)
   obtain⟨hx0,hx1,hxf⟩:=hI.qs x (by simp)
   obtain⟨c,rfl⟩:=Int.eq_ofNat_of_zero_le hx0
   rw [Int.toNat_natCast] at hxf
   have hcl:c<s.Floor.Kind.length:=by omega
   have hfl:=hI.sc.len
   have hhi:=SC.hi hn hI.sc hcl
   have hcc:isC s.Floor (c:Int)=true:=Qp.2 ⟨by omega,by omega⟩
   have hg:=Q3g (a:=an) hs c (fu f c)
   have hrb:=ZB hs (c:Int)
   have hsub:sub (((c:Int)) :: r) 1 (((((c:Int)) :: r).length:Nat):Int)=r:=by unfold sub;simp
   refine⟨fu f c,Wi (f:=f) (by omega),Jn.mk (fun g=>g=goC s an c (fu f c)) (Ite.mk (fun h=>Q1N ks hs hcc ?_) (fun h=>?_)) (fun g hg'=>?_)⟩
   ·have h':¬c=an:=by
     have:¬(c:Int)=(an:Int):=by simpa using h
     omega
    unfold goC;rw [if_neg h',Q6 (by omega) (by omega)]
   ·have h':c=an:=by
     have:(c:Int)=(an:Int):=by simpa using h
     omega
    unfold goC;rw [if_pos h']
   ·subst hg'
    rw [hsub]
    -- the six moves
    refine Jn.mk (fun t=>SQ s L an t.1 t.2∧2*WF 700000 t.1+t.2.length≤2*WF 700000 f+r.length) (Q2j 6 (fun t:List Int×List Int×Int=>t.2.2) (fun i t=>SC s L an t.1∧fu t.1 c=fu f c∧(∀x,x∈t.2.1→0≤x∧x<s.Floor.Kind.length∧0≤fu t.1 x.toNat)∧(∀e,e<s.Floor.Kind.length→0≤fu t.1 e→(e:Int)∉t.2.1→e≠c→∀d,d<6→RlC s L an t.1 e d)∧(∀d,d<i→RlC s L an t.1 c d)∧2*WF 700000 t.1+t.2.1.length≤2*WF 700000 f+r.length) (by unfold maxLen;omega) rfl
     ⟨hI.sc,rfl,fun x hx=>hI.qs x (List.mem_cons_of_mem _ hx),fun e he h0 hnq hne d hd=>hI.rel e he h0 (fun hm=>(List.mem_cons.1 hm).elim (fun e2=>hne (by omega)) hnq) d hd,fun d hd=>by omega,Nat.le_refl _⟩ (fun i t hi ht hJ=>?_) (fun t hJ=>?_)) (fun t ht=>⟨⟨ht.1,by have:=ht.2;show 2*WF 700000 t.1+t.2.length≤_;omega⟩,by have:=ht.2;show 2*WF 700000 t.1+t.2.length<2*WF 700000 f+(r.length+1);omega⟩)
    ·obtain⟨j1,j2,j3,j4,j5,j6⟩:=hJ
     obtain⟨f1,q1,di⟩:=t
     simp only at ht j1 j2 j3 j4 j5 j6
     subst ht
     have hf1l:=j1.len
     refine Jn.mk' (Q1a hf (Jn.mk (fun b=>b=false↔((nx s.Floor c i).2=true∧(nx s.Floor c i).1∉L)) (Ite.mk (fun h=>Gz hL ?_) (fun h=>?_)) (fun b hb2=>Ite.mk (fun h=>?_) (fun h=>?_))))
     ·show L.contains _=false↔_
      rw [←Bool.not_eq_true,List.contains_iff_mem]
      exact⟨fun h3=>⟨h,h3⟩,fun h3=>h3.2⟩
     ·exact⟨fun h2=>(by cases h2),fun h2=>by rw [h] at h2;cases h2.1⟩
     ·-- no move
      refine⟨rfl,j1,j2,j3,j4,fun d hd y hy hyL=>?_,j6⟩
      by_cases e:d=i
      ·subst e
       have:=hb2.2 ⟨by rw [hy],by rw [hy];exact hyL⟩
       rw [this] at h;cases h
      ·exact j5 d (by omega) y hy hyL
     ·obtain⟨g1,g2⟩:=hb2.1 h
      have hok:=WD hf g1
      have hyi:=Qp.1 hok.2.1
      obtain⟨y,hy⟩:=Int.eq_ofNat_of_zero_le hyi.1
      have hnx:nx s.Floor c i=((y:Int),true):=by rw [←hy,←g1]
      have hne:y≠c:=fun e=>by
       have:=Q4k hf (c:=(c:Int)) (d:=(i:Int)) g1
       rw [hnx] at this;exact this (by simp only;omega)
      rw [hnx] at g2 hok hyi ⊢
      simp only at g2 hok hyi ⊢
      have hpr:1≤prS s (i:Int) (y:Int)∧prS s (i:Int) (y:Int)≤400:=W7 (s:=s) hs (by omega) (by omega) hok.2.1
      have hyl:y<s.Floor.Kind.length:=by omega
      have hyh:=SC.hi hn j1 hyl
      have hwf:=Q3z j1 hn
      refine Q0F ks hs ?_
      rw [Q6 (x:=goC s an c (fu f c)+prS s i y) (by omega) (by omega)]
      refine Jn.mk (fun b=>b=true↔(fu f1 y<0∨goC s an c (fu f c)+prS s i y<fu f1 y)) ⟨fu f1 y,Wi (by omega),Ite.mk (fun h3=>⟨fun _=>.inl (of_decide_eq_true h3),fun _=>rfl⟩) (fun h3=>?_)⟩ (fun b hb3=>?_)
      ·have h3':¬fu f1 y<0:=of_decide_eq_false h3
       show decide _=true↔_
       rw [decide_eq_true_iff]
       exact⟨.inr,fun h4=>h4.resolve_left h3'⟩
      refine Jn.mk (fun t:List Int×List Int=>SC s L an t.1∧fu t.1 c=fu f c∧(∀x,x∈t.2→0≤x∧x<s.Floor.Kind.length∧0≤fu t.1 x.toNat)∧(∀e,e<s.Floor.Kind.length→0≤fu t.1 e→(e:Int)∉t.2→e≠c→∀d,d<6→RlC s L an t.1 e d)∧(∀d,d<i+1→RlC s L an t.1 c d)∧2*WF 700000 t.1+t.2.length≤2*WF 700000 f+r.length) (Ite.mk (fun h3=>?_) (fun h3=>?_)) (fun t ht=>⟨by first | rfl | trivial,ht⟩)
      ·have hput:=hb3.1 h3
       rw [←j2] at hput
       obtain⟨_,p2,p3⟩:=j1.put hf hs hn ha hcl (by rw [j2];exact hxf) hi hnx g2 hput
       rw [j2] at hput p2 p3
       have hset:∀e,fu (f1.set y (goC s an c (fu f c)+prS s i y)) e=if e=y then goC s an c (fu f c)+prS s i y else fu f1 e:=fun e=>ZE (by omega)
       have hmono:∀e,0≤fu f1 e→0≤fu (f1.set y (goC s an c (fu f c)+prS s i y)) e∧fu (f1.set y (goC s an c (fu f c)+prS s i y)) e≤fu f1 e:=fun e he=>by
        rw [hset]
        split
        ·rename_i e2;subst e2;omega
        ·omega
       refine⟨_,Wi (by omega),by simp;omega,?_⟩
       rw [Int.toNat_natCast]
       refine⟨p2,by rw [hset,if_neg (fun e=>hne e.symm),j2],fun x hx=>?_,fun e he h0 hnq hnc d hd z hz hzL=>?_,fun d hd z hz hzL=>?_,?_⟩
       ·rcases List.mem_append.1 hx with h4 | h4
        ·obtain⟨q1,q2,q3⟩:=j3 x h4
         exact⟨q1,q2,(hmono _ q3).1⟩
        ·simp at h4;subst h4
         refine⟨by omega,by omega,?_⟩
         rw [Int.toNat_natCast,hset,if_pos rfl];omega
       ·have hey:e≠y:=fun e2=>hnq (by rw [e2];simp)
        have h0':0≤fu f1 e:=by rw [hset,if_neg hey] at h0;exact h0
        obtain⟨r1,r2⟩:=j4 e he h0' (fun hm=>hnq (List.mem_append_left _ hm)) hnc d hd z hz hzL
        obtain⟨m1,m2⟩:=hmono z r1
        have ee:fu (f1.set y (goC s an c (fu f c)+prS s i y)) e=fu f1 e:=by rw [hset,if_neg hey]
        have hh:fu (f1.set y (goC s an c (fu f c)+prS s i y)) z≤goC s an e (fu (f1.set y (goC s an c (fu f c)+prS s i y)) e)+prS s d z:=by rw [ee];omega
        exact⟨m1,hh⟩
       ·have ec:fu (f1.set y (goC s an c (fu f c)+prS s i y)) c=fu f c:=by rw [hset,if_neg (fun e=>hne e.symm),j2]
        by_cases e:d=i
        ·subst e
         rw [hnx] at hz
         have ez:z=y:=by
          have:=congrArg Prod.fst hz
          simp only at this;omega
         subst ez
         refine⟨by rw [hset,if_pos rfl];omega,?_⟩
         rw [ec,hset,if_pos rfl];exact Int.le_refl _
        ·obtain⟨r1,r2⟩:=j5 d (by omega) z hz hzL
         obtain⟨m1,m2⟩:=hmono z r1
         have hh:fu (f1.set y (goC s an c (fu f c)+prS s i y)) z≤goC s an c (fu (f1.set y (goC s an c (fu f c)+prS s i y)) c)+prS s d z:=by rw [ec];rw [j2] at r2;omega
         exact⟨m1,hh⟩
       ·show 2*WF 700000 (f1.set y (goC s an c (fu f c)+prS s i y))+(q1++[(y:Int)]).length≤_
        rw [List.length_append,List.length_singleton];omega
      ·have hno:¬(fu f1 y<0∨goC s an c (fu f c)+prS s i y<fu f1 y):=fun h4=>by rw [hb3.2 h4] at h3;cases h3
       refine⟨j1,j2,j3,j4,fun d hd z hz hzL=>?_,j6⟩
       by_cases e:d=i
       ·subst e
        rw [hnx] at hz
        have ez:z=y:=by
         have:=congrArg Prod.fst hz
         simp only at this;omega
        subst ez
        have h5:0≤fu f1 z:=by omega
        have h6:fu f1 z≤goC s an c (fu f1 c)+prS s d z:=by rw [j2];omega
        exact⟨h5,h6⟩
       ·exact j5 d (by omega) z hz hzL
    ·obtain⟨j1,j2,j3,j4,j5,j6⟩:=hJ
     refine⟨⟨j1,j3,fun e he h0 hnq d hd=>?_⟩,j6⟩
     by_cases e2:e=c
     ·subst e2;exact j5 d hd
     ·exact j4 e he h0 hnq e2 d hd
theorem Q1K (ks:OkApiSite s) (hf:RF s.Floor) (hs:RS s) (hn:s.Floor.Kind.length≤1000) (hL:L.length≤maxLen) {a b:Int} {post:Int→Prop} (h0:isC s.Floor b=false→post (-1)) (hp:∀f,CoF s L a f→isC s.Floor b=true→post (fu f b.toNat)):Gb s L a b post:=by
 unfold Gb
 refine Jn.mk (fun x=>x=true↔isC s.Floor b=false) (Ite.mk (fun h=>?_) (fun h=>?_)) (fun x hx=>Ite.mk (fun h=>h0 (hx.1 h)) (fun h=>?_))
 ·have h':b<0:=of_decide_eq_true h
  exact⟨fun _=>Q34.2 (by omega),fun _=>rfl⟩
 ·have h':¬b<0:=of_decide_eq_false h
  show decide _=true↔_
  rw [decide_eq_true_iff,Q34];omega
 ·have hc:isC s.Floor b=true:=by
   cases hb:isC s.Floor b with
   | true=>rfl
   | false=>rw [hx.2 hb] at h;cases h
  have hbi:=Qp.1 hc
  refine Wd ks hf hs hn hL (fun f hf2=>⟨fu f b.toNat,?_,hp f hf2 hc⟩)
  obtain⟨n,rfl⟩:=Int.eq_ofNat_of_zero_le hbi.1
  rw [Int.toNat_natCast];exact Wi (by rw [hf2.len];omega)
end
end Go.Taq
/- The mathematics, part DJ: costs by the reference (chapter 34). -/
set_option linter.unusedVariables false
set_option linter.unusedSimpArgs false
namespace Go.Taq
open Go
section
variable {s:ApiSite} {L:List Int} {a:Nat} {f:List Int}
theorem Wg (ks:OkApiSite s) (hr:Y6 s) {c:Int} (hc:isC s.Floor c=true) {post:Int→Prop} (hp:post (rstC s c)):QM s c post:=by
 unfold QM
 refine⟨_,Xl hc,?_⟩
 unfold rstC at hp
 have hb:=Q0p hr.rs c
 refine Ite.mk (fun h=>?_) (fun h=>?_)
 ·have h':¬kd s.Floor c=3:=by simpa using h
  rw [if_neg h'] at hp;exact hp
 ·have h':kd s.Floor c=3:=by simpa using h
  rw [if_pos h'] at hp
  refine Yp ks hr (Wf ?_)
  rw [Q6 (x:=spd s c-1) (by omega) (by omega),Q6 (by omega) (by omega)];exact hp
def keyC (s:ApiSite) (f:List Int) (c:Nat):Int:=fu f c+rstC s c
structure DC (s:ApiSite) (L:List Int) (a:Nat) (f:List Int) (dn:List Bool):Prop where
 sc:SC s L a f
 ln:dn.length=s.Floor.Kind.length
 fin:∀c,c<s.Floor.Kind.length→dn.getD c false=true→0≤fu f c
 rel:∀c,c<s.Floor.Kind.length→dn.getD c false=true→∀d,d<6→RlC s L a f c d
 ord:∀x y,x<s.Floor.Kind.length→y<s.Floor.Kind.length→dn.getD x false=true→x≠a→dn.getD y false=false→0≤fu f y→keyC s f x≤keyC s f y
 first:dn.getD a false=true∨((∀c,dn.getD c false=false)∧∀c,c<s.Floor.Kind.length→0≤fu f c→c=a)
structure BstC (s:ApiSite) (f:List Int) (dn:List Bool) (i:Nat) (b:Int):Prop where
 is:b=-1∨∃n:Nat,b=(n:Int)∧n<i∧0≤fu f n∧dn.getD n false=false
 le:∀c,c<i→0≤fu f c→dn.getD c false=false→0≤b∧keyC s f b.toNat≤keyC s f c
theorem Q42 {dn:List Bool} {c:Nat} (h:c<dn.length):dn[c]?=some (dn.getD c false):=by rw [List.getD_eq_getElem?_getD,List.getElem?_eq_getElem h];rfl
theorem Q4Y {dn:List Bool} {c d:Nat} (h:c<dn.length):(dn.set c true).getD d false=if d=c then true else dn.getD d false:=by
 rw [List.getD_eq_getElem?_getD,List.getElem?_set,List.getD_eq_getElem?_getD]
 by_cases e:c=d
 ·subst e;rw [if_pos rfl,if_pos h,if_pos rfl];rfl
 ·rw [if_neg e,if_neg (fun e2=>e e2.symm)]
theorem GV (ks:OkApiSite s) (hr:Y6 s) (hn:s.Floor.Kind.length≤1000) (hL:L.length≤maxLen) {a:Int} {post:List Int→Prop} (hp:∀f,CoF s L a f→post f):Qw s L a post:=by
 have hf:=hr.fl
 have hs:=hr.rs
 unfold Qw
 refine Za hf ⟨⟨by omega,by omega⟩,⟨by simp,by simp;omega⟩,?_⟩
 refine Jn.mk (fun f=>f=List.replicate s.Floor.Kind.length (-1)) (Loop.mk (fun t:List Int×Int=>∃i:Nat,t.2=(i:Int)∧i≤s.Floor.Kind.length∧t.1.length=s.Floor.Kind.length∧∀j,j<i→t.1[j]?=some (-1)) (fun t=>s.Floor.Kind.length-t.2.toNat) ⟨0,rfl,by omega,by simp,fun j hj=>by omega⟩ ?_) (fun f hf0=>?_)
 ·rintro⟨f,ii⟩ ⟨i,e,hi,hl,hI⟩
  simp only at e hl hI
  subst e
  refine Ite.mk (fun h=>?_) (fun h=>?_)
  ·have hlt:i<s.Floor.Kind.length:=by have h':(i:Int)<(f.length:Int):=of_decide_eq_true h;omega
   have hx:=List.getElem?_eq_getElem (show i<f.length by omega)
   have ew:w64 ((i:Int)+1)=((i+1:Nat):Int):=by rw [Q6 (by omega) (by omega)];simp
   refine⟨_,Qe rfl hx,⟨i+1,ew,by omega,by rw [List.length_set];exact hl,fun j hj=>?_⟩,by show s.Floor.Kind.length-(w64 ((i:Int)+1)).toNat<s.Floor.Kind.length-((i:Int)).toNat;rw [ew];omega⟩
   rw [Int.toNat_natCast,List.getElem?_set]
   by_cases e:i=j
   ·subst e;rw [if_pos rfl,if_pos (show i<f.length by omega)]
   ·rw [if_neg e];exact hI j (by omega)
  ·have hie:i=s.Floor.Kind.length:=by have h':¬(i:Int)<(f.length:Int):=of_decide_eq_false h;omega
   refine List.ext_getElem? fun j=>?_
   by_cases hj:j<s.Floor.Kind.length
   ·rw [hI j (by omega),List.getElem?_replicate,if_pos hj]
   ·rw [List.getElem?_eq_none (show f.length≤j by omega),List.getElem?_eq_none (by simp;omega)]
 subst hf0
 refine Xu hf (Ite.mk (fun h=>hp _ ?_) (fun h=>?_))
 ·have h':isC s.Floor a=false:=by simpa using h
  unfold CoF;rw [if_neg (fun g=>by rw [h'] at g;cases g.1)]
 have hc:isC s.Floor a=true:=by simpa using h
 refine⟨_,Xl hc,Ite.mk (fun h2=>hp _ ?_) (fun h2=>?_)⟩
 ·have h2':kd s.Floor a=0:=by simpa using h2
  unfold CoF;rw [if_neg (fun g=>g.2 h2')]
 have hk:kd s.Floor a≠0:=by simpa using h2
 have hai:=Qp.1 hc
 obtain⟨an,rfl⟩:=Int.eq_ofNat_of_zero_le hai.1
 have ha:an<s.Floor.Kind.length:=by omega
 have hfin:∀f,CoL s L an f→post f:=fun f hf2=>hp f (by unfold CoF;rw [if_pos ⟨hc,hk⟩,Int.toNat_natCast];exact hf2)
 refine⟨-1,Qe rfl (by rw [List.getElem?_replicate,if_pos ha]),?_⟩
 have hdone:∀{f:List Int} {dn:List Bool},DC s L an f dn→(∀c,c<s.Floor.Kind.length→0≤fu f c→dn.getD c false=true)→CoL s L an f:=fun {f dn} h hall=>h.sc.fin hf hs hn ha (fun c hc0 h0 d hd=>h.rel c hc0 (hall c hc0 h0) d hd)
 have hz:∀c,(List.replicate (Int.toNat ((List.replicate (Int.toNat (s.Floor.Kind.length:Int)) (0:Int)).length:Int)) false).getD c false=false:=fun c=>by
  rw [List.getD_eq_getElem?_getD,List.getElem?_replicate];split <;> rfl
 refine Jn.mk (fun f=>CoL s L an f) (Loop.mk (fun t:List Int×List Bool×Int=>DC s L an t.1 t.2.1∧∃n:Nat,t.2.2=(n:Int)∧n≤s.Floor.Kind.length∧(List.range s.Floor.Kind.length).countP (fun c=>t.2.1.getD c false)=n) (fun t=>s.Floor.Kind.length-t.2.2.toNat) ⟨⟨?_,by simp,fun c hc0 h=>?_,fun c hc0 h=>?_,fun x y hx hy h=>?_,.inr ⟨hz,fun c hc0 h0=>?_⟩⟩,0,rfl,by omega,?_⟩ ?_) (fun f hf2=>hfin f hf2)
 ·show SC s L an ((List.replicate s.Floor.Kind.length (-1)).set (Int.toNat (an:Int)) 0)
  rw [Int.toNat_natCast];exact SC.start ha
 ·rw [hz] at h;cases h
 ·rw [hz] at h;cases h
 ·rw [hz] at h;cases h
 ·have h0':0≤fu ((List.replicate s.Floor.Kind.length (-1)).set an 0) c:=by
   have:(0:Int)≤fu ((List.replicate s.Floor.Kind.length (-1)).set (Int.toNat (an:Int)) 0) c:=h0
   rw [Int.toNat_natCast] at this;exact this
  rw [ZE (by simpa using ha)] at h0'
  split at h0'
  ·assumption
  ·unfold fu at h0'
   rw [List.getD_eq_getElem?_getD,List.getElem?_replicate] at h0'
   split at h0' <;> simp at h0'
 ·refine List.countP_eq_zero.2 fun c _=>?_
  rw [hz];simp
 rintro⟨f,dn,nn0⟩ ⟨hD,n,e,hnl,hcnt⟩
 simp only at hD e hcnt
 subst e
 have hfl:=hD.sc.len
 have hdl:=hD.ln
 refine Ite.mk (fun hlt=>?_) (fun hnlt=>?_)
 case refine_2=>
  have hne:n=s.Floor.Kind.length:=by have h':¬(n:Int)<(f.length:Int):=of_decide_eq_false hnlt;omega
  refine hdone hD (fun c hc0 _=>?_)
  have:=List.countP_eq_length (p:=fun c=>dn.getD c false) (l:=List.range s.Floor.Kind.length)
  rw [List.length_range] at this
  exact this.1 (by omega) c (List.mem_range.2 hc0)
 have hlt':n<s.Floor.Kind.length:=by have h':(n:Int)<(f.length:Int):=of_decide_eq_true hlt;omega
 have ewn:w64 ((n:Int)+1)=((n+1:Nat):Int):=by rw [Q6 (by omega) (by omega)];simp
 -- the best cell
 refine Jn.mk' (Jn.mk (fun b=>BstC s f dn s.Floor.Kind.length b) (Loop.mk (fun t:Int×Int=>∃i:Nat,t.2=(i:Int)∧i≤s.Floor.Kind.length∧BstC s f dn i t.1) (fun t=>s.Floor.Kind.length-t.2.toNat) ⟨0,rfl,by omega,.inl rfl,fun c hc=>by omega⟩ ?_) (fun b hb=>?_))
 ·rintro⟨b,ii⟩ ⟨i,e,hi,hB⟩
  simp only at e hB
  subst e
  refine Ite.mk (fun h=>?_) (fun h=>?_)
  ·have hil:i<s.Floor.Kind.length:=by have h':(i:Int)<(f.length:Int):=of_decide_eq_true h;omega
   have ewi:w64 ((i:Int)+1)=((i+1:Nat):Int):=by rw [Q6 (by omega) (by omega)];simp
   have hic:isC s.Floor (i:Int)=true:=Qp.2 ⟨by omega,by omega⟩
   have hfi:=SC.hi hn hD.sc hil
   have hri:=ZB hs (i:Int)
   refine Jn.mk (fun bb=>bb=true↔(0≤fu f i∧dn.getD i false=false∧(b<0∨keyC s f i<keyC s f b.toNat))) ⟨fu f i,Wi (f:=f) (by omega),Ite.mk (fun h0=>⟨_,Qe rfl (Q42 (dn:=dn) (by omega)),Ite.mk (fun h1=>?_) (fun h1=>Ite.mk (fun h2=>?_) (fun h2=>?_))⟩) (fun h0=>?_)⟩ (fun bb hbb=>Jn.mk (fun b'=>BstC s f dn (i+1) b') (Ite.mk (fun h3=>?_) (fun h3=>?_)) (fun b' hb'=>⟨⟨i+1,ewi,by omega,hb'⟩,by show s.Floor.Kind.length-(w64 ((i:Int)+1)).toNat<s.Floor.Kind.length-((i:Int)).toNat;rw [ewi];omega⟩))
   ·exact⟨fun h=>(by cases h),fun h=>by rw [h1] at h;cases h.2.1⟩
   ·have h0':fu f i≥0:=of_decide_eq_true h0
    exact⟨fun _=>⟨h0',h1,.inl (of_decide_eq_true h2)⟩,fun _=>rfl⟩
   ·have h0':fu f i≥0:=of_decide_eq_true h0
    have h2':¬b<0:=of_decide_eq_false h2
    obtain⟨m,hm,hm1,hm2,_⟩:=hB.is.resolve_left (by omega)
    subst hm
    have e3:imax (m:Int) 0=(m:Int):=by unfold imax;split <;> omega
    have hmc:isC s.Floor (m:Int)=true:=Qp.2 ⟨by omega,by omega⟩
    have hfm:=SC.hi hn hD.sc (c:=m) (by omega)
    have hrm:=ZB hs (m:Int)
    show ∃x,idx f (imax (m:Int) 0)=some x∧_
    rw [e3]
    refine⟨fu f m,Wi (f:=f) (by omega),Wg ks hr hic (Wg ks hr hmc ?_)⟩
    show decide _=true↔_
    rw [decide_eq_true_iff,Q6 (by omega) (by omega),Q6 (by omega) (by omega),Int.toNat_natCast]
    unfold keyC
    exact⟨fun h=>⟨h0',h1,.inr h⟩,fun h=>h.2.2.resolve_left h2'⟩
   ·have h0':¬fu f i≥0:=of_decide_eq_false h0
    exact⟨fun h=>(by cases h),fun h=>absurd h.1 h0'⟩
   ·obtain⟨g1,g2,g3⟩:=hbb.1 h3
    refine⟨.inr ⟨i,rfl,by omega,g1,g2⟩,fun c hc0 h0 hdn=>⟨by omega,?_⟩⟩
    rw [Int.toNat_natCast]
    by_cases e:c=i
    ·subst e;exact Int.le_refl _
    ·obtain⟨q1,q2⟩:=hB.le c (by omega) h0 hdn
     rcases g3 with g3 | g3 <;> omega
   ·refine⟨hB.is.imp id (fun ⟨m,q1,q2,q3⟩=>⟨m,q1,by omega,q3⟩),fun c hc0 h0 hdn=>?_⟩
    by_cases e:c=i
    ·subst e
     have hno:¬(b<0∨keyC s f c<keyC s f b.toNat):=fun hh=>by rw [hbb.2 ⟨h0,hdn,hh⟩] at h3;cases h3
     show 0≤b∧keyC s f b.toNat≤keyC s f c
     omega
    ·exact hB.le c (by omega) h0 hdn
  ·have hie:i=s.Floor.Kind.length:=by have h':¬(i:Int)<(f.length:Int):=of_decide_eq_false h;omega
   subst hie;exact hB
 refine Ite.mk (fun hneg=>hfin f (hdone hD (fun c hc0 h0=>?_))) (fun hpos=>?_)
 ·have hneg':b<0:=of_decide_eq_true hneg
  cases hd:dn.getD c false with
  | true=>rfl
  | false=>have:=(hb.le c hc0 h0 hd).1;omega
 have hpos':¬b<0:=of_decide_eq_false hpos
 obtain⟨m,hm,hml,hm0,hmd⟩:=hb.is.resolve_left (by omega)
 subst hm
 have hmin:∀c,c<s.Floor.Kind.length→0≤fu f c→dn.getD c false=false→keyC s f m≤keyC s f c:=fun c hc0 h0 hd=>by
  have:=(hb.le c hc0 h0 hd).2;rw [Int.toNat_natCast] at this;exact this
 have hmc:isC s.Floor (m:Int)=true:=Qp.2 ⟨by omega,by omega⟩
 have hfm:=SC.hi hn hD.sc hml
 have hgm:=Q3g (a:=an) hs m (fu f m)
 have hrm:=ZB hs (m:Int)
 have hg0:0≤goC s an m (fu f m):=by omega
 refine⟨_,Qe rfl (Q42 (dn:=dn) (by omega)),?_⟩
 rw [Int.toNat_natCast]
 -- nobody who is done gets less
 have hkeep:∀{f1:List Int} {d y:Nat},d<6→nx s.Floor m d=((y:Int),true)→y<s.Floor.Kind.length→dn.getD y false=true→fu f1 y=fu f y→0≤fu f y∧fu f y≤goC s an m (fu f m)+prS s d y:=fun {f1 d y} hd hnx hyl hyd he=>by
  have hok:=WD hf (c:=(m:Int)) (d:=(d:Int)) (by rw [hnx])
  rw [hnx] at hok
  have hp1:1≤prS s (d:Int) (y:Int):=(W7 (s:=s) hs (by omega) (by omega) hok.2.1).1
  have hy0:=hD.fin y hyl hyd
  refine⟨hy0,?_⟩
  by_cases hya:y=an
  ·have hz0:=hD.sc.at_
   rw [hya] at hp1 ⊢
   rw [hz0];omega
  ·have h1:=hD.ord y m hyl hml hyd hya hmd hm0
   have hma:m≠an:=fun e=>by
    rcases hD.first with h | ⟨h,_⟩
    ·rw [←e] at h;rw [h] at hmd;cases hmd
    ·rw [h] at hyd;cases hyd
   have hry:=ZB hs (y:Int)
   unfold goC;rw [if_neg hma]
   unfold keyC at h1;omega
 refine Jn.mk (fun f1=>SC s L an f1∧fu f1 m=fu f m∧(∀c,c<s.Floor.Kind.length→dn.getD c false=true→fu f1 c=fu f c)∧(∀c,c<s.Floor.Kind.length→0≤fu f c→0≤fu f1 c∧fu f1 c≤fu f c)∧(∀c,c<s.Floor.Kind.length→fu f1 c=fu f c∨goC s an m (fu f m)≤fu f1 c)∧∀d,d<6→RlC s L an f1 m d) (Q2j 6 (fun t:List Int×Int=>t.2) (fun i t=>SC s L an t.1∧fu t.1 m=fu f m∧(∀c,c<s.Floor.Kind.length→dn.getD c false=true→fu t.1 c=fu f c)∧(∀c,c<s.Floor.Kind.length→0≤fu f c→0≤fu t.1 c∧fu t.1 c≤fu f c)∧(∀c,c<s.Floor.Kind.length→fu t.1 c=fu f c∨goC s an m (fu f m)≤fu t.1 c)∧∀d,d<i→RlC s L an t.1 m d) (by unfold maxLen;omega) rfl ⟨hD.sc,rfl,fun _ _ _=>rfl,fun c _ h=>⟨h,Int.le_refl _⟩,fun c _=>.inl rfl,fun d hd=>by omega⟩ (fun i t hi ht hI=>?_) (fun t hI=>hI)) (fun f1 hf1=>?_)
 ·obtain⟨j1,j2,j3,j4,j5,j6⟩:=hI
  obtain⟨f1,di⟩:=t
  simp only at ht j1 j2 j3 j4 j5 j6
  subst ht
  have hf1l:=j1.len
  refine Q1o hf ⟨by omega,by omega⟩ (Jn.mk (fun b=>b=true↔((nx s.Floor m i).2=true∧(nx s.Floor m i).1∉L)) (Ite.mk (fun h=>GS hL ?_) (fun h=>?_)) (fun b hb2=>?_))
  ·show (!L.contains _)=true↔_
   rw [Bool.not_eq_true',←Bool.not_eq_true,List.contains_iff_mem]
   exact⟨fun h3=>⟨h,h3⟩,fun h3=>h3.2⟩
  ·rw [h];simp
  refine Jn.mk (fun f2=>SC s L an f2∧fu f2 m=fu f m∧(∀c,c<s.Floor.Kind.length→dn.getD c false=true→fu f2 c=fu f c)∧(∀c,c<s.Floor.Kind.length→0≤fu f c→0≤fu f2 c∧fu f2 c≤fu f c)∧(∀c,c<s.Floor.Kind.length→fu f2 c=fu f c∨goC s an m (fu f m)≤fu f2 c)∧∀d,d<i+1→RlC s L an f2 m d) (Ite.mk (fun h=>?_) (fun h=>?_)) (fun f2 hf2=>⟨rfl,hf2⟩)
  ·obtain⟨g1,g2⟩:=hb2.1 h
   have hok:=WD hf g1
   have hyi:=Qp.1 hok.2.1
   obtain⟨y,hy⟩:=Int.eq_ofNat_of_zero_le hyi.1
   have hnx:nx s.Floor m i=((y:Int),true):=by rw [←hy,←g1]
   have hne:y≠m:=fun e=>by
    have:=Q4k hf (c:=(m:Int)) (d:=(i:Int)) g1
    rw [hnx] at this;exact this (by simp only;omega)
   rw [hnx] at g2 hok hyi ⊢
   simp only at g2 hok hyi ⊢
   have hpr:1≤prS s (i:Int) (y:Int)∧prS s (i:Int) (y:Int)≤400:=W7 (s:=s) hs (by omega) (by omega) hok.2.1
   have hyl:y<s.Floor.Kind.length:=by omega
   have hyh:=SC.hi hn j1 hyl
   refine⟨fu f1 m,Wi (f:=f1) (by omega),Q0O ks hr ?_⟩
   rw [j2]
   refine Jn.mk (fun v=>v=goC s an m (fu f m)+prS s i y) (Ite.mk (fun h3=>Wg ks hr hmc ?_) (fun h3=>?_)) (fun v hv=>?_)
   ·have h3':¬m=an:=by have:¬(m:Int)=(an:Int):=by simpa using h3
                       omega
    unfold goC;rw [if_neg h3',Q6 (x:=fu f m+prS s i y) (by omega) (by omega),Q6 (by omega) (by omega)];omega
   ·have h3':m=an:=by have:(m:Int)=(an:Int):=by simpa using h3
                      omega
    unfold goC;rw [if_pos h3',Q6 (by omega) (by omega)]
   subst hv
   refine Jn.mk (fun b=>b=true↔(fu f1 y<0∨goC s an m (fu f m)+prS s i y<fu f1 y)) ⟨fu f1 y,Wi (f:=f1) (by omega),Ite.mk (fun h3=>⟨fun _=>.inl (of_decide_eq_true h3),fun _=>rfl⟩) (fun h3=>?_)⟩ (fun b hb3=>?_)
   ·have h3':¬fu f1 y<0:=of_decide_eq_false h3
    show decide _=true↔_
    rw [decide_eq_true_iff]
    exact⟨.inr,fun h4=>h4.resolve_left h3'⟩
   refine Jn.mk (fun f2=>SC s L an f2∧fu f2 m=fu f m∧(∀c,c<s.Floor.Kind.length→dn.getD c false=true→fu f2 c=fu f c)∧(∀c,c<s.Floor.Kind.length→0≤fu f c→0≤fu f2 c∧fu f2 c≤fu f c)∧(∀c,c<s.Floor.Kind.length→fu f2 c=fu f c∨goC s an m (fu f m)≤fu f2 c)∧∀d,d<i+1→RlC s L an f2 m d) (Ite.mk (fun h3=>⟨fu f1 y,Wi (f:=f1) (by omega),?_⟩) (fun h3=>?_)) (fun f2 hf2=>hf2)
   ·have hput:=hb3.1 h3
    rw [Int.toNat_natCast]
    have hset:∀e,fu (f1.set y (goC s an m (fu f m)+prS s i y)) e=if e=y then goC s an m (fu f m)+prS s i y else fu f1 e:=fun e=>ZE (by omega)
    have hput':=hput
    rw [←j2] at hput'
    obtain⟨_,p2,_⟩:=j1.put hf hs hn ha hml (by rw [j2];exact hm0) hi hnx g2 hput'
    rw [j2] at p2
    refine⟨p2,by rw [hset,if_neg (fun e=>hne e.symm),j2],fun c hc0 hcd=>?_,fun c hc0 h0=>?_,fun c hc0=>?_,fun d hd z hz2 hzL=>?_⟩
    ·rw [hset]
     split
     ·rename_i e
      subst e
      have:=hkeep (f1:=f1) hi hnx hc0 hcd (j3 c hc0 hcd)
      rw [←j3 c hc0 hcd] at this
      omega
     ·exact j3 c hc0 hcd
    ·rw [hset]
     have:=j4 c hc0 h0
     split
     ·rename_i e;subst e;omega
     ·exact this
    ·rw [hset]
     split
     ·exact .inr (by omega)
     ·exact j5 c hc0
    ·have ec:fu (f1.set y (goC s an m (fu f m)+prS s i y)) m=fu f m:=by rw [hset,if_neg (fun e=>hne e.symm),j2]
     rw [ec]
     by_cases e:d=i
     ·subst e
      rw [hnx] at hz2
      have ez:z=y:=by
       have:=congrArg Prod.fst hz2
       simp only at this;omega
      subst ez
      rw [hset,if_pos rfl]
      exact⟨by omega,Int.le_refl _⟩
     ·obtain⟨r1,r2⟩:=j6 d (by omega) z hz2 hzL
      rw [j2] at r2
      rw [hset]
      split
      ·rename_i e2;subst e2;exact⟨by omega,by omega⟩
      ·exact⟨r1,r2⟩
   ·have hno:¬(fu f1 y<0∨goC s an m (fu f m)+prS s i y<fu f1 y):=fun h4=>by rw [hb3.2 h4] at h3;cases h3
    refine⟨j1,j2,j3,j4,j5,fun d hd z hz2 hzL=>?_⟩
    by_cases e:d=i
    ·subst e
     rw [hnx] at hz2
     have ez:z=y:=by
      have:=congrArg Prod.fst hz2
      simp only at this;omega
     subst ez
     rw [j2]
     exact⟨by omega,by omega⟩
    ·exact j6 d (by omega) z hz2 hzL
  ·refine⟨j1,j2,j3,j4,j5,fun d hd y hy hyL=>?_⟩
   by_cases e:d=i
   ·subst e
    have:=hb2.2 ⟨by rw [hy],by rw [hy];exact hyL⟩
    rw [this] at h;cases h
   ·exact j6 d (by omega) y hy hyL
 ·obtain⟨k1,k2,k3,k4,k5,k6⟩:=hf1
  have hset:∀d,(dn.set m true).getD d false=if d=m then true else dn.getD d false:=fun d=>Q4Y (by omega)
  have hDC:DC s L an f1 (dn.set m true):=by
   refine⟨k1,by rw [List.length_set];exact hdl,fun c hc0 h=>?_,fun c hc0 h d hd=>?_,fun x y hx hy h hxa hyd hy0=>?_,?_⟩
   ·rw [hset] at h
    split at h
    ·rename_i e;rw [e,k2];exact hm0
    ·rw [k3 c hc0 h];exact hD.fin c hc0 h
   ·rw [hset] at h
    split at h
    ·rename_i e;rw [e];exact k6 d hd
    ·intro y hy hyL
     obtain⟨r1,r2⟩:=hD.rel c hc0 h d hd y hy hyL
     have hyl:y<s.Floor.Kind.length:=by
      have hok:=WD hf (c:=(c:Int)) (d:=(d:Int)) (by rw [hy])
      rw [hy] at hok
      have:=Qp.1 hok.2.1
      simp only at this;omega
     obtain⟨m1,m2⟩:=k4 y hyl r1
     rw [k3 c hc0 h]
     exact⟨m1,by omega⟩
   ·rw [hset] at h hyd
    have hyd':y≠m∧dn.getD y false=false:=by
     by_cases e:y=m
     ·rw [if_pos e] at hyd;cases hyd
     ·rw [if_neg e] at hyd;exact⟨e,hyd⟩
    have hma:x≠m→m≠an:=fun hxm e=>by
     rw [if_neg hxm] at h
     rcases hD.first with g | ⟨g,_⟩
     ·rw [←e] at g;rw [g] at hmd;cases hmd
     ·rw [g] at h;cases h
    have hry:=ZB hs (y:Int)
    -- x is not after the best,the best not after y
    have h1:keyC s f1 x≤keyC s f m:=by
     unfold keyC
     by_cases e:x=m
     ·rw [e,k2];exact Int.le_refl _
     ·rw [if_neg e] at h
      have:=hD.ord x m hx hml h hxa hmd hm0
      unfold keyC at this
      rw [k3 x hx h];exact this
    have hme:m≠an:=by
     by_cases e:x=m
     ·rw [←e];exact hxa
     ·exact hma e
    rcases k5 y hy with g | g
    ·have:=hmin y hy (by rw [←g];exact hy0) hyd'.2
     unfold keyC at this h1 ⊢
     rw [g];omega
    ·unfold goC at g
     rw [if_neg hme] at g
     unfold keyC at h1 ⊢
     omega
   ·left
    rw [hset]
    rcases hD.first with g | ⟨_,g⟩
    ·split
     ·rfl
     ·exact g
    ·rw [if_pos (g m hml hm0).symm]
  have hct:∀xs:List Nat,xs.Nodup→m∈xs→xs.countP (fun c=>(dn.set m true).getD c false)=xs.countP (fun c=>dn.getD c false)+1:=fun xs hnd hx=>by
   induction xs with
   | nil=>cases hx
   | cons b xs ih=>
    obtain⟨n1,n2⟩:=List.nodup_cons.1 hnd
    rw [List.countP_cons,List.countP_cons,hset b]
    by_cases e:b=m
    ·subst e
     rw [if_pos rfl,hmd]
     have:xs.countP (fun c=>(dn.set b true).getD c false)=xs.countP (fun c=>dn.getD c false):=List.countP_congr fun c hc0=>by
      have hcb:c≠b:=fun e2=>n1 (by rw [←e2];exact hc0)
      rw [hset,if_neg hcb]
     rw [this];simp
    ·rw [if_neg e,ih n2 ((List.mem_cons.1 hx).resolve_left fun e2=>e e2.symm)];omega
  rw [Int.toNat_natCast]
  refine⟨⟨hDC,n+1,ewn,by omega,?_⟩,by show s.Floor.Kind.length-(w64 ((n:Int)+1)).toNat<s.Floor.Kind.length-((n:Int)).toNat;rw [ewn];omega⟩
  show (List.range s.Floor.Kind.length).countP (fun c=>(dn.set m true).getD c false)=n+1
  rw [hct _ List.nodup_range (List.mem_range.2 hml),hcnt]
end
end Go.Taq
/- The mathematics, part DA: matchings, ways by which one grows, and that a search which finds none is right (chapter 34). -/
set_option linter.unusedVariables false
set_option linter.unusedSimpArgs false
namespace Go.Taq
open Go
def rowL (l:List (List Int)) (r:Int):List Int:=l.getD r.toNat []
inductive Aug (l:List (List Int)) (k:Int) (o:Int→Option Int):Int→List (Int×Int)→Prop where
 | free {x c:Int} (hc:c∈rowL l x) (ho:o c=none):Aug l k o x [(c,x)]
 | step {x c r:Int} {p:List (Int×Int)} (hc:c∈rowL l x) (ho:o c=some r) (hk:k≤r) (hp:Aug l k o r p) (hn:∀q,q∈p→q.1≠c):Aug l k o x ((c,x) :: p)
def apO:List (Int×Int)→(Int→Option Int)→Int→Option Int
 | [],o,c=>o c
 | q :: p,o,c=>if q.1=c then some q.2 else apO p o c
section
variable {l:List (List Int)} {k:Int} {o:Int→Option Int} {x:Int} {p:List (Int×Int)}
theorem Aug.ne (h:Aug l k o x p):p≠[]:=by cases h <;> simp
def Shut (l:List (List Int)) (k:Int) (o:Int→Option Int) (T:Int→Prop):Prop:=∀r,T r→∀c,c∈rowL l r→∃r',o c=some r'∧(r'<k∨T r')
theorem Aug.out (h:Aug l k o x p) {T:Int→Prop} (hT:Shut l k o T):∀q,q∈p→¬T q.2:=by
 have key:¬T x:=by
  induction h with
  | free hc ho=>intro ht;obtain⟨r,e,_⟩:=hT _ ht _ hc;rw [ho] at e;cases e
  | step hc ho hk hp hn ih=>
   intro ht
   obtain⟨r',e,hr⟩:=hT _ ht _ hc
   rw [ho] at e;cases e
   rcases hr with hr | hr
   ·omega
   ·exact ih hr
 induction h with
 | free hc ho=>intro q hq;simp at hq;subst hq;exact key
 | step hc ho hk hp hn ih=>
  intro q hq
  rcases List.mem_cons.1 hq with e | hq
  ·subst e;exact key
  ·refine ih ?_ q hq
   intro ht
   -- the next robot is outside,too
   exact absurd ht (by
    intro ht'
    clear ih
    have:∀{y:Int} {p':List (Int×Int)},Aug l k o y p'→¬T y:=fun {y p'} h'=>by
     induction h' with
     | free hc ho=>intro ht;obtain⟨r,e,_⟩:=hT _ ht _ hc;rw [ho] at e;cases e
     | step hc ho hk hp hn ih=>
      intro ht
      obtain⟨r',e,hr⟩:=hT _ ht _ hc
      rw [ho] at e;cases e
      rcases hr with hr | hr
      ·omega
      ·exact ih hr
    exact this hp ht')
theorem Aug.row (h:Aug l k o x p):∀q,q∈p→q.1∈rowL l q.2:=by
 induction h with
 | free hc ho=>intro q hq;simp at hq;subst hq;exact hc
 | step hc ho hk hp hn ih=>intro q hq;rcases List.mem_cons.1 hq with e | hq;(subst e;exact hc);exact ih q hq
theorem Aug.head (h:Aug l k o x p):∃c,(c,x)∈p:=by
 cases h with
 | free hc ho=>exact⟨_,List.mem_cons_self ..⟩
 | step hc ho hk hp hn=>exact⟨_,List.mem_cons_self ..⟩
theorem Aug.had (h:Aug l k o x p):∀q,q∈p→q.2=x∨∃q',q'∈p∧o q'.1=some q.2∧k≤q.2:=by
 induction h with
 | free hc ho=>intro q hq;simp at hq;subst hq;exact .inl rfl
 | step hc ho hk hp hn ih=>
  intro q hq
  rcases List.mem_cons.1 hq with e | hq
  ·subst e;exact .inl rfl
  ·rcases ih q hq with e | ⟨q',h1,h2,h3⟩
   ·exact .inr ⟨_,List.mem_cons_self ..,by rw [e];exact ho,by rw [e];exact hk⟩
   ·exact .inr ⟨q',List.mem_cons_of_mem _ h1,h2,h3⟩
theorem Aug.own (h:Aug l k o x p):∀q r,q∈p→o q.1=some r→k≤r∧∃q',q'∈p∧q'.2=r:=by
 induction h with
 | free hc ho=>intro q r hq e;simp at hq;subst hq;rw [ho] at e;cases e
 | step hc ho hk hp hn ih=>
  intro q r hq e
  rcases List.mem_cons.1 hq with e2 | hq
  ·subst e2
   rw [ho] at e;cases e
   obtain⟨c',h'⟩:=hp.head
   exact⟨hk,_,List.mem_cons_of_mem _ h',rfl⟩
  ·obtain⟨h1,q',h2,h3⟩:=ih q r hq e
   exact⟨h1,q',List.mem_cons_of_mem _ h2,h3⟩
theorem Aug.once (h:Aug l k o x p):∀q q',q∈p→q'∈p→q.1=q'.1→q=q':=by
 induction h with
 | free hc ho=>intro q q' hq hq' _;simp at hq hq';rw [hq,hq']
 | step hc ho hk hp hn ih=>
  intro q q' hq hq' e
  rcases List.mem_cons.1 hq with e1 | hq <;> rcases List.mem_cons.1 hq' with e2 | hq'
  ·rw [e1,e2]
  ·subst e1;exact absurd e.symm (hn q' hq')
  ·subst e2;exact absurd e (hn q hq)
  ·exact ih q q' hq hq' e
theorem Aug.robot (hi:∀c c' r,o c=some r→o c'=some r→c=c') (h:Aug l k o x p):(∀q,q∈p→o q.1≠some x)→∀q q',q∈p→q'∈p→q.2=q'.2→q=q':=by
 induction h with
 | free hc ho=>intro _ q q' hq hq' _;simp at hq hq';rw [hq,hq']
 | step hc ho hk hp hn ih=>
  rename_i x c r p
  intro hx q q' hq hq' e
  have key:∀q,q∈p→q.2≠x:=fun q hq e=>by
   rcases hp.had q hq with e2 | ⟨q',h1,h2,h3⟩
   ·exact hx (c,x) (List.mem_cons_self ..) (by rw [←e,e2];exact ho)
   ·exact hx q' (List.mem_cons_of_mem _ h1) (by rw [←e];exact h2)
  rcases List.mem_cons.1 hq with e1 | hq <;> rcases List.mem_cons.1 hq' with e2 | hq'
  ·rw [e1,e2]
  ·subst e1;exact absurd e.symm (key q' hq')
  ·subst e2;exact absurd e (key q hq)
  ·exact ih (fun q hq e=>hn q hq (hi _ _ _ e ho)) q q' hq hq' e
theorem KU:∀(p:List (Int×Int)) (c:Int),(∃q,q∈p∧q.1=c∧apO p o c=some q.2)∨((∀q,q∈p→q.1≠c)∧apO p o c=o c)
 | [],c=>.inr ⟨fun q hq=>(by cases hq),rfl⟩
 | q :: p,c=>by
  unfold apO
  by_cases h:q.1=c
  ·exact .inl ⟨q,List.mem_cons_self ..,h,by rw [if_pos h]⟩
  ·rcases KU p c with ⟨q',h1,h2,h3⟩ | ⟨h1,h2⟩
   ·exact .inl ⟨q',List.mem_cons_of_mem _ h1,h2,by rw [if_neg h];exact h3⟩
   ·exact .inr ⟨fun q' hq'=>(List.mem_cons.1 hq').elim (fun e=>e▸h) (h1 q'),by rw [if_neg h];exact h2⟩
theorem Aug.ap (h:Aug l k o x p) {q:Int×Int} (hq:q∈p):apO p o q.1=some q.2:=by
 rcases KU (o:=o) p q.1 with ⟨q',h1,h2,h3⟩ | ⟨h1,h2⟩
 ·rw [h3,h.once q' q h1 hq h2]
 ·exact absurd rfl (h1 q hq)
end
/-! ## what the search keeps -/
structure KI (l:List (List Int)) (g:List Int) (i:Nat) (o:Int→Option Int) (n:Nat):Prop where
 dom:∀c r,o c=some r→0≤r∧r<i∧(r<g.length→g[r.toNat]?=some c)∧(¬r<g.length→c∈rowL l r)
 giv:∀(j:Nat) c,g[j]?=some c→0≤c→o c=some (j:Int)
 inj:∀c c' r,o c=some r→o c'=some r→c=c'
 shut:∃T:Int→Prop,(∀r,T r→(g.length:Int)≤r∧r<i)∧Shut l g.length o T∧∀r:Int,(g.length:Int)≤r→r<i→(∀c,o c≠some r)→T r
 cnt:∃rs:List Int,rs.Nodup∧rs.length=n∧∀r,r∈rs↔∃c,o c=some r
section
variable {l:List (List Int)} {g:List Int} {i n:Nat} {o:Int→Option Int} {p:List (Int×Int)}
theorem KI.grow (h:KI l g i o n) (hg:g.length≤i) (hp:Aug l g.length o i p):KI l g (i+1) (apO p o) (n+1):=by
 have hx:∀c,o c≠some (i:Int):=fun c e=>by have:=(h.dom c _ e).2.1;omega
 have hrob:=hp.robot h.inj (fun q _=>hx q.1)
 have off:∀{c r:Int},o c=some r→(∃q,q∈p∧q.2=r)∨apO p o c=some r:=fun {c r} e=>by
  rcases KU (o:=o) p c with ⟨q,h1,h2,h3⟩ | ⟨h1,h2⟩
  ·exact .inl (by obtain⟨_,q',g1,g2⟩:=hp.own q r h1 (by rw [h2];exact e);exact⟨q',g1,g2⟩)
  ·exact .inr (h2.trans e)
 refine⟨fun c r e=>?_,fun j c hj hc=>?_,fun c c' r e e'=>?_,?_,?_⟩
 ·rcases KU (o:=o) p c with ⟨q,h1,h2,h3⟩ | ⟨h1,h2⟩
  ·have er:q.2=r:=by rw [h3] at e;exact Option.some.inj e
   subst er;subst h2
   have hrow:=hp.row q h1
   rcases hp.had q h1 with e2 | ⟨q',g1,g2,g3⟩
   ·rw [e2] at hrow ⊢
    exact⟨by omega,by omega,fun h=>by omega,fun _=>hrow⟩
   ·obtain⟨d1,d2,_⟩:=h.dom _ _ g2
    exact⟨d1,by omega,fun h=>by omega,fun _=>hrow⟩
  ·rw [h2] at e
   obtain⟨d1,d2,d3⟩:=h.dom _ _ e
   exact⟨d1,by omega,d3⟩
 ·have e:=h.giv j c hj hc
  rcases KU (o:=o) p c with ⟨q,h1,h2,h3⟩ | ⟨h1,h2⟩
  ·have:=(hp.own q _ h1 (by rw [h2];exact e)).1
   have:=(List.getElem?_eq_some_iff.1 hj).1
   omega
  ·rw [h2];exact e
 ·rcases KU (o:=o) p c with ⟨q,h1,h2,h3⟩ | ⟨h1,h2⟩ <;> rcases KU (o:=o) p c' with ⟨q',h1',h2',h3'⟩ | ⟨h1',h2'⟩
  ·rw [h3] at e;rw [h3'] at e'
   have:=hrob q q' h1 h1' ((Option.some.inj e).trans (Option.some.inj e').symm)
   rw [←h2,←h2',this]
  ·rw [h3] at e;rw [h2'] at e'
   have er:=Option.some.inj e
   rcases hp.had q h1 with e2 | ⟨q2,g1,g2,g3⟩
   ·rw [←er,e2] at e';exact absurd e' (hx _)
   ·rw [er] at g2
    exact absurd (h.inj _ _ _ g2 e') (h1' q2 g1)
  ·rw [h2] at e;rw [h3'] at e'
   have er:=Option.some.inj e'
   rcases hp.had q' h1' with e2 | ⟨q2,g1,g2,g3⟩
   ·rw [←er,e2] at e;exact absurd e (hx _)
   ·rw [er] at g2
    exact absurd (h.inj _ _ _ g2 e) (h1 q2 g1)
  ·rw [h2] at e;rw [h2'] at e';exact h.inj _ _ _ e e'
 ·obtain⟨T,t1,t2,t3⟩:=h.shut
  have hout:=hp.out t2
  refine⟨T,fun r hr=>by have:=t1 r hr;omega,fun r hr c hc=>?_,fun r hr1 hr2 hn=>?_⟩
  ·obtain⟨r',e,hr'⟩:=t2 r hr c hc
   refine⟨r',?_,hr'⟩
   rcases KU (o:=o) p c with ⟨q,h1,h2,h3⟩ | ⟨h1,h2⟩
   ·obtain⟨g1,q',g2,g3⟩:=hp.own q r' h1 (by rw [h2];exact e)
    rcases hr' with h | h
    ·omega
    ·exact absurd (g3▸h) (hout q' g2)
   ·rw [h2];exact e
  ·have hnon:∀q,q∈p→q.2≠r:=fun q hq e=>hn q.1 (by rw [hp.ap hq,e])
   by_cases e:r=i
   ·obtain⟨c,hc⟩:=hp.head
    exact absurd e.symm (hnon _ hc)
   ·refine t3 r hr1 (by omega) (fun c hc=>?_)
    rcases off hc with ⟨q,h1,h2⟩ | h
    ·exact hnon q h1 h2
    ·exact hn c h
 ·obtain⟨rs,r1,r2,r3⟩:=h.cnt
  refine⟨(i:Int) :: rs,List.nodup_cons.2 ⟨fun hi=>?_,r1⟩,by simp [r2],fun r=>?_⟩
  ·obtain⟨c,hc⟩:=(r3 _).1 hi;exact hx c hc
  ·rw [List.mem_cons,r3]
   constructor
   ·rintro (e | ⟨c,hc⟩)
    ·subst e
     obtain⟨c,hc⟩:=hp.head
     exact⟨c,hp.ap hc⟩
    ·rcases off hc with ⟨q,h1,h2⟩ | h
     ·exact⟨q.1,by rw [hp.ap h1,h2]⟩
     ·exact⟨c,h⟩
   ·rintro⟨c,hc⟩
    rcases KU (o:=o) p c with ⟨q,h1,h2,h3⟩ | ⟨h1,h2⟩
    ·have er:q.2=r:=by rw [h3] at hc;exact Option.some.inj hc
     rcases hp.had q h1 with e2 | ⟨q',g1,g2,g3⟩
     ·exact .inl (by rw [←er,e2])
     ·exact .inr ⟨q'.1,by rw [←er];exact g2⟩
    ·exact .inr ⟨c,by rw [←h2];exact hc⟩
def Stk (l:List (List Int)) (k:Int) (o:Int→Option Int) (x:Int) (S S':Int→Prop):Prop:=
 (∀c,S c→S' c)∧(∀c,c∈rowL l x→S' c)∧∀c,S' c→S c∨∃r,o c=some r∧(r<k∨∀c2,c2∈rowL l r→S' c2)
theorem KI.stuck (h:KI l g i o n) (hg:g.length≤i) {S':Int→Prop} (hs:Stk l g.length o i (fun _=>False) S'):KI l g (i+1) o n:=by
 obtain⟨_,s2,s3⟩:=hs
 have held:∀c,S' c→∃r,o c=some r∧(r<(g.length:Int)∨∀c2,c2∈rowL l r→S' c2):=fun c hc=>(s3 c hc).resolve_left id
 refine⟨fun c r e=>?_,h.giv,h.inj,?_,h.cnt⟩
 ·obtain⟨d1,d2,d3⟩:=h.dom c r e
  exact⟨d1,by omega,d3⟩
 ·obtain⟨T,t1,t2,t3⟩:=h.shut
  refine⟨fun r=>T r∨r=i∨∃c,S' c∧o c=some r∧(g.length:Int)≤r,fun r hr=>?_,fun r hr c hc=>?_,fun r hr1 hr2 hn=>?_⟩
  ·rcases hr with hr | hr | ⟨c,_,hr,hk⟩
   ·have:=t1 r hr;omega
   ·omega
   ·have:=(h.dom c r hr).2.1;omega
  ·have fin:S' c→∃r',o c=some r'∧(r'<(g.length:Int)∨(T r'∨r'=i∨∃c,S' c∧o c=some r'∧(g.length:Int)≤r')):=fun hs=>by
    obtain⟨r',e,_⟩:=held c hs
    refine⟨r',e,?_⟩
    by_cases hk:r'<(g.length:Int)
    ·exact .inl hk
    ·exact .inr (.inr (.inr ⟨c,hs,e,by omega⟩))
   rcases hr with hr | hr | ⟨c0,h0,hr,hk⟩
   ·obtain⟨r',e,hr'⟩:=t2 r hr c hc
    exact⟨r',e,hr'.imp id .inl⟩
   ·subst hr;exact fin (s2 c hc)
   ·obtain⟨r0,e0,hr0⟩:=held c0 h0
    rw [e0] at hr;cases hr
    rcases hr0 with hlt | hall
    ·omega
    ·exact fin (hall c hc)
  ·by_cases e:r=i
   ·exact .inr (.inl e)
   ·exact .inl (t3 r hr1 (by omega) hn)
end
/-! ## matchings -/
structure Mat (l:List (List Int)) (m:List Int):Prop where
 len:m.length=l.length
 ok:∀(i:Nat) c,m[i]?=some c→c=-1∨(0≤c∧c∈rowL l i∧∀j:Nat,j<i→m[j]?≠some c)
structure Beg (l:List (List Int)) (g:List Int):Prop where
 len:g.length≤l.length
 ok:∀(i:Nat) c,g[i]?=some c→c=-1∨(0≤c∧c∈rowL l i∧∀j:Nat,j<i→g[j]?≠some c)
def szM (m:List Int):Nat:=m.countP fun c=>decide (0≤c)
structure Most (l:List (List Int)) (g:List Int) (v:Nat):Prop where
 is:∃m,Mat l m∧m.take g.length=g∧szM m=v
 le:∀m,Mat l m→m.take g.length=g→szM m≤v
theorem Most.uniq {l:List (List Int)} {g:List Int} {v w:Nat} (h:Most l g v) (h':Most l g w):v=w:=by
 obtain⟨m,m1,m2,m3⟩:=h.is
 obtain⟨m',m1',m2',m3'⟩:=h'.is
 have:=h.le m' m1' m2'
 have:=h'.le m m1 m2
 omega
theorem Gc:∀{a b:List Int},a.Nodup→(∀x,x∈a→x∈b)→a.length≤b.length
 | [],b,_,_=>Nat.zero_le _
 | x :: a,b,h,hs=>by
  obtain⟨h1,h2⟩:=List.nodup_cons.1 h
  have hx:=hs x (List.mem_cons_self ..)
  have:=Gc (a:=a) (b:=b.erase x) h2 (fun y hy=>(List.mem_erase_of_ne (fun e=>h1 (by rw [←e];exact hy))).2 (hs y (List.mem_cons_of_mem _ hy)))
  rw [List.length_erase_of_mem hx] at this
  have:=List.length_pos_of_mem hx
  simp only [List.length_cons];omega
theorem Q2d {a b:List Int} (ha:a.Nodup) (hb:b.Nodup) (h:∀x,x∈a↔x∈b):a.length=b.length:=
 Nat.le_antisymm (Gc ha fun x hx=>(h x).1 hx) (Gc hb fun x hx=>(h x).2 hx)
theorem Q2G {a b:List Int} (ha:a.Nodup) (hs:∀x,x∈a→x∈b) (hl:b.length≤a.length) {x:Int} (hx:x∈b):x∈a:=by
 by_cases h:x∈a
 ·exact h
 ·have:=Gc (a:=x :: a) (b:=b) (List.nodup_cons.2 ⟨h,ha⟩) (fun y hy=>(List.mem_cons.1 hy).elim (fun e=>by rw [e];exact hx) (hs y))
  simp only [List.length_cons] at this;omega
def hasM (m:List Int):List Int:=((List.range m.length).filter fun j=>decide (0≤m.getD j (-1))).map fun (j:Nat)=>(j:Int)
theorem Xp {m:List Int} {r:Int}:r∈hasM m↔∃(j:Nat) (c:Int),r=j∧m[j]?=some c∧0≤c:=by
 unfold hasM
 simp only [List.mem_map,List.mem_filter,List.mem_range,decide_eq_true_eq]
 constructor
 ·rintro⟨j,⟨h1,h2⟩,e⟩
  rw [List.getD_eq_getElem?_getD,List.getElem?_eq_getElem h1] at h2
  exact⟨j,_,e.symm,List.getElem?_eq_getElem h1,h2⟩
 ·rintro⟨j,c,e,h1,h2⟩
  have hlt:=(List.getElem?_eq_some_iff.1 h1).1
  exact⟨j,⟨hlt,by rw [List.getD_eq_getElem?_getD,h1];exact h2⟩,e.symm⟩
theorem Q2p {xs:List Nat} (h:xs.Nodup):(xs.map fun (j:Nat)=>(j:Int)).Nodup:=by
 rw [List.Nodup,List.pairwise_map]
 exact h.imp fun h e=>h (by omega)
theorem Wy (m:List Int):(hasM m).Nodup:=Q2p (List.nodup_range.filter _)
theorem Ww (m:List Int):(hasM m).length=szM m:=by
 unfold hasM szM
 rw [List.length_map,←List.countP_eq_length_filter]
 have:∀k,k≤m.length→(List.range k).countP (fun j=>decide (0≤m.getD j (-1)))=(m.take k).countP (fun c=>decide (0≤c)):=fun k=>by
  induction k with
  | zero=>intro _;simp
  | succ k ih=>
   intro hk
   have hx:m[k]?=some (m[k]'(by omega)):=List.getElem?_eq_getElem _
   rw [List.range_succ,List.countP_append,ih (by omega),QE hx,List.countP_append]
   congr 1
   simp only [List.countP_cons,List.countP_nil,List.getD_eq_getElem?_getD,hx,Option.getD_some]
 have:=this m.length (Nat.le_refl _)
 rw [List.take_length] at this;exact this
section
variable {l:List (List Int)} {g:List Int} {n:Nat} {o:Int→Option Int}
theorem KI.pos (h:KI l g l.length o n) (hg:∀(i:Nat) c,g[i]?=some c→o c=some (i:Int)→0≤c) (hpos:∀r c,c∈rowL l r→0≤c) {c r:Int} (e:o c=some r):0≤c:=by
 obtain⟨d1,d2,d3,d4⟩:=h.dom c r e
 by_cases hk:r<g.length
 ·exact hg _ _ (d3 hk) (by rw [e];congr 1;omega)
 ·exact hpos _ _ (d4 hk)
theorem KI.most (h:KI l g l.length o n) (hg:Beg l g) (hneg:∀c,o c≠none→0≤c):Most l g n:=by
 obtain⟨rs,r1,r2,r3⟩:=h.cnt
 have hgl:=hg.len
 have hc0:∀c r,o c=some r→0≤c:=fun c r e=>hneg c (by rw [e];simp)
 classical
 constructor
 ·-- the matching that is found
  obtain⟨f,hf,hf0⟩:∃f:Nat→Int,(∀(r:Nat) c,o c=some (r:Int)→f r=c)∧∀r:Nat,(∀c,o c≠some (r:Int))→f r=-1:=by
   refine⟨fun r=>if hc:∃c,o c=some (r:Int) then Classical.choose hc else -1,fun r c e=>?_,fun r hn=>?_⟩
   ·show (if hc:∃c,o c=some (r:Int) then Classical.choose hc else -1)=c
    rw [dif_pos ⟨c,e⟩];exact h.inj _ _ _ (Classical.choose_spec (⟨c,e⟩:∃c,o c=some (r:Int))) e
   ·show (if hc:∃c,o c=some (r:Int) then Classical.choose hc else -1)=-1
    rw [dif_neg (fun ⟨c,e⟩=>hn c e)]
  have hfc:∀r:Nat,(∃c,o c=some (r:Int)∧f r=c)∨((∀c,o c≠some (r:Int))∧f r=-1):=fun r=>by
   by_cases hc:∃c,o c=some (r:Int)
   ·obtain⟨c,e⟩:=hc;exact .inl ⟨c,e,hf r c e⟩
   ·have hn:∀c,o c≠some (r:Int):=fun c e=>hc ⟨c,e⟩
    exact .inr ⟨hn,hf0 r hn⟩
  have hget:∀(j:Nat) c,((List.range l.length).map f)[j]?=some c→j<l.length∧f j=c:=fun j c e=>by
   have hj:=(List.getElem?_eq_some_iff.1 e).1
   rw [List.length_map,List.length_range] at hj
   rw [List.getElem?_map,List.getElem?_range hj] at e
   exact⟨hj,Option.some.inj e⟩
  have hgf:∀(j:Nat) c,g[j]?=some c→f j=c:=fun j c hj=>by
   have hlt:=(List.getElem?_eq_some_iff.1 hj).1
   rcases hg.ok j c hj with e | ⟨e,_⟩
   ·rcases hfc j with ⟨c',e1,e2⟩ | ⟨_,e2⟩
    ·have:=(h.dom c' j e1).2.2.1 (by omega)
     rw [Int.toNat_natCast,hj] at this
     have:=Option.some.inj this
     rw [e2,this]
    ·rw [e2,e]
   ·exact hf j c (h.giv j c hj e)
  refine⟨(List.range l.length).map f,⟨by simp,fun i c e=>?_⟩,?_,?_⟩
  ·obtain⟨hi,e⟩:=hget i c e
   rcases hfc i with ⟨c',e1,e2⟩ | ⟨_,e2⟩
   ·right
    have ec:c'=c:=e2.symm.trans e
    subst ec
    refine⟨hc0 _ _ e1,?_,fun j hj e3=>?_⟩
    ·obtain⟨d1,d2,d3,d4⟩:=h.dom _ _ e1
     by_cases hk:(i:Int)<g.length
     ·rcases hg.ok _ _ (d3 hk) with e4 | e4
      ·have:=hc0 _ _ e1;omega
      ·rw [Int.toNat_natCast] at e4;exact e4.2.1
     ·exact d4 hk
    ·obtain⟨hj2,e3⟩:=hget j _ e3
     rcases hfc j with ⟨c2,e4,e5⟩ | ⟨_,e5⟩
     ·rw [e3] at e5;subst e5
      rw [e1] at e4
      have:=Option.some.inj e4;omega
     ·have:=hc0 _ _ e1;omega
   ·exact .inl (by omega)
  ·refine List.ext_getElem? fun j=>?_
   by_cases hj:j<g.length
   ·rw [List.getElem?_take_of_lt hj,List.getElem?_map,List.getElem?_range (by omega)]
    have:=List.getElem?_eq_getElem hj
    rw [this,←hgf j _ this];rfl
   ·rw [List.getElem?_eq_none (by simp;omega),List.getElem?_eq_none (by omega)]
  ·rw [←Ww,←r2]
   refine Q2d (Wy _) r1 fun r=>?_
   rw [Xp,r3]
   constructor
   ·rintro⟨j,c,e,e2,e3⟩
    obtain⟨_,e2⟩:=hget j c e2
    rcases hfc j with ⟨c',e4,e5⟩ | ⟨_,e5⟩
    ·exact⟨c',by rw [e];exact e4⟩
    ·omega
   ·rintro⟨c,e⟩
    obtain⟨d1,d2,_⟩:=h.dom c r e
    have er:((r.toNat:Nat):Int)=r:=by omega
    refine⟨r.toNat,c,er.symm,?_,hc0 _ _ e⟩
    rw [List.getElem?_map,List.getElem?_range (by omega)]
    rw [←er] at e
    exact congrArg some (hf _ _ e)
 ·intro m hm hmg
  obtain⟨T,t1,t2,t3⟩:=h.shut
  have hmlt:∀{j:Nat} {c:Int},m[j]?=some c→j<l.length:=fun {j c} e=>by rw [←hm.len];exact (List.getElem?_eq_some_iff.1 e).1
  have hgm:∀{j:Nat} {c:Int},j<g.length→m[j]?=some c→g[j]?=some c:=fun {j c} hj e=>by rw [←hmg,List.getElem?_take_of_lt hj];exact e
  -- a robot of the search for each robot of the other matching
  obtain⟨φ,hφ⟩:∃φ:Int→Int,∀r,r∈hasM m→φ r∈rs∧((¬T r∧φ r=r)∨(T r∧T (φ r)∧∃c,m[r.toNat]?=some c∧o c=some (φ r))):=by
   have:∀r,∃r',r∈hasM m→r'∈rs∧((¬T r∧r'=r)∨(T r∧T r'∧∃c,m[r.toNat]?=some c∧o c=some r')):=fun r=>by
    by_cases hr:r∈hasM m
    ·obtain⟨j,c,e,e2,e3⟩:=Xp.1 hr
     have hj:=hmlt e2
     have hrow:c∈rowL l r:=by
      rcases hm.ok j c e2 with h | h
      ·omega
      ·rw [e];exact h.2.1
     by_cases hk:j<g.length
     ·have e4:=h.giv j c (hgm hk e2) e3
      refine⟨r,fun _=>⟨(r3 _).2 ⟨c,by rw [e];exact e4⟩,.inl ⟨fun ht=>?_,rfl⟩⟩⟩
      have:=(t1 r ht).1;omega
     ·by_cases ht:T r
      ·obtain⟨r',e4,hr'⟩:=t2 r ht c hrow
       refine⟨r',fun _=>⟨(r3 _).2 ⟨c,e4⟩,.inr ⟨ht,?_,c,by rw [e,Int.toNat_natCast];exact e2,e4⟩⟩⟩
       rcases hr' with hlt | ht'
       ·exfalso
        obtain⟨d1,d2,d3,_⟩:=h.dom c r' e4
        have h5:=d3 hlt
        have h6:m[r'.toNat]?=some c:=by
         rw [←hmg,List.getElem?_take_of_lt (by omega)] at h5;exact h5
        rcases hm.ok j c e2 with h | h
        ·omega
        ·exact h.2.2 r'.toNat (by omega) h6
       ·exact ht'
      ·refine⟨r,fun _=>⟨?_,.inl ⟨ht,rfl⟩⟩⟩
       by_cases hn:∃c,o c=some r
       ·exact (r3 _).2 hn
       ·exact absurd (t3 r (by omega) (by omega) (fun c e=>hn ⟨c,e⟩)) ht
    ·exact⟨r,fun h=>absurd h hr⟩
   exact⟨fun r=>Classical.choose (this r),fun r=>Classical.choose_spec (this r)⟩
  rw [←Ww,←r2,←List.length_map (f:=φ)]
  refine Gc ?_ (fun y hy=>?_)
  ·rw [List.Nodup,List.pairwise_map]
   refine ((Wy m).imp_of_mem fun {a b} ha hb hab e=>hab ?_)
   obtain⟨_,ha'⟩:=hφ a ha
   obtain⟨_,hb'⟩:=hφ b hb
   rcases ha' with ⟨a1,a2⟩ | ⟨a1,a2,c,a3,a4⟩ <;> rcases hb' with ⟨b1,b2⟩ | ⟨b1,b2,c',b3,b4⟩
   ·rw [←a2,e,b2]
   ·exfalso;rw [e] at a2;rw [a2] at b2;exact a1 b2
   ·exfalso;rw [e,b2] at a2;exact b1 a2
   ·rw [e] at a4
    have ec:=h.inj _ _ _ a4 b4
    subst ec
    obtain⟨ja,ca,ea,ea2,ea3⟩:=Xp.1 ha
    obtain⟨jb,cb,eb,eb2,eb3⟩:=Xp.1 hb
    rw [ea,Int.toNat_natCast] at a3
    rw [eb,Int.toNat_natCast] at b3
    rw [ea2] at a3;cases a3
    rw [eb2] at b3;cases b3
    rcases Nat.lt_trichotomy ja jb with hlt | heq | hgt
    ·rcases hm.ok jb c eb2 with h | h
     ·omega
     ·exact absurd ea2 (h.2.2 ja hlt)
    ·rw [ea,eb,heq]
    ·rcases hm.ok ja c ea2 with h | h
     ·omega
     ·exact absurd eb2 (h.2.2 jb hgt)
  ·obtain⟨r,hr,rfl⟩:=List.mem_map.1 hy
   exact (hφ r hr).1
def Q3O (l:List (List Int)) (m:List Int):Prop:=∃T:Int→Prop,(∀j:Nat,m[j]?=some (-1)→T j)∧∀r,T r→∀c,c∈rowL l r→∃j:Nat,T j∧m[j]?=some c
theorem KI.tight (h:KI l [] l.length o n) {m:List Int} (hm:Mat l m) (hs:szM m=n):Q3O l m:=by
 obtain⟨rs,r1,r2,r3⟩:=h.cnt
 obtain⟨T,t1,t2,t3⟩:=h.shut
 classical
 have hmlt:∀{j:Nat} {c:Int},m[j]?=some c→j<l.length:=fun {j c} e=>by rw [←hm.len];exact (List.getElem?_eq_some_iff.1 e).1
 obtain⟨φ,hφ⟩:∃φ:Int→Int,∀r,r∈hasM m→φ r∈rs∧((¬T r∧φ r=r)∨(T r∧T (φ r)∧∃c,m[r.toNat]?=some c∧o c=some (φ r))):=by
  have:∀r,∃r',r∈hasM m→r'∈rs∧((¬T r∧r'=r)∨(T r∧T r'∧∃c,m[r.toNat]?=some c∧o c=some r')):=fun r=>by
   by_cases hr:r∈hasM m
   ·obtain⟨j,c,e,e2,e3⟩:=Xp.1 hr
    have hj:=hmlt e2
    have hrow:c∈rowL l r:=by
     rcases hm.ok j c e2 with h | h
     ·omega
     ·rw [e];exact h.2.1
    by_cases ht:T r
    ·obtain⟨r',e4,hr'⟩:=t2 r ht c hrow
     refine⟨r',fun _=>⟨(r3 _).2 ⟨c,e4⟩,.inr ⟨ht,?_,c,by rw [e,Int.toNat_natCast];exact e2,e4⟩⟩⟩
     rcases hr' with hlt | ht'
     ·have:=(h.dom c r' e4).1;simp at hlt;omega
     ·exact ht'
    ·refine⟨r,fun _=>⟨?_,.inl ⟨ht,rfl⟩⟩⟩
     by_cases hn:∃c,o c=some r
     ·exact (r3 _).2 hn
     ·exact absurd (t3 r (by simp;omega) (by omega) (fun c e=>hn ⟨c,e⟩)) ht
   ·exact⟨r,fun h=>absurd h hr⟩
  exact⟨fun r=>Classical.choose (this r),fun r=>Classical.choose_spec (this r)⟩
 have hnd:((hasM m).map φ).Nodup:=by
  rw [List.Nodup,List.pairwise_map]
  refine ((Wy m).imp_of_mem fun {a b} ha hb hab e=>hab ?_)
  obtain⟨_,ha'⟩:=hφ a ha
  obtain⟨_,hb'⟩:=hφ b hb
  rcases ha' with ⟨a1,a2⟩ | ⟨a1,a2,c,a3,a4⟩ <;> rcases hb' with ⟨b1,b2⟩ | ⟨b1,b2,c',b3,b4⟩
  ·rw [←a2,e,b2]
  ·exfalso;rw [e] at a2;rw [a2] at b2;exact a1 b2
  ·exfalso;rw [e,b2] at a2;exact b1 a2
  ·rw [e] at a4
   have ec:=h.inj _ _ _ a4 b4
   subst ec
   obtain⟨ja,ca,ea,ea2,ea3⟩:=Xp.1 ha
   obtain⟨jb,cb,eb,eb2,eb3⟩:=Xp.1 hb
   rw [ea,Int.toNat_natCast] at a3
   rw [eb,Int.toNat_natCast] at b3
   rw [ea2] at a3;cases a3
   rw [eb2] at b3;cases b3
   rcases Nat.lt_trichotomy ja jb with hlt | heq | hgt
   ·rcases hm.ok jb c eb2 with h | h
    ·omega
    ·exact absurd ea2 (h.2.2 ja hlt)
   ·rw [ea,eb,heq]
   ·rcases hm.ok ja c ea2 with h | h
    ·omega
    ·exact absurd eb2 (h.2.2 jb hgt)
 have hall:∀r,r∈rs→r∈(hasM m).map φ:=fun r hr=>Q2G hnd (fun y hy=>by
  obtain⟨r,hr,rfl⟩:=List.mem_map.1 hy
  exact (hφ r hr).1) (by rw [List.length_map,Ww,hs];omega) hr
 refine⟨fun r=>T r,fun j hj=>?_,fun r hr c hc=>?_⟩
 ·-- a robot that is not in T has a charger
  by_cases ht:T j
  ·exact ht
  ·exfalso
   have hjl:=hmlt hj
   have hjr:(j:Int)∈rs:=by
    by_cases hn:∃c,o c=some (j:Int)
    ·exact (r3 _).2 hn
    ·exact absurd (t3 j (by simp) (by omega) (fun c e=>hn ⟨c,e⟩)) ht
   obtain⟨r,hr,e⟩:=List.mem_map.1 (hall _ hjr)
   rcases (hφ r hr).2 with ⟨a1,a2⟩ | ⟨a1,a2,_⟩
   ·rw [e] at a2
    subst a2
    obtain⟨j',c,e1,e2,e3⟩:=Xp.1 hr
    have:j'=j:=by omega
    subst this
    rw [hj] at e2;cases e2;omega
   ·rw [e] at a2;exact ht a2
 ·obtain⟨r',e,hr'⟩:=t2 r hr c hc
  have ht':T r':=by
   rcases hr' with h1 | h1
   ·have:=(h.dom c r' e).1;simp at h1;omega
   ·exact h1
  obtain⟨r2',hr2,e2⟩:=List.mem_map.1 (hall r' ((r3 _).2 ⟨c,e⟩))
  rcases (hφ r2' hr2).2 with ⟨a1,a2⟩ | ⟨a1,a2,c',a3,a4⟩
  ·rw [e2] at a2;rw [a2] at ht';exact absurd ht' a1
  ·rw [e2] at a4
   have:=h.inj _ _ _ a4 e
   subst this
   obtain⟨j,c0,e3,_⟩:=Xp.1 hr2
   refine⟨j,by rw [←e3];exact a1,?_⟩
   rw [e3,Int.toNat_natCast] at a3;exact a3
end
end Go.Taq
/- The mathematics, part DB: the search for a charger, and the greatest size, by the code (chapter 34). -/
set_option linter.unusedVariables false
set_option linter.unusedSimpArgs false
namespace Go.Taq
open Go
structure FewL (l:List (List Int)):Prop where
 len:l.length≤12
 row:∀r,r∈l→r.length≤10
 num:∀r,r∈l→∀c,c∈r→0≤c∧c≤63
theorem Q0v {l:List (List Int)} {x:Int} (h0:0≤x) (h1:x<l.length):l[x.toNat]?=some (rowL l x)∧idx l x=some (rowL l x):=by
 have h:=List.getElem?_eq_getElem (show x.toNat<l.length by omega)
 have e:rowL l x=l[x.toNat]'(by omega):=by unfold rowL;rw [List.getD_eq_getElem?_getD,h];rfl
 rw [e]
 exact⟨h,Qe (n:=x.toNat) (by omega) h⟩
theorem FewL.bd {l:List (List Int)} (h:FewL l) {r c:Int} (hc:c∈rowL l r):0≤c∧c≤63:=by
 unfold rowL at hc
 rw [List.getD_eq_getElem?_getD] at hc
 cases he:l[r.toNat]? with
 | none=>rw [he] at hc;simp at hc
 | some x=>rw [he] at hc;exact h.num x (List.mem_of_getElem? he) c hc
theorem FewL.rlen {l:List (List Int)} (h:FewL l) (r:Int):(rowL l r).length≤10:=by
 unfold rowL
 rw [List.getD_eq_getElem?_getD]
 cases he:l[r.toNat]? with
 | none=>simp
 | some x=>exact h.row x (List.mem_of_getElem? he)
def mu (S:Int→Bool):Nat:=((List.range 64).filter fun c:Nat=>!S c).length
theorem Q4A {S S':Int→Bool} (h:∀c,S c=true→S' c=true):mu S'≤mu S:=by
 unfold mu
 rw [←List.countP_eq_length_filter,←List.countP_eq_length_filter]
 refine List.countP_mono_left fun c _ hc=>?_
 cases hs:S c with
 | false=>rfl
 | true=>rw [h _ hs] at hc;cases hc
theorem Q4u {S S':Int→Bool} (h:∀c,S c=true→S' c=true) {c:Int} (hc:0≤c∧c≤63) (h1:S c=false) (h2:S' c=true):mu S'<mu S:=by
 unfold mu
 rw [←List.countP_eq_length_filter,←List.countP_eq_length_filter]
 have key:∀xs:List Nat,c.toNat∈xs→xs.countP (fun c:Nat=>!S' c)<xs.countP (fun c:Nat=>!S c):=fun xs hx=>by
  induction xs with
  | nil=>cases hx
  | cons b xs ih=>
   have hm:xs.countP (fun c:Nat=>!S' c)≤xs.countP (fun c:Nat=>!S c):=List.countP_mono_left fun d _ hd=>by
    cases hs:S d with
    | false=>rfl
    | true=>rw [h _ hs] at hd;cases hd
   rw [List.countP_cons,List.countP_cons]
   by_cases e:b=c.toNat
   ·subst e
    have ec:((c.toNat:Nat):Int)=c:=by omega
    rw [ec,h1,h2];simp;omega
   ·have:=ih ((List.mem_cons.1 hx).resolve_left fun e'=>e e'.symm)
    have hb:(if (!S' b)=true then 1 else 0)≤(if (!S b)=true then 1 else 0):=by
     cases hs:S b with
     | false=>simp;split <;> omega
     | true=>rw [h _ hs];simp
    omega
 exact key _ (List.mem_range.2 (by omega))
theorem Q0w {κ α:Type} [DecidableEq κ]:∀(xs:List (κ×α)) (k:κ) (y:α),(upd xs k y).length=if (lk xs k).isSome=true then xs.length else xs.length+1
 | [],k,y=>by simp [upd,lk]
 | p :: r,k,y=>by
  have ih:=Q0w r k y
  by_cases h:p.1=k
  ·have e1:lk (p :: r) k=some p.2:=by show (if p.1=k then some p.2 else lk r k)=_;rw [if_pos h]
   have e2:upd (p :: r) k y=(k,y) :: r:=by show (if p.1=k then _ else _)=_;rw [if_pos h]
   rw [e1,e2];simp
  ·have e1:lk (p :: r) k=lk r k:=by show (if p.1=k then some p.2 else lk r k)=_;rw [if_neg h]
   have e2:upd (p :: r) k y=p :: upd r k y:=by show (if p.1=k then _ else _)=_;rw [if_neg h]
   rw [e1,e2,List.length_cons,ih]
   split <;> simp
def sB (sn:List (Int×Bool)) (c:Int):Bool:=(lk sn c).getD false
theorem Q2D {sn:List (Int×Bool)} {c d:Int}:sB (upd sn c true) d=true↔sB sn d=true∨d=c:=by
 unfold sB
 rw [YG]
 by_cases h:c=d
 ·subst h;simp
 ·rw [if_neg h]
  exact⟨.inl,fun h2=>h2.elim id (fun e=>absurd e.symm h)⟩
section
variable {l:List (List Int)}
theorem Q2f (hl:FewL l) {X:(Int×Q5×List (Int×Bool)×Int)→((Bool×Q5×List (Int×Bool)×Int)→Prop)→Prop}
  (hX:∀s p,Qg X s.1 s.2.1 s.2.2.1 s.2.2.2 p→X s p) (k:Int):
  ∀(n:Nat) (x:Int) (ow:List (Int×Int)) (sn:List (Int×Bool)) (post:Bool×Q5×List (Int×Bool)×Int→Prop),mu (sB sn)<n→0≤x→x<l.length→(∀c r,lk ow c=some r→0≤r∧r<l.length) →
   (∀ow' sn' p,Aug l k (lk ow) x p→(∀c,lk ow' c=apO p (lk ow) c)→ow'.length=ow.length+1→(∀q,q∈p→sB sn q.1=false)→post (true,⟨l,ow'⟩,sn',k)) →
   (∀sn',Stk l k (lk ow) x (fun c=>sB sn c=true) (fun c=>sB sn' c=true)→post (false,⟨l,ow⟩,sn',k))→X (x,⟨l,ow⟩,sn,k) post
 | 0,_,_,_,_,h,_,_,_,_,_=>by omega
 | n+1,x,ow,sn,post,hmu,h0,h1,hval,hS,hF=>by
  refine hX _ _ ?_
  unfold Qg
  have hrl:=hl.rlen x
  refine⟨rowL l x,(Q0v h0 h1).2,Jn.mk (fun t=>∃sn',t=(l,ow,sn',k)∧Stk l k (lk ow) x (fun c=>sB sn c=true) (fun c=>sB sn' c=true)) (Loop.mk
   (fun t:List (List Int)×List (Int×Int)×List (Int×Bool)×Int×Int=>∃(j:Nat) (sn':List (Int×Bool)),t=(l,ow,sn',k,(j:Int))∧j≤(rowL l x).length∧(∀c,sB sn c=true→sB sn' c=true)∧(∀c,c∈(rowL l x).take j→sB sn' c=true)∧∀c,sB sn' c=true→sB sn c=true∨∃r,lk ow c=some r∧(r<k∨∀c2,c2∈rowL l r→sB sn' c2=true))
   (fun t=>(rowL l x).length-t.2.2.2.2.toNat) ⟨0,sn,rfl,by omega,fun _ h=>h,fun c hc=>by simp at hc,fun c hc=>.inl hc⟩ ?_) (fun t ht=>by obtain⟨sn',e,hs⟩:=ht;subst e;exact hF sn' hs)⟩
  rintro t ⟨j,sj,e,hj,s1,s2,s3⟩
  subst e
  refine Ite.mk (fun hlt=>?_) (fun hnlt=>?_)
  case refine_2=>
   have:¬((j:Int)<(rowL l x).length):=of_decide_eq_false hnlt
   have ej:j=(rowL l x).length:=by omega
   rw [ej,List.take_length] at s2
   exact⟨sj,rfl,s1,s2,s3⟩
  have hlt':j<(rowL l x).length:=by have h:(j:Int)<(rowL l x).length:=of_decide_eq_true hlt;omega
  have hc:=List.getElem?_eq_getElem hlt'
  generalize (rowL l x)[j]=c at hc
  have hcm:=List.mem_of_getElem? hc
  have hcb:=hl.bd hcm
  have ew:w64 ((j:Int)+1)=((j+1:Nat):Int):=by rw [Q6 (by omega) (by omega)];simp
  have next:∀s':List (Int×Bool),(∀c,sB sn c=true→sB s' c=true)→(∀d,d∈(rowL l x).take j→sB s' d=true)→sB s' c=true→(∀c,sB s' c=true→sB sn c=true∨∃r,lk ow c=some r∧(r<k∨∀c2,c2∈rowL l r→sB s' c2=true)) →
    ((∃(j':Nat) (sn':List (Int×Bool)),(l,ow,s',k,w64 ((j:Int)+1))=(l,ow,sn',k,(j':Int))∧j'≤(rowL l x).length∧(∀c,sB sn c=true→sB sn' c=true)∧(∀c,c∈(rowL l x).take j'→sB sn' c=true)∧∀c,sB sn' c=true→sB sn c=true∨∃r,lk ow c=some r∧(r<k∨∀c2,c2∈rowL l r→sB sn' c2=true))∧(rowL l x).length-(w64 ((j:Int)+1)).toNat<(rowL l x).length-((j:Int)).toNat):=fun s' g1 g2 g3 g4=>by
   refine⟨⟨j+1,s',by rw [ew],by omega,g1,fun d hd=>?_,g4⟩,by rw [ew];omega⟩
   rw [QE hc] at hd
   rcases List.mem_append.1 hd with h | h
   ·exact g2 d h
   ·simp at h;subst h;exact g3
  refine Jn.mk' ⟨c,Qe rfl hc,Ite.mk (fun hs=>next sj s1 s2 hs s3) (fun hs=>?_)⟩
  have hs':sB sj c=false:=hs
  have u1:∀d,sB sj d=true→sB (upd sj c true) d=true:=fun d hd=>Q2D.2 (.inl hd)
  have u2:sB (upd sj c true) c=true:=Q2D.2 (.inr rfl)
  have hnew:∀(s':List (Int×Bool)),(∀d,sB (upd sj c true) d=true→sB s' d=true)→(∀d,sB s' d=true→sB (upd sj c true) d=true∨∃r,lk ow d=some r∧(r<k∨∀c2,c2∈rowL l r→sB s' c2=true))→(∃r,lk ow c=some r∧(r<k∨∀c2,c2∈rowL l r→sB s' c2=true)) →
    ∀d,sB s' d=true→sB sn d=true∨∃r,lk ow d=some r∧(r<k∨∀c2,c2∈rowL l r→sB s' c2=true):=fun s' g1 g2 g3 d hd=>by
   rcases g2 d hd with h | h
   ·rcases Q2D.1 h with h | h
    ·rcases s3 d h with h | ⟨r,h4,h5⟩
     ·exact .inl h
     ·exact .inr ⟨r,h4,h5.imp id (fun h c2 hc2=>g1 _ (u1 _ (h c2 hc2)))⟩
    ·subst h;exact .inr g3
   ·exact .inr h
  refine Jn.mk' (Ite.mk (fun ho=>?_) (fun ho=>?_))
  ·obtain⟨r,hr⟩:=Option.isSome_iff_exists.1 ho
   have e0:(lk ow c).getD 0=r:=by rw [hr];rfl
   have hv:=hval c r hr
   refine Ite.mk (fun hk=>?_) (fun hk=>?_)
   ·have hk':k≤r:=by
     have h:(lk ow c).getD 0≥k:=of_decide_eq_true hk
     rw [e0] at h;exact h
    show X ((lk ow c).getD 0,⟨l,ow⟩,upd sj c true,k) _
    rw [e0]
    have hm1:mu (sB (upd sj c true))<mu (sB sj):=Q4u u1 hcb hs' u2
    have hm2:=Q4A (S:=sB sn) (S':=sB sj) s1
    refine Q2f hl hX k n r ow (upd sj c true) _ (by omega) hv.1 hv.2 hval (fun ow' sn' p g1 g2 g3 g4=>?_) (fun sn' g=>?_)
    ·have hpc:∀q,q∈p→q.1≠c:=fun q hq e=>by
      have:=g4 q hq
      rw [e,u2] at this;cases this
     refine Ite.t rfl (hS (upd ow' c x) sn' ((c,x) :: p) (.step hcm hr hk' g1 hpc) (fun d=>?_) ?_ (fun q hq=>?_))
     ·rw [YG,g2]
      show _=if c=d then some x else apO p (lk ow) d
      rfl
     ·have:(lk ow' c).isSome=true:=by
       rw [g2]
       rcases KU (o:=lk ow) p c with ⟨q,h1,h2,_⟩ | ⟨_,h2⟩
       ·exact absurd h2 (hpc q h1)
       ·rw [h2,hr];rfl
      rw [Q0w,if_pos this,g3]
     ·rcases List.mem_cons.1 hq with e | hq
      ·subst e
       cases hb:sB sn c with
       | false=>rfl
       | true=>rw [s1 _ hb] at hs';cases hs'
      ·cases hb:sB sn q.1 with
       | false=>rfl
       | true=>have:=g4 q hq;rw [u1 _ (s1 _ hb)] at this;cases this
    ·obtain⟨f1,f2,f3⟩:=g
     exact Ite.f rfl (next sn' (fun d hd=>f1 _ (u1 _ (s1 _ hd))) (fun d hd=>f1 _ (u1 _ (s2 d hd))) (f1 _ u2) (hnew sn' f1 f3 ⟨r,hr,.inr f2⟩))
   ·have hk':r<k:=by
     have h:¬(lk ow c).getD 0≥k:=of_decide_eq_false hk
     rw [e0] at h;omega
    exact Ite.f rfl (next (upd sj c true) (fun d hd=>u1 _ (s1 _ hd)) (fun d hd=>u1 _ (s2 d hd)) u2 (hnew _ (fun _ h=>h) (fun d hd=>.inl hd) ⟨r,hr,.inl hk'⟩))
  ·have hn:lk ow c=none:=Option.isNone_iff_eq_none.1 (by rw [←Option.not_isSome];simpa using ho)
   refine Ite.t rfl (hS (upd ow c x) (upd sj c true) [(c,x)] (.free hcm hn) (fun d=>by rw [YG];rfl) (by rw [Q0w,if_neg (by rw [hn];simp)]) (fun q hq=>?_))
   simp at hq;subst hq
   cases hb:sB sn c with
   | false=>rfl
   | true=>rw [s1 _ hb] at hs';cases hs'
theorem Q1U (hl:FewL l) {k x:Int} {ow:List (Int×Int)} {post:Bool×Q5→Prop} (h0:0≤x) (h1:x<l.length) (hval:∀c r,lk ow c=some r→0≤r∧r<l.length)
  (hS:∀ow' p,Aug l k (lk ow) x p→(∀c,lk ow' c=apO p (lk ow) c)→ow'.length=ow.length+1→post (true,⟨l,ow'⟩)) (hF:∀S',Stk l k (lk ow) x (fun _=>False) S'→post (false,⟨l,ow⟩)):QK x k ⟨l,ow⟩ post:=by
 unfold QK QH
 intro X hX
 refine Q2f hl hX k _ x ow [] _ (Nat.lt_succ_self _) h0 h1 hval (fun ow' sn' p g1 g2 g3 _=>hS ow' p g1 g2 g3) (fun sn' g=>hF (fun c=>sB sn' c=true) ⟨fun _ h=>h.elim,g.2.1,fun c hc=>(g.2.2 c hc).imp (fun h=>?_) id⟩)
 simp [sB,lk] at h
/-! ## the greatest size -/
structure GivO (g:List Int) (i:Nat) (o:Int→Option Int):Prop where
 dom:∀c r,o c=some r→0≤r∧r<i∧g[r.toNat]?=some c∧0≤c
 giv:∀(j:Nat) c,j<i→g[j]?=some c→0≤c→o c=some (j:Int)
theorem GivO.inj {g:List Int} {i:Nat} {o:Int→Option Int} (h:GivO g i o) {c c' r:Int} (e:o c=some r) (e':o c'=some r):c=c':=by
 have h1:=(h.dom c r e).2.2.1
 have h2:=(h.dom c' r e').2.2.1
 rw [h1] at h2;exact Option.some.inj h2
theorem GivO.start {g:List Int} {o:Int→Option Int} {n:Nat} (h:GivO g g.length o) (hc:∃rs:List Int,rs.Nodup∧rs.length=n∧∀r,r∈rs↔∃c,o c=some r):KI l g g.length o n where
 dom:=fun c r e=>by
  obtain⟨d1,d2,d3,d4⟩:=h.dom c r e
  exact⟨d1,d2,fun _=>d3,fun hn=>absurd d2 hn⟩
 giv:=fun j c hj h0=>h.giv j c (List.getElem?_eq_some_iff.1 hj).1 hj h0
 inj:=fun c c' r e e'=>h.inj e e'
 shut:=⟨fun _=>False,fun r h=>h.elim,fun r h=>h.elim,fun r h1 h2=>by omega⟩
 cnt:=hc
structure Q1S (l:List (List Int)) (g:List Int) (v:Nat):Prop where
 ex:∃o,KI l g l.length o v∧∀c,o c≠none→0≤c
theorem Q1S.most {g:List Int} {v:Nat} (h:Q1S l g v) (hg:Beg l g):Most l g v:=by
 obtain⟨o,h1,h2⟩:=h.ex
 exact h1.most hg h2
theorem Q1S.tight {v:Nat} (h:Q1S l [] v) {m:List Int} (hm:Mat l m) (hs:szM m=v):Q3O l m:=by
 obtain⟨o,h1,h2⟩:=h.ex
 exact h1.tight hm hs
theorem Zp (hl:FewL l) {g:List Int} (hg:Beg l g) {post:Int→Prop} (hp:∀v:Nat,Q1S l g v→v≤24→post v):XF l g post:=by
 have hln:=hl.len
 have hgl:=hg.len
 unfold XF
 refine Jn.mk (fun ow=>GivO g g.length (lk ow)∧∃rs:List Int,rs.Nodup∧rs.length=ow.length∧∀r,r∈rs↔∃c,lk ow c=some r) (XP (xs:=g) (by unfold maxLen;omega) (fun t:List (Int×Int)×Int=>t.2) (fun i t=>GivO g i (lk t.1)∧∃rs:List Int,rs.Nodup∧rs.length=t.1.length∧∀r,r∈rs↔∃c,lk t.1 c=some r) rfl
  ⟨⟨fun c r e=>by simp [lk] at e,fun j c hj=>by omega⟩,[],.nil,rfl,fun r=>by simp [lk]⟩ (fun i c t hc ht hI=>?_) (fun t hI=>hI)) (fun ow how=>?_)
 ·obtain⟨⟨d,gv⟩,rs,r1,r2,r3⟩:=hI
  have hi:=(List.getElem?_eq_some_iff.1 hc).1
  rw [ht]
  refine Jn.mk (fun ow=>GivO g (i+1) (lk ow)∧∃rs:List Int,rs.Nodup∧rs.length=ow.length∧∀r,r∈rs↔∃c,lk ow c=some r) (Ite.mk (fun h=>?_) (fun h=>?_)) (fun ow how=>⟨rfl,how⟩)
  ·have h0:0≤c:=of_decide_eq_true h
   have hnc:lk t.1 c=none:=by
    cases he:lk t.1 c with
    | none=>rfl
    | some r=>
     obtain⟨d1,d2,d3,_⟩:=d c r he
     rcases hg.ok i c hc with e | ⟨_,_,e⟩
     ·omega
     ·exact absurd d3 (e r.toNat (by omega))
   refine⟨⟨fun c' r e=>?_,fun j c' hj hc' h0'=>?_⟩,(i:Int) :: rs,List.nodup_cons.2 ⟨fun hm=>?_,r1⟩,?_,fun r=>?_⟩
   ·rw [YG] at e
    split at e
    ·rename_i e2
     cases e;subst e2
     exact⟨by omega,by omega,by rw [Int.toNat_natCast];exact hc,h0⟩
    ·obtain⟨d1,d2,d3⟩:=d c' r e
     exact⟨d1,by omega,d3⟩
   ·rw [YG]
    by_cases e:j=i
    ·subst e;rw [hc] at hc';cases hc';rw [if_pos rfl]
    ·have:=gv j c' (by omega) hc' h0'
     rw [if_neg (fun e2=>by subst e2;rw [hnc] at this;cases this),this]
   ·obtain⟨c',hc'⟩:=(r3 _).1 hm
    have:=(d c' _ hc').2.1;omega
   ·rw [Q0w,if_neg (by rw [hnc];simp),List.length_cons,r2]
   ·rw [List.mem_cons,r3]
    constructor
    ·rintro (e | ⟨c',hc'⟩)
     ·exact⟨c,by rw [YG,if_pos rfl,e]⟩
     ·exact⟨c',by rw [YG,if_neg (fun e2=>by subst e2;rw [hnc] at hc';cases hc')];exact hc'⟩
    ·rintro⟨c',hc'⟩
     rw [YG] at hc'
     split at hc'
     ·exact .inl (Option.some.inj hc').symm
     ·exact .inr ⟨c',hc'⟩
  ·have h0:¬0≤c:=of_decide_eq_false h
   refine⟨⟨fun c' r e=>?_,fun j c' hj hc' h0'=>?_⟩,rs,r1,r2,r3⟩
   ·obtain⟨d1,d2,d3⟩:=d c' r e
    exact⟨d1,by omega,d3⟩
   ·by_cases e:j=i
    ·subst e;rw [hc] at hc';cases hc';exact absurd h0' h0
    ·exact gv j c' (by omega) hc' h0'
 ·obtain⟨hG,hC⟩:=how
  have hK:KI l g g.length (lk ow) ow.length:=hG.start hC
  refine Jn.mk (fun t=>∃ow',t=(l,ow')∧KI l g l.length (lk ow') ow'.length∧∀c,lk ow' c≠none→0≤c) (Loop.mk (fun t:List (List Int)×List (Int×Int)×Int=>∃(i:Nat) (ow':List (Int×Int)),t=(l,ow',(i:Int))∧g.length≤i∧i≤l.length∧KI l g i (lk ow') ow'.length∧∀c,lk ow' c≠none→0≤c) (fun t=>l.length-t.2.2.toNat) ⟨g.length,ow,rfl,Nat.le_refl _,hgl,hK,fun c hc=>?_⟩ ?_) (fun t ht=>?_)
  ·cases he:lk ow c with
   | none=>exact absurd he hc
   | some r=>exact (hG.dom c r he).2.2.2
  ·rintro t ⟨i,ow',e,h1,h2,hI,hn⟩
   subst e
   refine Ite.mk (fun hlt=>?_) (fun hnlt=>?_)
   ·have hlt':i<l.length:=by have h:(i:Int)<l.length:=of_decide_eq_true hlt;omega
    have ew:w64 ((i:Int)+1)=((i+1:Nat):Int):=by rw [Q6 (by omega) (by omega)];simp
    refine Q1U hl (by show (0:Int)≤(i:Int);omega) (by show (i:Int)<(l.length:Int);omega) (fun c r e=>?_) (fun ow2 p g1 g2 g3=>?_) (fun S' g1=>?_)
    ·have:=hI.dom c r e;omega
    ·refine⟨⟨i+1,ow2,by rw [←ew],by omega,by omega,?_,fun c hc=>?_⟩,by show l.length-(w64 ((i:Int)+1)).toNat<l.length-((i:Int)).toNat;rw [ew];omega⟩
     ·have:=hI.grow h1 g1
      rw [g3]
      have e:lk ow2=apO p (lk ow'):=funext g2
      rw [e];exact this
     ·rw [g2] at hc
      rcases KU (o:=lk ow') p c with ⟨q,q1,q2,_⟩ | ⟨_,q2⟩
      ·have:=hl.bd (g1.row q q1);omega
      ·rw [q2] at hc;exact hn c hc
    ·refine⟨⟨i+1,ow',by rw [←ew],by omega,by omega,hI.stuck h1 g1,hn⟩,by show l.length-(w64 ((i:Int)+1)).toNat<l.length-((i:Int)).toNat;rw [ew];omega⟩
   ·have ei:i=l.length:=by have h:¬(i:Int)<l.length:=of_decide_eq_false hnlt;omega
    subst ei
    exact⟨ow',rfl,hI,hn⟩
  ·obtain⟨ow',e,hI,hn⟩:=ht
   subst e
   refine hp ow'.length ⟨⟨_,hI,hn⟩⟩ ?_
   obtain⟨rs,r1,r2,r3⟩:=hI.cnt
   have hsub:=Gc (a:=rs) (b:=(List.range l.length).map fun (j:Nat)=>(j:Int)) r1 (fun r hr=>by
    obtain⟨c,hc⟩:=(r3 r).1 hr
    obtain⟨d1,d2,_⟩:=hI.dom c r hc
    exact List.mem_map.2 ⟨r.toNat,List.mem_range.2 (by omega),by omega⟩)
   simp at hsub;omega
end
end Go.Taq
